/- Part 4 of 4: plain readings of code, rules for them, and a proof over them, joined by a program. Conditions: none. -/
import Derived.Test.YtbimoajgofcmbaaIpOk3
import Derived.Test.YtbimoajgofcmbaaRows
import Derived.WalkKit
import Derived.ProofKit
import Derived.OpenShut
import Derived.ShutString
import Derived.ChangeOld
import Derived.Below
import Derived.Carry
import Derived.SizedLaws
/- The law's own functions over trees: copies, sizes, comparisons, marks; printed by a program. Conditions: none. -/
set_option linter.unusedVariables false
set_option linter.unusedSimpArgs false
set_option maxRecDepth 4000
namespace Go.Proofs.Ytbimoajgofcmbaa
open Go Go.Den
theorem has_Msg {d : Dat} (h : Has TyMsg d) : ∃ x_0 : Int, ∃ l_1 : List Dat, ∃ x_2 : Int, d = .st [.int .i64 x_0, .sl 1 l_1, .int .i64 x_2] ∧ (∀ e, e ∈ l_1 → Has (.int .u8) e) := by
  obtain ⟨_, rfl, g⟩ := has_st h
  obtain ⟨_, _, rfl, h_0, g⟩ := hasF_cons g
  obtain ⟨_, _, rfl, h_1, g⟩ := hasF_cons g
  obtain ⟨_, _, rfl, h_2, g⟩ := hasF_cons g
  obtain rfl := hasF_nil g
  obtain ⟨x_0, rfl⟩ := has_int h_0
  obtain ⟨l_1, rfl, t_1⟩ := has_sl h_1
  obtain ⟨x_2, rfl⟩ := has_int h_2
  exact ⟨x_0, l_1, x_2, rfl, t_1⟩
theorem cells_Msg {w : World} {x_0 : Int} {l_1 : List Dat} {x_2 : Int} {cs : List Value} (h : IsD w (.st [.int .i64 x_0, .sl 1 l_1, .int .i64 x_2]) cs) : ∃ s_1 : Sl, cs = [.int .i64 x_0, .slice s_1.a s_1.len s_1.cap, .int .i64 x_2] ∧ ((Lit.int .i64 x_0).wf = true) ∧ (IsD w (.sl 1 l_1) [.slice s_1.a s_1.len s_1.cap]) ∧ ((Lit.int .i64 x_2).wf = true) := by
  have q := isD_st h
  obtain ⟨_, _, rfl, i_0, q⟩ := isF_cons q
  obtain ⟨_, _, rfl, i_1, q⟩ := isF_cons q
  obtain ⟨_, _, rfl, i_2, q⟩ := isF_cons q
  obtain rfl := isF_nil q
  obtain ⟨rfl, ws_0⟩ := isD_int i_0
  obtain ⟨s_1, rfl⟩ := isD_sl_s i_1
  have is_1 := i_1
  obtain ⟨rfl, ws_2⟩ := isD_int i_2
  exact ⟨s_1, rfl, ws_0, is_1, ws_2⟩
theorem has_Port {d : Dat} (h : Has TyPort d) : ∃ x_0 : Int, ∃ l_1 : List Dat, d = .st [.int .i64 x_0, .sl 3 l_1] ∧ (∀ e, e ∈ l_1 → Has TyMsg e) := by
  obtain ⟨_, rfl, g⟩ := has_st h
  obtain ⟨_, _, rfl, h_0, g⟩ := hasF_cons g
  obtain ⟨_, _, rfl, h_1, g⟩ := hasF_cons g
  obtain rfl := hasF_nil g
  obtain ⟨x_0, rfl⟩ := has_int h_0
  obtain ⟨l_1, rfl, t_1⟩ := has_sl h_1
  exact ⟨x_0, l_1, rfl, t_1⟩
theorem cells_Port {w : World} {x_0 : Int} {l_1 : List Dat} {cs : List Value} (h : IsD w (.st [.int .i64 x_0, .sl 3 l_1]) cs) : ∃ s_1 : Sl, cs = [.int .i64 x_0, .slice s_1.a s_1.len s_1.cap] ∧ ((Lit.int .i64 x_0).wf = true) ∧ (IsD w (.sl 3 l_1) [.slice s_1.a s_1.len s_1.cap]) := by
  have q := isD_st h
  obtain ⟨_, _, rfl, i_0, q⟩ := isF_cons q
  obtain ⟨_, _, rfl, i_1, q⟩ := isF_cons q
  obtain rfl := isF_nil q
  obtain ⟨rfl, ws_0⟩ := isD_int i_0
  obtain ⟨s_1, rfl⟩ := isD_sl_s i_1
  have is_1 := i_1
  exact ⟨s_1, rfl, ws_0, is_1⟩
theorem has_Cap {d : Dat} (h : Has TyCap d) : ∃ x_0 : Int, ∃ x_1 : Int, ∃ x_2 : Int, ∃ x_3 : Int, ∃ x_4 : Int, d = .st [.int .i64 x_0, .int .i64 x_1, .int .i64 x_2, .int .i64 x_3, .int .i64 x_4] := by
  obtain ⟨_, rfl, g⟩ := has_st h
  obtain ⟨_, _, rfl, h_0, g⟩ := hasF_cons g
  obtain ⟨_, _, rfl, h_1, g⟩ := hasF_cons g
  obtain ⟨_, _, rfl, h_2, g⟩ := hasF_cons g
  obtain ⟨_, _, rfl, h_3, g⟩ := hasF_cons g
  obtain ⟨_, _, rfl, h_4, g⟩ := hasF_cons g
  obtain rfl := hasF_nil g
  obtain ⟨x_0, rfl⟩ := has_int h_0
  obtain ⟨x_1, rfl⟩ := has_int h_1
  obtain ⟨x_2, rfl⟩ := has_int h_2
  obtain ⟨x_3, rfl⟩ := has_int h_3
  obtain ⟨x_4, rfl⟩ := has_int h_4
  exact ⟨x_0, x_1, x_2, x_3, x_4, rfl⟩
theorem cells_Cap {w : World} {x_0 : Int} {x_1 : Int} {x_2 : Int} {x_3 : Int} {x_4 : Int} {cs : List Value} (h : IsD w (.st [.int .i64 x_0, .int .i64 x_1, .int .i64 x_2, .int .i64 x_3, .int .i64 x_4]) cs) : cs = [.int .i64 x_0, .int .i64 x_1, .int .i64 x_2, .int .i64 x_3, .int .i64 x_4] ∧ ((Lit.int .i64 x_0).wf = true) ∧ ((Lit.int .i64 x_1).wf = true) ∧ ((Lit.int .i64 x_2).wf = true) ∧ ((Lit.int .i64 x_3).wf = true) ∧ ((Lit.int .i64 x_4).wf = true) := by
  have q := isD_st h
  obtain ⟨_, _, rfl, i_0, q⟩ := isF_cons q
  obtain ⟨_, _, rfl, i_1, q⟩ := isF_cons q
  obtain ⟨_, _, rfl, i_2, q⟩ := isF_cons q
  obtain ⟨_, _, rfl, i_3, q⟩ := isF_cons q
  obtain ⟨_, _, rfl, i_4, q⟩ := isF_cons q
  obtain rfl := isF_nil q
  obtain ⟨rfl, ws_0⟩ := isD_int i_0
  obtain ⟨rfl, ws_1⟩ := isD_int i_1
  obtain ⟨rfl, ws_2⟩ := isD_int i_2
  obtain ⟨rfl, ws_3⟩ := isD_int i_3
  obtain ⟨rfl, ws_4⟩ := isD_int i_4
  exact ⟨rfl, ws_0, ws_1, ws_2, ws_3, ws_4⟩
theorem has_Pipe {d : Dat} (h : Has TyPipe d) : ∃ x_0 : Int, ∃ x_1 : Int, ∃ x_2 : Int, ∃ l_3 : List Dat, d = .st [.int .i64 x_0, .int .i64 x_1, .int .i64 x_2, .sl 1 l_3] ∧ (∀ e, e ∈ l_3 → Has (.int .u8) e) := by
  obtain ⟨_, rfl, g⟩ := has_st h
  obtain ⟨_, _, rfl, h_0, g⟩ := hasF_cons g
  obtain ⟨_, _, rfl, h_1, g⟩ := hasF_cons g
  obtain ⟨_, _, rfl, h_2, g⟩ := hasF_cons g
  obtain ⟨_, _, rfl, h_3, g⟩ := hasF_cons g
  obtain rfl := hasF_nil g
  obtain ⟨x_0, rfl⟩ := has_int h_0
  obtain ⟨x_1, rfl⟩ := has_int h_1
  obtain ⟨x_2, rfl⟩ := has_int h_2
  obtain ⟨l_3, rfl, t_3⟩ := has_sl h_3
  exact ⟨x_0, x_1, x_2, l_3, rfl, t_3⟩
theorem cells_Pipe {w : World} {x_0 : Int} {x_1 : Int} {x_2 : Int} {l_3 : List Dat} {cs : List Value} (h : IsD w (.st [.int .i64 x_0, .int .i64 x_1, .int .i64 x_2, .sl 1 l_3]) cs) : ∃ s_3 : Sl, cs = [.int .i64 x_0, .int .i64 x_1, .int .i64 x_2, .slice s_3.a s_3.len s_3.cap] ∧ ((Lit.int .i64 x_0).wf = true) ∧ ((Lit.int .i64 x_1).wf = true) ∧ ((Lit.int .i64 x_2).wf = true) ∧ (IsD w (.sl 1 l_3) [.slice s_3.a s_3.len s_3.cap]) := by
  have q := isD_st h
  obtain ⟨_, _, rfl, i_0, q⟩ := isF_cons q
  obtain ⟨_, _, rfl, i_1, q⟩ := isF_cons q
  obtain ⟨_, _, rfl, i_2, q⟩ := isF_cons q
  obtain ⟨_, _, rfl, i_3, q⟩ := isF_cons q
  obtain rfl := isF_nil q
  obtain ⟨rfl, ws_0⟩ := isD_int i_0
  obtain ⟨rfl, ws_1⟩ := isD_int i_1
  obtain ⟨rfl, ws_2⟩ := isD_int i_2
  obtain ⟨s_3, rfl⟩ := isD_sl_s i_3
  have is_3 := i_3
  exact ⟨s_3, rfl, ws_0, ws_1, ws_2, is_3⟩
theorem has_Ipc {d : Dat} (h : Has TyIpc d) : ∃ x_0 : Int, ∃ l_1 : List Dat, ∃ l_2 : List Dat, ∃ l_3 : List Dat, d = .st [.int .i64 x_0, .sl 2 l_1, .sl 5 l_2, .sl 4 l_3] ∧ (∀ e, e ∈ l_1 → Has TyPort e) ∧ (∀ e, e ∈ l_2 → Has TyCap e) ∧ (∀ e, e ∈ l_3 → Has TyPipe e) := by
  obtain ⟨_, rfl, g⟩ := has_st h
  obtain ⟨_, _, rfl, h_0, g⟩ := hasF_cons g
  obtain ⟨_, _, rfl, h_1, g⟩ := hasF_cons g
  obtain ⟨_, _, rfl, h_2, g⟩ := hasF_cons g
  obtain ⟨_, _, rfl, h_3, g⟩ := hasF_cons g
  obtain rfl := hasF_nil g
  obtain ⟨x_0, rfl⟩ := has_int h_0
  obtain ⟨l_1, rfl, t_1⟩ := has_sl h_1
  obtain ⟨l_2, rfl, t_2⟩ := has_sl h_2
  obtain ⟨l_3, rfl, t_3⟩ := has_sl h_3
  exact ⟨x_0, l_1, l_2, l_3, rfl, t_1, t_2, t_3⟩
theorem cells_Ipc {w : World} {x_0 : Int} {l_1 : List Dat} {l_2 : List Dat} {l_3 : List Dat} {cs : List Value} (h : IsD w (.st [.int .i64 x_0, .sl 2 l_1, .sl 5 l_2, .sl 4 l_3]) cs) : ∃ s_1 : Sl, ∃ s_2 : Sl, ∃ s_3 : Sl, cs = [.int .i64 x_0, .slice s_1.a s_1.len s_1.cap, .slice s_2.a s_2.len s_2.cap, .slice s_3.a s_3.len s_3.cap] ∧ ((Lit.int .i64 x_0).wf = true) ∧ (IsD w (.sl 2 l_1) [.slice s_1.a s_1.len s_1.cap]) ∧ (IsD w (.sl 5 l_2) [.slice s_2.a s_2.len s_2.cap]) ∧ (IsD w (.sl 4 l_3) [.slice s_3.a s_3.len s_3.cap]) := by
  have q := isD_st h
  obtain ⟨_, _, rfl, i_0, q⟩ := isF_cons q
  obtain ⟨_, _, rfl, i_1, q⟩ := isF_cons q
  obtain ⟨_, _, rfl, i_2, q⟩ := isF_cons q
  obtain ⟨_, _, rfl, i_3, q⟩ := isF_cons q
  obtain rfl := isF_nil q
  obtain ⟨rfl, ws_0⟩ := isD_int i_0
  obtain ⟨s_1, rfl⟩ := isD_sl_s i_1
  have is_1 := i_1
  obtain ⟨s_2, rfl⟩ := isD_sl_s i_2
  have is_2 := i_2
  obtain ⟨s_3, rfl⟩ := isD_sl_s i_3
  have is_3 := i_3
  exact ⟨s_1, s_2, s_3, rfl, ws_0, is_1, is_2, is_3⟩
/- szByteS -/
theorem c77 {l : List Dat} {a0 : Sl} {left : Int} {w : World} (ht : ∀ e, e ∈ l → Has (.int .u8) e) (h : IsD w (.sl 1 l) [.slice a0.a a0.len a0.cap]) (h0 : 0 ≤ left) (hl : left ≤ 4611686018427387904) : CallW Try.prog 77 #[.slice a0.a a0.len a0.cap, .int .i64 left] w (fun v w' => SzPost (Dat.sl 1 l).sz left v ∧ Ext w w') := by
  refine go77 ?_
  unfold W77
  obtain ⟨hlen, hmax, hel⟩ := isD_sl h
  have hmx : maxLen = 9223372036854775807 := rfl
  rw [hlen, w64 (by omega) (by omega)]
  have hz : Dat.szs l = 0 := by
    refine szs_zero (fun d hd => ?_)
    have ht0 := ht d hd
    obtain ⟨x, rfl⟩ := has_int ht0
    rfl
  refine BIf.dec (fun hn => ⟨⟨_, rfl, .inr ⟨by omega, by simp only [Dat.sz]; omega⟩⟩, Only.refl _ _⟩) (fun hp => ⟨⟨_, rfl, .inl ⟨by simp only [Dat.sz]; omega, by omega⟩⟩, Only.refl _ _⟩)

/- szMsg -/
theorem c121 {d : Dat} {cs : List Value} {left : Int} {w : World} (ht : Has TyMsg d) (h : IsD w d cs) (h0 : 0 ≤ left) (hl : left ≤ 4611686018427387904) : CallW Try.prog 121 #[.agg ⟨cs⟩, .int .i64 left] w (fun v w' => SzPost d.sz left v ∧ Ext w w') := by
  obtain ⟨x_0, l_1, x_2, rfl, t_1⟩ := has_Msg ht
  obtain ⟨s_1, rfl, ws_0, is_1, ws_2⟩ := cells_Msg h
  show CallW Try.prog 121 #[.agg #[.int .i64 x_0, .slice s_1.a s_1.len s_1.cap, .int .i64 x_2], .int .i64 left] w _
  refine go121 ?_
  unfold W121
  refine alloc_step (fun w1 e ha n1 => ?_)
  have hmx : maxLen = 9223372036854775807 := rfl
  have hx : (0 : Int) ≤ left ∧ left ≤ left := ⟨h0, Int.le_refl _⟩
  have hd := Int.sub_zero left
  refine ⟨s_1, ha.cell 1, (c77 t_1 (IsD.ext e _ _ is_1) (by omega) (by omega)).mono ?_⟩
  rintro _ w2 ⟨⟨r2, rfl, hr2⟩, e2⟩
  have ha := ha.ext e2
  have e := Only.trans e e2
  refine ⟨r2, rfl, BIf.dec (fun hn => ⟨⟨_, rfl, .inr ⟨by omega, by simp only [Dat.sz, Dat.szs] at *; omega⟩⟩, e⟩) (fun hp2 => ?_)⟩
  exact ⟨⟨_, rfl, .inl ⟨by simp only [Dat.sz, Dat.szs] at *; omega, by omega⟩⟩, e⟩

/- szMsgS -/
theorem c112 {l : List Dat} {a0 : Sl} {left : Int} {w : World} (ht : ∀ e, e ∈ l → Has TyMsg e) (h : IsD w (.sl 3 l) [.slice a0.a a0.len a0.cap]) (h0 : 0 ≤ left) (hl : left ≤ 4611686018427387904) : CallW Try.prog 112 #[.slice a0.a a0.len a0.cap, .int .i64 left] w (fun v w' => SzPost (Dat.sl 3 l).sz left v ∧ Ext w w') := by
  refine go112 ?_
  unfold W112
  obtain ⟨hlen, hmax, hel⟩ := isD_sl h
  have hmx : maxLen = 9223372036854775807 := rfl
  rw [hlen, w64 (by omega) (by omega)]
  refine BIf.dec (fun hn => ⟨⟨_, rfl, .inr ⟨by omega, by simp only [Dat.sz]; omega⟩⟩, Only.refl _ _⟩) (fun hp => ?_)
  refine LoopW.m2 (fun (x i : Int) w' => ∃ k : Nat, i = k ∧ k ≤ l.length ∧ Ext w w' ∧ x = left - l.length - Dat.szs (l.take k) ∧ 0 ≤ x) (fun _ (i : Int) _ => (l.length - i).toNat) ⟨0, rfl, by omega, Only.refl _ _, by simp [Dat.szs], by omega⟩ ?_
  rintro (x : Int) (i : Int) w4 ⟨k, rfl, hk, e4, hx, hx0⟩ J hJ
  refine BIf.dec (fun hlt => ?_) (fun hge => ?_)
  · obtain ⟨d, hd⟩ : ∃ d, l[k]? = some d := ⟨_, List.getElem?_eq_getElem (by omega)⟩
    have hsz := szs_get hd
    have hst := szs_take hd
    obtain ⟨p, es, hp, he, hc, his⟩ := isD_at (IsD.ext e4 _ _ h) hd
    have ht0 := ht d (mem_get hd)
    have ht1 := ht0
    obtain ⟨x_0, l_1, x_2, rfl, t_1⟩ := has_Msg ht1
    have his0 := his
    obtain ⟨s_1, rfl, ws_0, is_1, ws_2⟩ := cells_Msg his
    refine ⟨by omega, by omega, p, hp, _, hc 0 _ rfl, s_1, hc 1 _ rfl, _, hc 2 _ rfl, (c121 (cs := [.int .i64 x_0, .slice s_1.a s_1.len s_1.cap, .int .i64 x_2]) ht0 his0 hx0 (by omega)).mono ?_⟩
    rintro _ w9 ⟨⟨r, rfl, hr⟩, e9⟩
    refine ⟨r, rfl, BIf.dec (fun hn => ⟨⟨_, rfl, .inr ⟨by omega, by simp only [Dat.sz] at *; omega⟩⟩, Only.trans e4 e9⟩) (fun hp => ?_)⟩
    rw [w64 (by omega) (by omega)]
    refine hJ _ _ _ ⟨k + 1, by omega, by omega, Only.trans e4 e9, by rw [hst]; omega, by omega⟩ (by omega)
  · rw [List.take_of_length_le (by omega)] at hx
    exact ⟨⟨_, rfl, .inl ⟨by simp only [Dat.sz]; omega, hx0⟩⟩, e4⟩

/- szPort -/
theorem c82 {d : Dat} {cs : List Value} {left : Int} {w : World} (ht : Has TyPort d) (h : IsD w d cs) (h0 : 0 ≤ left) (hl : left ≤ 4611686018427387904) : CallW Try.prog 82 #[.agg ⟨cs⟩, .int .i64 left] w (fun v w' => SzPost d.sz left v ∧ Ext w w') := by
  obtain ⟨x_0, l_1, rfl, t_1⟩ := has_Port ht
  obtain ⟨s_1, rfl, ws_0, is_1⟩ := cells_Port h
  show CallW Try.prog 82 #[.agg #[.int .i64 x_0, .slice s_1.a s_1.len s_1.cap], .int .i64 left] w _
  refine go82 ?_
  unfold W82
  refine alloc_step (fun w1 e ha n1 => ?_)
  have hmx : maxLen = 9223372036854775807 := rfl
  have hx : (0 : Int) ≤ left ∧ left ≤ left := ⟨h0, Int.le_refl _⟩
  have hd := Int.sub_zero left
  refine ⟨s_1, ha.cell 1, (c112 t_1 (IsD.ext e _ _ is_1) (by omega) (by omega)).mono ?_⟩
  rintro _ w2 ⟨⟨r2, rfl, hr2⟩, e2⟩
  have ha := ha.ext e2
  have e := Only.trans e e2
  refine ⟨r2, rfl, BIf.dec (fun hn => ⟨⟨_, rfl, .inr ⟨by omega, by simp only [Dat.sz, Dat.szs] at *; omega⟩⟩, e⟩) (fun hp2 => ?_)⟩
  exact ⟨⟨_, rfl, .inl ⟨by simp only [Dat.sz, Dat.szs] at *; omega, by omega⟩⟩, e⟩

/- szPortS -/
theorem c46 {l : List Dat} {a0 : Sl} {left : Int} {w : World} (ht : ∀ e, e ∈ l → Has TyPort e) (h : IsD w (.sl 2 l) [.slice a0.a a0.len a0.cap]) (h0 : 0 ≤ left) (hl : left ≤ 4611686018427387904) : CallW Try.prog 46 #[.slice a0.a a0.len a0.cap, .int .i64 left] w (fun v w' => SzPost (Dat.sl 2 l).sz left v ∧ Ext w w') := by
  refine go46 ?_
  unfold W46
  obtain ⟨hlen, hmax, hel⟩ := isD_sl h
  have hmx : maxLen = 9223372036854775807 := rfl
  rw [hlen, w64 (by omega) (by omega)]
  refine BIf.dec (fun hn => ⟨⟨_, rfl, .inr ⟨by omega, by simp only [Dat.sz]; omega⟩⟩, Only.refl _ _⟩) (fun hp => ?_)
  refine LoopW.m2 (fun (x i : Int) w' => ∃ k : Nat, i = k ∧ k ≤ l.length ∧ Ext w w' ∧ x = left - l.length - Dat.szs (l.take k) ∧ 0 ≤ x) (fun _ (i : Int) _ => (l.length - i).toNat) ⟨0, rfl, by omega, Only.refl _ _, by simp [Dat.szs], by omega⟩ ?_
  rintro (x : Int) (i : Int) w4 ⟨k, rfl, hk, e4, hx, hx0⟩ J hJ
  refine BIf.dec (fun hlt => ?_) (fun hge => ?_)
  · obtain ⟨d, hd⟩ : ∃ d, l[k]? = some d := ⟨_, List.getElem?_eq_getElem (by omega)⟩
    have hsz := szs_get hd
    have hst := szs_take hd
    obtain ⟨p, es, hp, he, hc, his⟩ := isD_at (IsD.ext e4 _ _ h) hd
    have ht0 := ht d (mem_get hd)
    have ht1 := ht0
    obtain ⟨x_0, l_1, rfl, t_1⟩ := has_Port ht1
    have his0 := his
    obtain ⟨s_1, rfl, ws_0, is_1⟩ := cells_Port his
    refine ⟨by omega, by omega, p, hp, _, hc 0 _ rfl, s_1, hc 1 _ rfl, (c82 (cs := [.int .i64 x_0, .slice s_1.a s_1.len s_1.cap]) ht0 his0 hx0 (by omega)).mono ?_⟩
    rintro _ w9 ⟨⟨r, rfl, hr⟩, e9⟩
    refine ⟨r, rfl, BIf.dec (fun hn => ⟨⟨_, rfl, .inr ⟨by omega, by simp only [Dat.sz] at *; omega⟩⟩, Only.trans e4 e9⟩) (fun hp => ?_)⟩
    rw [w64 (by omega) (by omega)]
    refine hJ _ _ _ ⟨k + 1, by omega, by omega, Only.trans e4 e9, by rw [hst]; omega, by omega⟩ (by omega)
  · rw [List.take_of_length_le (by omega)] at hx
    exact ⟨⟨_, rfl, .inl ⟨by simp only [Dat.sz]; omega, hx0⟩⟩, e4⟩

/- szCapS -/
theorem c47 {l : List Dat} {a0 : Sl} {left : Int} {w : World} (ht : ∀ e, e ∈ l → Has TyCap e) (h : IsD w (.sl 5 l) [.slice a0.a a0.len a0.cap]) (h0 : 0 ≤ left) (hl : left ≤ 4611686018427387904) : CallW Try.prog 47 #[.slice a0.a a0.len a0.cap, .int .i64 left] w (fun v w' => SzPost (Dat.sl 5 l).sz left v ∧ Ext w w') := by
  refine go47 ?_
  unfold W47
  obtain ⟨hlen, hmax, hel⟩ := isD_sl h
  have hmx : maxLen = 9223372036854775807 := rfl
  rw [hlen, w64 (by omega) (by omega)]
  have hz : Dat.szs l = 0 := by
    refine szs_zero (fun d hd => ?_)
    have ht0 := ht d hd
    obtain ⟨x_0, x_1, x_2, x_3, x_4, rfl⟩ := has_Cap ht0
    rfl
  refine BIf.dec (fun hn => ⟨⟨_, rfl, .inr ⟨by omega, by simp only [Dat.sz]; omega⟩⟩, Only.refl _ _⟩) (fun hp => ⟨⟨_, rfl, .inl ⟨by simp only [Dat.sz]; omega, by omega⟩⟩, Only.refl _ _⟩)

/- szPipe -/
theorem c83 {d : Dat} {cs : List Value} {left : Int} {w : World} (ht : Has TyPipe d) (h : IsD w d cs) (h0 : 0 ≤ left) (hl : left ≤ 4611686018427387904) : CallW Try.prog 83 #[.agg ⟨cs⟩, .int .i64 left] w (fun v w' => SzPost d.sz left v ∧ Ext w w') := by
  obtain ⟨x_0, x_1, x_2, l_3, rfl, t_3⟩ := has_Pipe ht
  obtain ⟨s_3, rfl, ws_0, ws_1, ws_2, is_3⟩ := cells_Pipe h
  show CallW Try.prog 83 #[.agg #[.int .i64 x_0, .int .i64 x_1, .int .i64 x_2, .slice s_3.a s_3.len s_3.cap], .int .i64 left] w _
  refine go83 ?_
  unfold W83
  refine alloc_step (fun w1 e ha n1 => ?_)
  have hmx : maxLen = 9223372036854775807 := rfl
  have hx : (0 : Int) ≤ left ∧ left ≤ left := ⟨h0, Int.le_refl _⟩
  have hd := Int.sub_zero left
  refine ⟨s_3, ha.cell 3, (c77 t_3 (IsD.ext e _ _ is_3) (by omega) (by omega)).mono ?_⟩
  rintro _ w2 ⟨⟨r2, rfl, hr2⟩, e2⟩
  have ha := ha.ext e2
  have e := Only.trans e e2
  refine ⟨r2, rfl, BIf.dec (fun hn => ⟨⟨_, rfl, .inr ⟨by omega, by simp only [Dat.sz, Dat.szs] at *; omega⟩⟩, e⟩) (fun hp2 => ?_)⟩
  exact ⟨⟨_, rfl, .inl ⟨by simp only [Dat.sz, Dat.szs] at *; omega, by omega⟩⟩, e⟩

/- szPipeS -/
theorem c48 {l : List Dat} {a0 : Sl} {left : Int} {w : World} (ht : ∀ e, e ∈ l → Has TyPipe e) (h : IsD w (.sl 4 l) [.slice a0.a a0.len a0.cap]) (h0 : 0 ≤ left) (hl : left ≤ 4611686018427387904) : CallW Try.prog 48 #[.slice a0.a a0.len a0.cap, .int .i64 left] w (fun v w' => SzPost (Dat.sl 4 l).sz left v ∧ Ext w w') := by
  refine go48 ?_
  unfold W48
  obtain ⟨hlen, hmax, hel⟩ := isD_sl h
  have hmx : maxLen = 9223372036854775807 := rfl
  rw [hlen, w64 (by omega) (by omega)]
  refine BIf.dec (fun hn => ⟨⟨_, rfl, .inr ⟨by omega, by simp only [Dat.sz]; omega⟩⟩, Only.refl _ _⟩) (fun hp => ?_)
  refine LoopW.m2 (fun (x i : Int) w' => ∃ k : Nat, i = k ∧ k ≤ l.length ∧ Ext w w' ∧ x = left - l.length - Dat.szs (l.take k) ∧ 0 ≤ x) (fun _ (i : Int) _ => (l.length - i).toNat) ⟨0, rfl, by omega, Only.refl _ _, by simp [Dat.szs], by omega⟩ ?_
  rintro (x : Int) (i : Int) w4 ⟨k, rfl, hk, e4, hx, hx0⟩ J hJ
  refine BIf.dec (fun hlt => ?_) (fun hge => ?_)
  · obtain ⟨d, hd⟩ : ∃ d, l[k]? = some d := ⟨_, List.getElem?_eq_getElem (by omega)⟩
    have hsz := szs_get hd
    have hst := szs_take hd
    obtain ⟨p, es, hp, he, hc, his⟩ := isD_at (IsD.ext e4 _ _ h) hd
    have ht0 := ht d (mem_get hd)
    have ht1 := ht0
    obtain ⟨x_0, x_1, x_2, l_3, rfl, t_3⟩ := has_Pipe ht1
    have his0 := his
    obtain ⟨s_3, rfl, ws_0, ws_1, ws_2, is_3⟩ := cells_Pipe his
    refine ⟨by omega, by omega, p, hp, _, hc 0 _ rfl, _, hc 1 _ rfl, _, hc 2 _ rfl, s_3, hc 3 _ rfl, (c83 (cs := [.int .i64 x_0, .int .i64 x_1, .int .i64 x_2, .slice s_3.a s_3.len s_3.cap]) ht0 his0 hx0 (by omega)).mono ?_⟩
    rintro _ w9 ⟨⟨r, rfl, hr⟩, e9⟩
    refine ⟨r, rfl, BIf.dec (fun hn => ⟨⟨_, rfl, .inr ⟨by omega, by simp only [Dat.sz] at *; omega⟩⟩, Only.trans e4 e9⟩) (fun hp => ?_)⟩
    rw [w64 (by omega) (by omega)]
    refine hJ _ _ _ ⟨k + 1, by omega, by omega, Only.trans e4 e9, by rw [hst]; omega, by omega⟩ (by omega)
  · rw [List.take_of_length_le (by omega)] at hx
    exact ⟨⟨_, rfl, .inl ⟨by simp only [Dat.sz]; omega, hx0⟩⟩, e4⟩

/- szIpc -/
theorem c9 {d : Dat} {cs : List Value} {left : Int} {w : World} (ht : Has TyIpc d) (h : IsD w d cs) (h0 : 0 ≤ left) (hl : left ≤ 4611686018427387904) : CallW Try.prog 9 #[.agg ⟨cs⟩, .int .i64 left] w (fun v w' => SzPost d.sz left v ∧ Ext w w') := by
  obtain ⟨x_0, l_1, l_2, l_3, rfl, t_1, t_2, t_3⟩ := has_Ipc ht
  obtain ⟨s_1, s_2, s_3, rfl, ws_0, is_1, is_2, is_3⟩ := cells_Ipc h
  show CallW Try.prog 9 #[.agg #[.int .i64 x_0, .slice s_1.a s_1.len s_1.cap, .slice s_2.a s_2.len s_2.cap, .slice s_3.a s_3.len s_3.cap], .int .i64 left] w _
  refine go9 ?_
  unfold W9
  refine alloc_step (fun w1 e ha n1 => ?_)
  have hmx : maxLen = 9223372036854775807 := rfl
  have hx : (0 : Int) ≤ left ∧ left ≤ left := ⟨h0, Int.le_refl _⟩
  have hd := Int.sub_zero left
  refine ⟨s_1, ha.cell 1, (c46 t_1 (IsD.ext e _ _ is_1) (by omega) (by omega)).mono ?_⟩
  rintro _ w2 ⟨⟨r2, rfl, hr2⟩, e2⟩
  have ha := ha.ext e2
  have e := Only.trans e e2
  refine ⟨r2, rfl, BIf.dec (fun hn => ⟨⟨_, rfl, .inr ⟨by omega, by simp only [Dat.sz, Dat.szs] at *; omega⟩⟩, e⟩) (fun hp2 => ?_)⟩
  refine ⟨s_2, ha.cell 2, (c47 t_2 (IsD.ext e _ _ is_2) (by omega) (by omega)).mono ?_⟩
  rintro _ w3 ⟨⟨r3, rfl, hr3⟩, e3⟩
  have ha := ha.ext e3
  have e := Only.trans e e3
  refine ⟨r3, rfl, BIf.dec (fun hn => ⟨⟨_, rfl, .inr ⟨by omega, by simp only [Dat.sz, Dat.szs] at *; omega⟩⟩, e⟩) (fun hp3 => ?_)⟩
  refine ⟨s_3, ha.cell 3, (c48 t_3 (IsD.ext e _ _ is_3) (by omega) (by omega)).mono ?_⟩
  rintro _ w4 ⟨⟨r4, rfl, hr4⟩, e4⟩
  have ha := ha.ext e4
  have e := Only.trans e e4
  refine ⟨r4, rfl, BIf.dec (fun hn => ⟨⟨_, rfl, .inr ⟨by omega, by simp only [Dat.sz, Dat.szs] at *; omega⟩⟩, e⟩) (fun hp4 => ?_)⟩
  exact ⟨⟨_, rfl, .inl ⟨by simp only [Dat.sz, Dat.szs] at *; omega, by omega⟩⟩, e⟩

/- toByteS -/
theorem c78 {l : List Dat} {a0 : Sl} {w : World} (ht : ∀ e, e ∈ l → Has (.int .u8) e) (h : IsD w (.sl 1 l) [.slice a0.a a0.len a0.cap]) (hs : (Dat.sl 1 l).sz ≤ 4194304) : CallW Try.prog 78 #[.slice a0.a a0.len a0.cap] w (fun v w' => ∃ s : Sl, v = .slice s.a s.len s.cap ∧ Fr w.heap.size w'.heap.size w' (.sl 1 l) [.slice s.a s.len s.cap] ∧ Ext w w') := by
  refine go78 ?_
  unfold W78
  obtain ⟨hlen, hmax, hel⟩ := isD_sl h
  simp only [Dat.sz] at hs
  rw [hlen]; simp only [Int.toNat_natCast]
  refine ⟨by omega, by omega, by omega, by omega, LetW_iff.2 ?_⟩
  have hs0 := ToInv.start (w := w) (z := 1) (zero := ti5.zero) (e := 5) l rfl
  generalize w.alloc (.cells ⟨zerosOf ti5.zero l.length⟩ 5) = w1 at *
  refine LoopW.m1 (fun (i : Int) w' => ∃ (k : Nat) (bs : List Nat) (vs : List Value), i = k ∧ ToInv w w' w.heap.size 1 l k bs vs) (fun (i : Int) _ => (l.length - i).toNat) ⟨0, [], _, rfl, hs0⟩ ?_
  rintro (i : Int) w4 ⟨k, bs, vs, rfl, hi⟩ J hJ
  refine BIf.dec (fun hlt => ?_) (fun hge => ?_)
  · obtain ⟨d, hd⟩ : ∃ d, l[k]? = some d := ⟨_, List.getElem?_eq_getElem (by omega)⟩
    have hsz := szs_get hd
    obtain ⟨p, es, hp, he, hc, his⟩ := isD_at (IsD.ext hi.ext _ _ h) hd
    have ht0 := ht d (mem_get hd)
    obtain ⟨x, rfl⟩ := has_int ht0
    obtain ⟨rfl, ws⟩ := isD_int his
    obtain ⟨b1, ho, hn, hb⟩ := fr_int (lo := w4.heap.size) (hi := w4.heap.size) (w := w4) ws
    obtain ⟨hm, hi2⟩ := hi.step hd (Only.refl _ _) ho hn (fun c hc => (hb c hc).1) rfl
    rw [puts_one] at hi2
    refine ⟨by omega, by omega, p, hp, _, hc 0 _ rfl, by omega, by omega, _, rfl, mayN_one hm, LetW_iff.2 ?_⟩
    rw [w64 (by omega) (by omega)]
    exact hJ _ _ ⟨k + 1, _, _, by omega, hi2⟩ (by omega)
  · exact ⟨⟨some ⟨w.heap.size, 0, none⟩, l.length, l.length⟩, rfl, (hi.done (by omega) hmax).fr, hi.ext⟩

/- toMsg -/
theorem c122 {d : Dat} {cs : List Value} {w : World} (ht : Has TyMsg d) (h : IsD w d cs) (hs : d.sz ≤ 4194304) : CallW Try.prog 122 #[.agg ⟨cs⟩] w (fun v w' => ∃ cs', v = .agg ⟨cs'⟩ ∧ Fr w.heap.size w'.heap.size w' d cs' ∧ Ext w w') := by
  obtain ⟨x_0, l_1, x_2, rfl, t_1⟩ := has_Msg ht
  obtain ⟨s_1, rfl, ws_0, is_1, ws_2⟩ := cells_Msg h
  show CallW Try.prog 122 #[.agg #[.int .i64 x_0, .slice s_1.a s_1.len s_1.cap, .int .i64 x_2]] w _
  refine go122 ?_
  unfold W122
  refine alloc_step (fun w1 e1 ha n1 => ?_)
  refine alloc_step (fun w2 e2 hc n2 => ?_)
  have ha := ha.ext e2
  refine alloc_step (fun w3 e3 hb n3 => ?_)
  have ha := ha.ext e3
  have hc := hc.ext e3
  have e := Only.trans e1 (Only.trans e2 e3)
  refine ⟨_, ha.cell 0, ?_⟩
  refine set_step hb (by simp) (fun w4 o4 hb n4 => ?_)
  have ha := ha.only o4 (by omega)
  have hc := hc.only o4 (by omega)
  have e := Ext.own e o4 (fun k hk => by omega)
  refine ⟨s_1, ha.cell 1, ?_⟩
  refine (c78 t_1 (IsD.ext e _ _ is_1) (by simp only [Dat.sz, Dat.szs] at hs ⊢; omega)).mono ?_
  rintro _ w5 ⟨r_1, rfl, f_1, e5⟩
  refine ⟨r_1, rfl, ?_⟩
  have ha := ha.ext e5
  have hb := hb.ext e5
  have hc := hc.ext e5
  have e := Only.trans e e5
  have z5 := e5.size
  refine set_step hb (by simp) (fun w6 o6 hb n6 => ?_)
  have ha := ha.only o6 (by omega)
  have hc := hc.only o6 (by omega)
  have e := Ext.own e o6 (fun k hk => by omega)
  have f_1 := f_1.only o6 (fun k _ _ => by omega)
  refine ⟨_, ha.cell 2, ?_⟩
  refine set_step hb (by simp) (fun w7 o7 hb n7 => ?_)
  have ha := ha.only o7 (by omega)
  have hc := hc.only o7 (by omega)
  have e := Ext.own e o7 (fun k hk => by omega)
  have f_1 := f_1.only o7 (fun k _ _ => by omega)
  refine ⟨_, hb.cell 0, r_1, hb.cell 1, _, hb.cell 2, ?_⟩
  refine put_step hc rfl rfl (fun w8 o8 hc n8 => ?_)
  have e := Ext.own e o8 (fun k hk => by omega)
  have f_1 := f_1.only o8 (fun k _ _ => by omega)
  refine ⟨_, hc.cell 0, r_1, hc.cell 1, _, hc.cell 2, ?_⟩
  exact ⟨[.int .i64 x_0, .slice r_1.a r_1.len r_1.cap, .int .i64 x_2], rfl, frF_st (frF_cons (m := w.heap.size) (fr_int ws_0) (frF_cons (m := w5.heap.size) (f_1.mono (by omega) (Nat.le_refl _)) (frF_cons (m := w5.heap.size) (fr_int ws_2) (frF_nil) (by omega) (by omega)) (by omega) (by omega)) (by omega) (by omega)), e⟩

/- toMsgS -/
theorem c113 {l : List Dat} {a0 : Sl} {w : World} (ht : ∀ e, e ∈ l → Has TyMsg e) (h : IsD w (.sl 3 l) [.slice a0.a a0.len a0.cap]) (hs : (Dat.sl 3 l).sz ≤ 4194304) : CallW Try.prog 113 #[.slice a0.a a0.len a0.cap] w (fun v w' => ∃ s : Sl, v = .slice s.a s.len s.cap ∧ Fr w.heap.size w'.heap.size w' (.sl 3 l) [.slice s.a s.len s.cap] ∧ Ext w w') := by
  refine go113 ?_
  unfold W113
  obtain ⟨hlen, hmax, hel⟩ := isD_sl h
  simp only [Dat.sz] at hs
  rw [hlen]; simp only [Int.toNat_natCast]
  refine ⟨by omega, by omega, by omega, by omega, LetW_iff.2 ?_⟩
  have hs0 := ToInv.start (w := w) (z := 3) (zero := ti95.zero) (e := 95) l rfl
  generalize w.alloc (.cells ⟨zerosOf ti95.zero l.length⟩ 95) = w1 at *
  refine LoopW.m1 (fun (i : Int) w' => ∃ (k : Nat) (bs : List Nat) (vs : List Value), i = k ∧ ToInv w w' w.heap.size 3 l k bs vs) (fun (i : Int) _ => (l.length - i).toNat) ⟨0, [], _, rfl, hs0⟩ ?_
  rintro (i : Int) w4 ⟨k, bs, vs, rfl, hi⟩ J hJ
  refine BIf.dec (fun hlt => ?_) (fun hge => ?_)
  · obtain ⟨d, hd⟩ : ∃ d, l[k]? = some d := ⟨_, List.getElem?_eq_getElem (by omega)⟩
    have hsz := szs_get hd
    obtain ⟨p, es, hp, he, hc, his⟩ := isD_at (IsD.ext hi.ext _ _ h) hd
    have ht0 := ht d (mem_get hd)
    obtain ⟨x_0, l_1, x_2, rfl, t_1⟩ := has_Msg ht0
    have his0 := his
    obtain ⟨s_1, rfl, ws_0, is_1, ws_2⟩ := cells_Msg his
    refine ⟨by omega, by omega, p, hp, _, hc 0 _ rfl, s_1, hc 1 _ rfl, _, hc 2 _ rfl, (c122 (cs := [.int .i64 x_0, .slice s_1.a s_1.len s_1.cap, .int .i64 x_2]) ht0 his0 (by omega)).mono ?_⟩
    rintro _ w9 ⟨r, rfl, f, e9⟩
    have hr := f.is
    obtain ⟨r_1, rfl, wr_0, ir_1, wr_2⟩ := cells_Msg hr
    obtain ⟨b1, ho, hn, hb⟩ := f
    obtain ⟨hm, hi2⟩ := hi.step hd e9 ho hn (fun c hc => (hb c hc).1) rfl
    refine ⟨_, r_1, _, rfl, by omega, by omega, _, rfl, hm, LetW_iff.2 ?_⟩
    rw [w64 (by omega) (by omega)]
    exact hJ _ _ ⟨k + 1, _, _, by omega, hi2⟩ (by omega)
  · exact ⟨⟨some ⟨w.heap.size, 0, none⟩, l.length, l.length⟩, rfl, (hi.done (by omega) hmax).fr, hi.ext⟩

/- toPort -/
theorem c89 {d : Dat} {cs : List Value} {w : World} (ht : Has TyPort d) (h : IsD w d cs) (hs : d.sz ≤ 4194304) : CallW Try.prog 89 #[.agg ⟨cs⟩] w (fun v w' => ∃ cs', v = .agg ⟨cs'⟩ ∧ Fr w.heap.size w'.heap.size w' d cs' ∧ Ext w w') := by
  obtain ⟨x_0, l_1, rfl, t_1⟩ := has_Port ht
  obtain ⟨s_1, rfl, ws_0, is_1⟩ := cells_Port h
  show CallW Try.prog 89 #[.agg #[.int .i64 x_0, .slice s_1.a s_1.len s_1.cap]] w _
  refine go89 ?_
  unfold W89
  refine alloc_step (fun w1 e1 ha n1 => ?_)
  refine alloc_step (fun w2 e2 hc n2 => ?_)
  have ha := ha.ext e2
  refine alloc_step (fun w3 e3 hb n3 => ?_)
  have ha := ha.ext e3
  have hc := hc.ext e3
  have e := Only.trans e1 (Only.trans e2 e3)
  refine ⟨_, ha.cell 0, ?_⟩
  refine set_step hb (by simp) (fun w4 o4 hb n4 => ?_)
  have ha := ha.only o4 (by omega)
  have hc := hc.only o4 (by omega)
  have e := Ext.own e o4 (fun k hk => by omega)
  refine ⟨s_1, ha.cell 1, ?_⟩
  refine (c113 t_1 (IsD.ext e _ _ is_1) (by simp only [Dat.sz, Dat.szs] at hs ⊢; omega)).mono ?_
  rintro _ w5 ⟨r_1, rfl, f_1, e5⟩
  refine ⟨r_1, rfl, ?_⟩
  have ha := ha.ext e5
  have hb := hb.ext e5
  have hc := hc.ext e5
  have e := Only.trans e e5
  have z5 := e5.size
  refine set_step hb (by simp) (fun w6 o6 hb n6 => ?_)
  have ha := ha.only o6 (by omega)
  have hc := hc.only o6 (by omega)
  have e := Ext.own e o6 (fun k hk => by omega)
  have f_1 := f_1.only o6 (fun k _ _ => by omega)
  refine ⟨_, hb.cell 0, r_1, hb.cell 1, ?_⟩
  refine put_step hc rfl rfl (fun w7 o7 hc n7 => ?_)
  have e := Ext.own e o7 (fun k hk => by omega)
  have f_1 := f_1.only o7 (fun k _ _ => by omega)
  refine ⟨_, hc.cell 0, r_1, hc.cell 1, ?_⟩
  exact ⟨[.int .i64 x_0, .slice r_1.a r_1.len r_1.cap], rfl, frF_st (frF_cons (m := w.heap.size) (fr_int ws_0) (frF_cons (m := w5.heap.size) (f_1.mono (by omega) (Nat.le_refl _)) (frF_nil) (by omega) (by omega)) (by omega) (by omega)), e⟩

/- toPortS -/
theorem c53 {l : List Dat} {a0 : Sl} {w : World} (ht : ∀ e, e ∈ l → Has TyPort e) (h : IsD w (.sl 2 l) [.slice a0.a a0.len a0.cap]) (hs : (Dat.sl 2 l).sz ≤ 4194304) : CallW Try.prog 53 #[.slice a0.a a0.len a0.cap] w (fun v w' => ∃ s : Sl, v = .slice s.a s.len s.cap ∧ Fr w.heap.size w'.heap.size w' (.sl 2 l) [.slice s.a s.len s.cap] ∧ Ext w w') := by
  refine go53 ?_
  unfold W53
  obtain ⟨hlen, hmax, hel⟩ := isD_sl h
  simp only [Dat.sz] at hs
  rw [hlen]; simp only [Int.toNat_natCast]
  refine ⟨by omega, by omega, by omega, by omega, LetW_iff.2 ?_⟩
  have hs0 := ToInv.start (w := w) (z := 2) (zero := ti93.zero) (e := 93) l rfl
  generalize w.alloc (.cells ⟨zerosOf ti93.zero l.length⟩ 93) = w1 at *
  refine LoopW.m1 (fun (i : Int) w' => ∃ (k : Nat) (bs : List Nat) (vs : List Value), i = k ∧ ToInv w w' w.heap.size 2 l k bs vs) (fun (i : Int) _ => (l.length - i).toNat) ⟨0, [], _, rfl, hs0⟩ ?_
  rintro (i : Int) w4 ⟨k, bs, vs, rfl, hi⟩ J hJ
  refine BIf.dec (fun hlt => ?_) (fun hge => ?_)
  · obtain ⟨d, hd⟩ : ∃ d, l[k]? = some d := ⟨_, List.getElem?_eq_getElem (by omega)⟩
    have hsz := szs_get hd
    obtain ⟨p, es, hp, he, hc, his⟩ := isD_at (IsD.ext hi.ext _ _ h) hd
    have ht0 := ht d (mem_get hd)
    obtain ⟨x_0, l_1, rfl, t_1⟩ := has_Port ht0
    have his0 := his
    obtain ⟨s_1, rfl, ws_0, is_1⟩ := cells_Port his
    refine ⟨by omega, by omega, p, hp, _, hc 0 _ rfl, s_1, hc 1 _ rfl, (c89 (cs := [.int .i64 x_0, .slice s_1.a s_1.len s_1.cap]) ht0 his0 (by omega)).mono ?_⟩
    rintro _ w9 ⟨r, rfl, f, e9⟩
    have hr := f.is
    obtain ⟨r_1, rfl, wr_0, ir_1⟩ := cells_Port hr
    obtain ⟨b1, ho, hn, hb⟩ := f
    obtain ⟨hm, hi2⟩ := hi.step hd e9 ho hn (fun c hc => (hb c hc).1) rfl
    refine ⟨_, r_1, rfl, by omega, by omega, _, rfl, hm, LetW_iff.2 ?_⟩
    rw [w64 (by omega) (by omega)]
    exact hJ _ _ ⟨k + 1, _, _, by omega, hi2⟩ (by omega)
  · exact ⟨⟨some ⟨w.heap.size, 0, none⟩, l.length, l.length⟩, rfl, (hi.done (by omega) hmax).fr, hi.ext⟩

/- toCap -/
theorem c90 {d : Dat} {cs : List Value} {w : World} (ht : Has TyCap d) (h : IsD w d cs) (hs : d.sz ≤ 4194304) : CallW Try.prog 90 #[.agg ⟨cs⟩] w (fun v w' => ∃ cs', v = .agg ⟨cs'⟩ ∧ Fr w.heap.size w'.heap.size w' d cs' ∧ Ext w w') := by
  obtain ⟨x_0, x_1, x_2, x_3, x_4, rfl⟩ := has_Cap ht
  obtain ⟨rfl, ws_0, ws_1, ws_2, ws_3, ws_4⟩ := cells_Cap h
  show CallW Try.prog 90 #[.agg #[.int .i64 x_0, .int .i64 x_1, .int .i64 x_2, .int .i64 x_3, .int .i64 x_4]] w _
  refine go90 ?_
  unfold W90
  refine alloc_step (fun w1 e1 ha n1 => ?_)
  refine alloc_step (fun w2 e2 hc n2 => ?_)
  have ha := ha.ext e2
  refine alloc_step (fun w3 e3 hb n3 => ?_)
  have ha := ha.ext e3
  have hc := hc.ext e3
  have e := Only.trans e1 (Only.trans e2 e3)
  refine ⟨_, ha.cell 0, ?_⟩
  refine set_step hb (by simp) (fun w4 o4 hb n4 => ?_)
  have ha := ha.only o4 (by omega)
  have hc := hc.only o4 (by omega)
  have e := Ext.own e o4 (fun k hk => by omega)
  refine ⟨_, ha.cell 1, ?_⟩
  refine set_step hb (by simp) (fun w5 o5 hb n5 => ?_)
  have ha := ha.only o5 (by omega)
  have hc := hc.only o5 (by omega)
  have e := Ext.own e o5 (fun k hk => by omega)
  refine ⟨_, ha.cell 2, ?_⟩
  refine set_step hb (by simp) (fun w6 o6 hb n6 => ?_)
  have ha := ha.only o6 (by omega)
  have hc := hc.only o6 (by omega)
  have e := Ext.own e o6 (fun k hk => by omega)
  refine ⟨_, ha.cell 3, ?_⟩
  refine set_step hb (by simp) (fun w7 o7 hb n7 => ?_)
  have ha := ha.only o7 (by omega)
  have hc := hc.only o7 (by omega)
  have e := Ext.own e o7 (fun k hk => by omega)
  refine ⟨_, ha.cell 4, ?_⟩
  refine set_step hb (by simp) (fun w8 o8 hb n8 => ?_)
  have ha := ha.only o8 (by omega)
  have hc := hc.only o8 (by omega)
  have e := Ext.own e o8 (fun k hk => by omega)
  refine ⟨_, hb.cell 0, _, hb.cell 1, _, hb.cell 2, _, hb.cell 3, _, hb.cell 4, ?_⟩
  refine put_step hc rfl rfl (fun w9 o9 hc n9 => ?_)
  have e := Ext.own e o9 (fun k hk => by omega)
  refine ⟨_, hc.cell 0, _, hc.cell 1, _, hc.cell 2, _, hc.cell 3, _, hc.cell 4, ?_⟩
  exact ⟨[.int .i64 x_0, .int .i64 x_1, .int .i64 x_2, .int .i64 x_3, .int .i64 x_4], rfl, frF_st (frF_cons (m := w.heap.size) (fr_int ws_0) (frF_cons (m := w.heap.size) (fr_int ws_1) (frF_cons (m := w.heap.size) (fr_int ws_2) (frF_cons (m := w.heap.size) (fr_int ws_3) (frF_cons (m := w.heap.size) (fr_int ws_4) (frF_nil) (by omega) (by omega)) (by omega) (by omega)) (by omega) (by omega)) (by omega) (by omega)) (by omega) (by omega)), e⟩

/- toCapS -/
theorem c54 {l : List Dat} {a0 : Sl} {w : World} (ht : ∀ e, e ∈ l → Has TyCap e) (h : IsD w (.sl 5 l) [.slice a0.a a0.len a0.cap]) (hs : (Dat.sl 5 l).sz ≤ 4194304) : CallW Try.prog 54 #[.slice a0.a a0.len a0.cap] w (fun v w' => ∃ s : Sl, v = .slice s.a s.len s.cap ∧ Fr w.heap.size w'.heap.size w' (.sl 5 l) [.slice s.a s.len s.cap] ∧ Ext w w') := by
  refine go54 ?_
  unfold W54
  obtain ⟨hlen, hmax, hel⟩ := isD_sl h
  simp only [Dat.sz] at hs
  rw [hlen]; simp only [Int.toNat_natCast]
  refine ⟨by omega, by omega, by omega, by omega, LetW_iff.2 ?_⟩
  have hs0 := ToInv.start (w := w) (z := 5) (zero := ti67.zero) (e := 67) l rfl
  generalize w.alloc (.cells ⟨zerosOf ti67.zero l.length⟩ 67) = w1 at *
  refine LoopW.m1 (fun (i : Int) w' => ∃ (k : Nat) (bs : List Nat) (vs : List Value), i = k ∧ ToInv w w' w.heap.size 5 l k bs vs) (fun (i : Int) _ => (l.length - i).toNat) ⟨0, [], _, rfl, hs0⟩ ?_
  rintro (i : Int) w4 ⟨k, bs, vs, rfl, hi⟩ J hJ
  refine BIf.dec (fun hlt => ?_) (fun hge => ?_)
  · obtain ⟨d, hd⟩ : ∃ d, l[k]? = some d := ⟨_, List.getElem?_eq_getElem (by omega)⟩
    have hsz := szs_get hd
    obtain ⟨p, es, hp, he, hc, his⟩ := isD_at (IsD.ext hi.ext _ _ h) hd
    have ht0 := ht d (mem_get hd)
    obtain ⟨x_0, x_1, x_2, x_3, x_4, rfl⟩ := has_Cap ht0
    have his0 := his
    obtain ⟨rfl, ws_0, ws_1, ws_2, ws_3, ws_4⟩ := cells_Cap his
    refine ⟨by omega, by omega, p, hp, _, hc 0 _ rfl, _, hc 1 _ rfl, _, hc 2 _ rfl, _, hc 3 _ rfl, _, hc 4 _ rfl, (c90 (cs := [.int .i64 x_0, .int .i64 x_1, .int .i64 x_2, .int .i64 x_3, .int .i64 x_4]) ht0 his0 (by omega)).mono ?_⟩
    rintro _ w9 ⟨r, rfl, f, e9⟩
    have hr := f.is
    obtain ⟨rfl, wr_0, wr_1, wr_2, wr_3, wr_4⟩ := cells_Cap hr
    obtain ⟨b1, ho, hn, hb⟩ := f
    obtain ⟨hm, hi2⟩ := hi.step hd e9 ho hn (fun c hc => (hb c hc).1) rfl
    refine ⟨_, _, _, _, _, rfl, by omega, by omega, _, rfl, hm, LetW_iff.2 ?_⟩
    rw [w64 (by omega) (by omega)]
    exact hJ _ _ ⟨k + 1, _, _, by omega, hi2⟩ (by omega)
  · exact ⟨⟨some ⟨w.heap.size, 0, none⟩, l.length, l.length⟩, rfl, (hi.done (by omega) hmax).fr, hi.ext⟩

/- toPipe -/
theorem c91 {d : Dat} {cs : List Value} {w : World} (ht : Has TyPipe d) (h : IsD w d cs) (hs : d.sz ≤ 4194304) : CallW Try.prog 91 #[.agg ⟨cs⟩] w (fun v w' => ∃ cs', v = .agg ⟨cs'⟩ ∧ Fr w.heap.size w'.heap.size w' d cs' ∧ Ext w w') := by
  obtain ⟨x_0, x_1, x_2, l_3, rfl, t_3⟩ := has_Pipe ht
  obtain ⟨s_3, rfl, ws_0, ws_1, ws_2, is_3⟩ := cells_Pipe h
  show CallW Try.prog 91 #[.agg #[.int .i64 x_0, .int .i64 x_1, .int .i64 x_2, .slice s_3.a s_3.len s_3.cap]] w _
  refine go91 ?_
  unfold W91
  refine alloc_step (fun w1 e1 ha n1 => ?_)
  refine alloc_step (fun w2 e2 hc n2 => ?_)
  have ha := ha.ext e2
  refine alloc_step (fun w3 e3 hb n3 => ?_)
  have ha := ha.ext e3
  have hc := hc.ext e3
  have e := Only.trans e1 (Only.trans e2 e3)
  refine ⟨_, ha.cell 0, ?_⟩
  refine set_step hb (by simp) (fun w4 o4 hb n4 => ?_)
  have ha := ha.only o4 (by omega)
  have hc := hc.only o4 (by omega)
  have e := Ext.own e o4 (fun k hk => by omega)
  refine ⟨_, ha.cell 1, ?_⟩
  refine set_step hb (by simp) (fun w5 o5 hb n5 => ?_)
  have ha := ha.only o5 (by omega)
  have hc := hc.only o5 (by omega)
  have e := Ext.own e o5 (fun k hk => by omega)
  refine ⟨_, ha.cell 2, ?_⟩
  refine set_step hb (by simp) (fun w6 o6 hb n6 => ?_)
  have ha := ha.only o6 (by omega)
  have hc := hc.only o6 (by omega)
  have e := Ext.own e o6 (fun k hk => by omega)
  refine ⟨s_3, ha.cell 3, ?_⟩
  refine (c78 t_3 (IsD.ext e _ _ is_3) (by simp only [Dat.sz, Dat.szs] at hs ⊢; omega)).mono ?_
  rintro _ w7 ⟨r_3, rfl, f_3, e7⟩
  refine ⟨r_3, rfl, ?_⟩
  have ha := ha.ext e7
  have hb := hb.ext e7
  have hc := hc.ext e7
  have e := Only.trans e e7
  have z7 := e7.size
  refine set_step hb (by simp) (fun w8 o8 hb n8 => ?_)
  have ha := ha.only o8 (by omega)
  have hc := hc.only o8 (by omega)
  have e := Ext.own e o8 (fun k hk => by omega)
  have f_3 := f_3.only o8 (fun k _ _ => by omega)
  refine ⟨_, hb.cell 0, _, hb.cell 1, _, hb.cell 2, r_3, hb.cell 3, ?_⟩
  refine put_step hc rfl rfl (fun w9 o9 hc n9 => ?_)
  have e := Ext.own e o9 (fun k hk => by omega)
  have f_3 := f_3.only o9 (fun k _ _ => by omega)
  refine ⟨_, hc.cell 0, _, hc.cell 1, _, hc.cell 2, r_3, hc.cell 3, ?_⟩
  exact ⟨[.int .i64 x_0, .int .i64 x_1, .int .i64 x_2, .slice r_3.a r_3.len r_3.cap], rfl, frF_st (frF_cons (m := w.heap.size) (fr_int ws_0) (frF_cons (m := w.heap.size) (fr_int ws_1) (frF_cons (m := w.heap.size) (fr_int ws_2) (frF_cons (m := w7.heap.size) (f_3.mono (by omega) (Nat.le_refl _)) (frF_nil) (by omega) (by omega)) (by omega) (by omega)) (by omega) (by omega)) (by omega) (by omega)), e⟩

/- toPipeS -/
theorem c55 {l : List Dat} {a0 : Sl} {w : World} (ht : ∀ e, e ∈ l → Has TyPipe e) (h : IsD w (.sl 4 l) [.slice a0.a a0.len a0.cap]) (hs : (Dat.sl 4 l).sz ≤ 4194304) : CallW Try.prog 55 #[.slice a0.a a0.len a0.cap] w (fun v w' => ∃ s : Sl, v = .slice s.a s.len s.cap ∧ Fr w.heap.size w'.heap.size w' (.sl 4 l) [.slice s.a s.len s.cap] ∧ Ext w w') := by
  refine go55 ?_
  unfold W55
  obtain ⟨hlen, hmax, hel⟩ := isD_sl h
  simp only [Dat.sz] at hs
  rw [hlen]; simp only [Int.toNat_natCast]
  refine ⟨by omega, by omega, by omega, by omega, LetW_iff.2 ?_⟩
  have hs0 := ToInv.start (w := w) (z := 4) (zero := ti97.zero) (e := 97) l rfl
  generalize w.alloc (.cells ⟨zerosOf ti97.zero l.length⟩ 97) = w1 at *
  refine LoopW.m1 (fun (i : Int) w' => ∃ (k : Nat) (bs : List Nat) (vs : List Value), i = k ∧ ToInv w w' w.heap.size 4 l k bs vs) (fun (i : Int) _ => (l.length - i).toNat) ⟨0, [], _, rfl, hs0⟩ ?_
  rintro (i : Int) w4 ⟨k, bs, vs, rfl, hi⟩ J hJ
  refine BIf.dec (fun hlt => ?_) (fun hge => ?_)
  · obtain ⟨d, hd⟩ : ∃ d, l[k]? = some d := ⟨_, List.getElem?_eq_getElem (by omega)⟩
    have hsz := szs_get hd
    obtain ⟨p, es, hp, he, hc, his⟩ := isD_at (IsD.ext hi.ext _ _ h) hd
    have ht0 := ht d (mem_get hd)
    obtain ⟨x_0, x_1, x_2, l_3, rfl, t_3⟩ := has_Pipe ht0
    have his0 := his
    obtain ⟨s_3, rfl, ws_0, ws_1, ws_2, is_3⟩ := cells_Pipe his
    refine ⟨by omega, by omega, p, hp, _, hc 0 _ rfl, _, hc 1 _ rfl, _, hc 2 _ rfl, s_3, hc 3 _ rfl, (c91 (cs := [.int .i64 x_0, .int .i64 x_1, .int .i64 x_2, .slice s_3.a s_3.len s_3.cap]) ht0 his0 (by omega)).mono ?_⟩
    rintro _ w9 ⟨r, rfl, f, e9⟩
    have hr := f.is
    obtain ⟨r_3, rfl, wr_0, wr_1, wr_2, ir_3⟩ := cells_Pipe hr
    obtain ⟨b1, ho, hn, hb⟩ := f
    obtain ⟨hm, hi2⟩ := hi.step hd e9 ho hn (fun c hc => (hb c hc).1) rfl
    refine ⟨_, _, _, r_3, rfl, by omega, by omega, _, rfl, hm, LetW_iff.2 ?_⟩
    rw [w64 (by omega) (by omega)]
    exact hJ _ _ ⟨k + 1, _, _, by omega, hi2⟩ (by omega)
  · exact ⟨⟨some ⟨w.heap.size, 0, none⟩, l.length, l.length⟩, rfl, (hi.done (by omega) hmax).fr, hi.ext⟩

/- toIpc -/
theorem c11 {d : Dat} {cs : List Value} {w : World} (ht : Has TyIpc d) (h : IsD w d cs) (hs : d.sz ≤ 4194304) : CallW Try.prog 11 #[.agg ⟨cs⟩] w (fun v w' => ∃ cs', v = .agg ⟨cs'⟩ ∧ Fr w.heap.size w'.heap.size w' d cs' ∧ Ext w w') := by
  obtain ⟨x_0, l_1, l_2, l_3, rfl, t_1, t_2, t_3⟩ := has_Ipc ht
  obtain ⟨s_1, s_2, s_3, rfl, ws_0, is_1, is_2, is_3⟩ := cells_Ipc h
  show CallW Try.prog 11 #[.agg #[.int .i64 x_0, .slice s_1.a s_1.len s_1.cap, .slice s_2.a s_2.len s_2.cap, .slice s_3.a s_3.len s_3.cap]] w _
  refine go11 ?_
  unfold W11
  refine alloc_step (fun w1 e1 ha n1 => ?_)
  refine alloc_step (fun w2 e2 hc n2 => ?_)
  have ha := ha.ext e2
  refine alloc_step (fun w3 e3 hb n3 => ?_)
  have ha := ha.ext e3
  have hc := hc.ext e3
  have e := Only.trans e1 (Only.trans e2 e3)
  refine ⟨_, ha.cell 0, ?_⟩
  refine set_step hb (by simp) (fun w4 o4 hb n4 => ?_)
  have ha := ha.only o4 (by omega)
  have hc := hc.only o4 (by omega)
  have e := Ext.own e o4 (fun k hk => by omega)
  refine ⟨s_1, ha.cell 1, ?_⟩
  refine (c53 t_1 (IsD.ext e _ _ is_1) (by simp only [Dat.sz, Dat.szs] at hs ⊢; omega)).mono ?_
  rintro _ w5 ⟨r_1, rfl, f_1, e5⟩
  refine ⟨r_1, rfl, ?_⟩
  have ha := ha.ext e5
  have hb := hb.ext e5
  have hc := hc.ext e5
  have e := Only.trans e e5
  have z5 := e5.size
  refine set_step hb (by simp) (fun w6 o6 hb n6 => ?_)
  have ha := ha.only o6 (by omega)
  have hc := hc.only o6 (by omega)
  have e := Ext.own e o6 (fun k hk => by omega)
  have f_1 := f_1.only o6 (fun k _ _ => by omega)
  refine ⟨s_2, ha.cell 2, ?_⟩
  refine (c54 t_2 (IsD.ext e _ _ is_2) (by simp only [Dat.sz, Dat.szs] at hs ⊢; omega)).mono ?_
  rintro _ w7 ⟨r_2, rfl, f_2, e7⟩
  refine ⟨r_2, rfl, ?_⟩
  have ha := ha.ext e7
  have hb := hb.ext e7
  have hc := hc.ext e7
  have e := Only.trans e e7
  have z7 := e7.size
  have f_1 := f_1.ext e7
  refine set_step hb (by simp) (fun w8 o8 hb n8 => ?_)
  have ha := ha.only o8 (by omega)
  have hc := hc.only o8 (by omega)
  have e := Ext.own e o8 (fun k hk => by omega)
  have f_1 := f_1.only o8 (fun k _ _ => by omega)
  have f_2 := f_2.only o8 (fun k _ _ => by omega)
  refine ⟨s_3, ha.cell 3, ?_⟩
  refine (c55 t_3 (IsD.ext e _ _ is_3) (by simp only [Dat.sz, Dat.szs] at hs ⊢; omega)).mono ?_
  rintro _ w9 ⟨r_3, rfl, f_3, e9⟩
  refine ⟨r_3, rfl, ?_⟩
  have ha := ha.ext e9
  have hb := hb.ext e9
  have hc := hc.ext e9
  have e := Only.trans e e9
  have z9 := e9.size
  have f_1 := f_1.ext e9
  have f_2 := f_2.ext e9
  refine set_step hb (by simp) (fun w10 o10 hb n10 => ?_)
  have ha := ha.only o10 (by omega)
  have hc := hc.only o10 (by omega)
  have e := Ext.own e o10 (fun k hk => by omega)
  have f_1 := f_1.only o10 (fun k _ _ => by omega)
  have f_2 := f_2.only o10 (fun k _ _ => by omega)
  have f_3 := f_3.only o10 (fun k _ _ => by omega)
  refine ⟨_, hb.cell 0, r_1, hb.cell 1, r_2, hb.cell 2, r_3, hb.cell 3, ?_⟩
  refine put_step hc rfl rfl (fun w11 o11 hc n11 => ?_)
  have e := Ext.own e o11 (fun k hk => by omega)
  have f_1 := f_1.only o11 (fun k _ _ => by omega)
  have f_2 := f_2.only o11 (fun k _ _ => by omega)
  have f_3 := f_3.only o11 (fun k _ _ => by omega)
  refine ⟨_, hc.cell 0, r_1, hc.cell 1, r_2, hc.cell 2, r_3, hc.cell 3, ?_⟩
  exact ⟨[.int .i64 x_0, .slice r_1.a r_1.len r_1.cap, .slice r_2.a r_2.len r_2.cap, .slice r_3.a r_3.len r_3.cap], rfl, frF_st (frF_cons (m := w.heap.size) (fr_int ws_0) (frF_cons (m := w5.heap.size) (f_1.mono (by omega) (Nat.le_refl _)) (frF_cons (m := w7.heap.size) (f_2.mono (by omega) (Nat.le_refl _)) (frF_cons (m := w9.heap.size) (f_3.mono (by omega) (Nat.le_refl _)) (frF_nil) (by omega) (by omega)) (by omega) (by omega)) (by omega) (by omega)) (by omega) (by omega)), e⟩

/- eqCap -/
theorem c62 {d : Dat} {cs1 cs2 : List Value} {w : World} (ht : Has TyCap d) (h : IsD w d cs1) (h2 : IsD w d cs2) : CallW Try.prog 62 #[.agg ⟨cs1⟩, .agg ⟨cs2⟩] w (fun v w' => v = .bool true ∧ Ext w w') := by
  obtain ⟨x_0, x_1, x_2, x_3, x_4, rfl⟩ := has_Cap ht
  obtain ⟨rfl, ws_0, ws_1, ws_2, ws_3, ws_4⟩ := cells_Cap h
  obtain ⟨rfl, wu_0, wu_1, wu_2, wu_3, wu_4⟩ := cells_Cap h2
  show CallW Try.prog 62 #[.agg #[.int .i64 x_0, .int .i64 x_1, .int .i64 x_2, .int .i64 x_3, .int .i64 x_4], .agg #[.int .i64 x_0, .int .i64 x_1, .int .i64 x_2, .int .i64 x_3, .int .i64 x_4]] w _
  refine go62 ?_
  unfold W62
  refine alloc_step (fun w1 e1 ha n1 => ?_)
  refine alloc_step (fun w2 e2 hb n2 => ?_)
  have ha := ha.ext e2
  have e := Only.trans e1 e2
  refine ⟨_, ha.cell 0, _, hb.cell 0, BIf.f (by simp) ?_⟩
  refine ⟨_, ha.cell 1, _, hb.cell 1, BIf.f (by simp) ?_⟩
  refine ⟨_, ha.cell 2, _, hb.cell 2, BIf.f (by simp) ?_⟩
  refine ⟨_, ha.cell 3, _, hb.cell 3, BIf.f (by simp) ?_⟩
  refine ⟨_, ha.cell 4, _, hb.cell 4, BIf.f (by simp) ?_⟩
  exact ⟨rfl, e⟩

/- eqCapS -/
theorem c16 {l : List Dat} {a0 a1 : Sl} {w : World} (ht : ∀ e, e ∈ l → Has TyCap e) (h : IsD w (.sl 5 l) [.slice a0.a a0.len a0.cap]) (h2 : IsD w (.sl 5 l) [.slice a1.a a1.len a1.cap]) : CallW Try.prog 16 #[.slice a0.a a0.len a0.cap, .slice a1.a a1.len a1.cap] w (fun v w' => v = .bool true ∧ Ext w w') := by
  refine go16 ?_
  unfold W16
  obtain ⟨hlen, hmax, hel⟩ := isD_sl h
  obtain ⟨hlen2, _, hel2⟩ := isD_sl h2
  have hmx : maxLen = 9223372036854775807 := rfl
  rw [hlen, hlen2]
  refine BIf.f (by simp) ?_
  refine LoopW.m1 (fun (i : Int) w' => ∃ k : Nat, i = k ∧ k ≤ l.length ∧ Ext w w') (fun (i : Int) _ => (l.length - i).toNat) ⟨0, rfl, by omega, Only.refl _ _⟩ ?_
  rintro (i : Int) w4 ⟨k, rfl, hk, e4⟩ J hJ
  refine BIf.dec (fun hlt => ?_) (fun hge => ⟨rfl, e4⟩)
  obtain ⟨d, hd⟩ : ∃ d, l[k]? = some d := ⟨_, List.getElem?_eq_getElem (by omega)⟩
  have e4 := Only.trans e4 (ext_drew w4)
  obtain ⟨p, es, hp, he, hc, his⟩ := isD_at (IsD.ext e4 _ _ h) hd
  obtain ⟨p2, es2, hp2, he2, hc2, his2⟩ := isD_at (IsD.ext e4 _ _ h2) hd
  have ht0 := ht d (mem_get hd)
  have ht1 := ht0
  obtain ⟨x_0, x_1, x_2, x_3, x_4, rfl⟩ := has_Cap ht1
  have his0 := his
  have his20 := his2
  obtain ⟨rfl, ws_0, ws_1, ws_2, ws_3, ws_4⟩ := cells_Cap his
  obtain ⟨rfl, wu_0, wu_1, wu_2, wu_3, wu_4⟩ := cells_Cap his2
  refine ⟨by omega, by omega, p, hp, _, hc 0 _ rfl, _, hc 1 _ rfl, _, hc 2 _ rfl, _, hc 3 _ rfl, _, hc 4 _ rfl, by omega, by omega, p2, hp2, _, hc2 0 _ rfl, _, hc2 1 _ rfl, _, hc2 2 _ rfl, _, hc2 3 _ rfl, _, hc2 4 _ rfl, (c62 (cs1 := [.int .i64 x_0, .int .i64 x_1, .int .i64 x_2, .int .i64 x_3, .int .i64 x_4]) (cs2 := [.int .i64 x_0, .int .i64 x_1, .int .i64 x_2, .int .i64 x_3, .int .i64 x_4]) ht0 his0 his20).mono ?_⟩
  rintro _ w9 ⟨rfl, e9⟩
  refine ⟨true, rfl, BIf.f rfl ?_⟩
  rw [w64 (by omega) (by omega)]
  exact hJ _ _ ⟨k + 1, by omega, by omega, Only.trans e4 e9⟩ (by omega)

/- eqByteS -/
theorem c79 {l : List Dat} {a0 a1 : Sl} {w : World} (ht : ∀ e, e ∈ l → Has (.int .u8) e) (h : IsD w (.sl 1 l) [.slice a0.a a0.len a0.cap]) (h2 : IsD w (.sl 1 l) [.slice a1.a a1.len a1.cap]) : CallW Try.prog 79 #[.slice a0.a a0.len a0.cap, .slice a1.a a1.len a1.cap] w (fun v w' => v = .bool true ∧ Ext w w') := by
  refine go79 ?_
  unfold W79
  obtain ⟨hlen, hmax, hel⟩ := isD_sl h
  obtain ⟨hlen2, _, hel2⟩ := isD_sl h2
  have hmx : maxLen = 9223372036854775807 := rfl
  rw [hlen, hlen2]
  refine BIf.f (by simp) ?_
  refine LoopW.m1 (fun (i : Int) w' => ∃ k : Nat, i = k ∧ k ≤ l.length ∧ Ext w w') (fun (i : Int) _ => (l.length - i).toNat) ⟨0, rfl, by omega, Only.refl _ _⟩ ?_
  rintro (i : Int) w4 ⟨k, rfl, hk, e4⟩ J hJ
  refine BIf.dec (fun hlt => ?_) (fun hge => ⟨rfl, e4⟩)
  obtain ⟨d, hd⟩ : ∃ d, l[k]? = some d := ⟨_, List.getElem?_eq_getElem (by omega)⟩
  have e4 := Only.trans e4 (ext_drew w4)
  obtain ⟨p, es, hp, he, hc, his⟩ := isD_at (IsD.ext e4 _ _ h) hd
  obtain ⟨p2, es2, hp2, he2, hc2, his2⟩ := isD_at (IsD.ext e4 _ _ h2) hd
  have ht0 := ht d (mem_get hd)
  have ht1 := ht0
  obtain ⟨x, rfl⟩ := has_int ht1
  obtain ⟨rfl, ws⟩ := isD_int his
  obtain ⟨rfl, wu⟩ := isD_int his2
  refine ⟨by omega, by omega, p, hp, _, hc 0 _ rfl, by omega, by omega, p2, hp2, _, hc2 0 _ rfl, BIf.f (by simp) ?_⟩
  rw [w64 (by omega) (by omega)]
  exact hJ _ _ ⟨k + 1, by omega, by omega, e4⟩ (by omega)

/- eqMsg -/
theorem c123 {d : Dat} {cs1 cs2 : List Value} {w : World} (ht : Has TyMsg d) (h : IsD w d cs1) (h2 : IsD w d cs2) : CallW Try.prog 123 #[.agg ⟨cs1⟩, .agg ⟨cs2⟩] w (fun v w' => v = .bool true ∧ Ext w w') := by
  obtain ⟨x_0, l_1, x_2, rfl, t_1⟩ := has_Msg ht
  obtain ⟨s_1, rfl, ws_0, is_1, ws_2⟩ := cells_Msg h
  obtain ⟨u_1, rfl, wu_0, iu_1, wu_2⟩ := cells_Msg h2
  show CallW Try.prog 123 #[.agg #[.int .i64 x_0, .slice s_1.a s_1.len s_1.cap, .int .i64 x_2], .agg #[.int .i64 x_0, .slice u_1.a u_1.len u_1.cap, .int .i64 x_2]] w _
  refine go123 ?_
  unfold W123
  refine alloc_step (fun w1 e1 ha n1 => ?_)
  refine alloc_step (fun w2 e2 hb n2 => ?_)
  have ha := ha.ext e2
  have e := Only.trans e1 e2
  refine ⟨_, ha.cell 0, _, hb.cell 0, BIf.f (by simp) ?_⟩
  refine ⟨s_1, ha.cell 1, u_1, hb.cell 1, (c79 t_1 (IsD.ext e _ _ is_1) (IsD.ext e _ _ iu_1)).mono ?_⟩
  rintro _ w3 ⟨rfl, e3⟩
  have ha := ha.ext e3
  have hb := hb.ext e3
  have e := Only.trans e e3
  refine ⟨true, rfl, BIf.f rfl ?_⟩
  refine ⟨_, ha.cell 2, _, hb.cell 2, BIf.f (by simp) ?_⟩
  exact ⟨rfl, e⟩

/- eqMsgS -/
theorem c114 {l : List Dat} {a0 a1 : Sl} {w : World} (ht : ∀ e, e ∈ l → Has TyMsg e) (h : IsD w (.sl 3 l) [.slice a0.a a0.len a0.cap]) (h2 : IsD w (.sl 3 l) [.slice a1.a a1.len a1.cap]) : CallW Try.prog 114 #[.slice a0.a a0.len a0.cap, .slice a1.a a1.len a1.cap] w (fun v w' => v = .bool true ∧ Ext w w') := by
  refine go114 ?_
  unfold W114
  obtain ⟨hlen, hmax, hel⟩ := isD_sl h
  obtain ⟨hlen2, _, hel2⟩ := isD_sl h2
  have hmx : maxLen = 9223372036854775807 := rfl
  rw [hlen, hlen2]
  refine BIf.f (by simp) ?_
  refine LoopW.m1 (fun (i : Int) w' => ∃ k : Nat, i = k ∧ k ≤ l.length ∧ Ext w w') (fun (i : Int) _ => (l.length - i).toNat) ⟨0, rfl, by omega, Only.refl _ _⟩ ?_
  rintro (i : Int) w4 ⟨k, rfl, hk, e4⟩ J hJ
  refine BIf.dec (fun hlt => ?_) (fun hge => ⟨rfl, e4⟩)
  obtain ⟨d, hd⟩ : ∃ d, l[k]? = some d := ⟨_, List.getElem?_eq_getElem (by omega)⟩
  have e4 := Only.trans e4 (ext_drew w4)
  obtain ⟨p, es, hp, he, hc, his⟩ := isD_at (IsD.ext e4 _ _ h) hd
  obtain ⟨p2, es2, hp2, he2, hc2, his2⟩ := isD_at (IsD.ext e4 _ _ h2) hd
  have ht0 := ht d (mem_get hd)
  have ht1 := ht0
  obtain ⟨x_0, l_1, x_2, rfl, t_1⟩ := has_Msg ht1
  have his0 := his
  have his20 := his2
  obtain ⟨s_1, rfl, ws_0, is_1, ws_2⟩ := cells_Msg his
  obtain ⟨u_1, rfl, wu_0, iu_1, wu_2⟩ := cells_Msg his2
  refine ⟨by omega, by omega, p, hp, _, hc 0 _ rfl, s_1, hc 1 _ rfl, _, hc 2 _ rfl, by omega, by omega, p2, hp2, _, hc2 0 _ rfl, u_1, hc2 1 _ rfl, _, hc2 2 _ rfl, (c123 (cs1 := [.int .i64 x_0, .slice s_1.a s_1.len s_1.cap, .int .i64 x_2]) (cs2 := [.int .i64 x_0, .slice u_1.a u_1.len u_1.cap, .int .i64 x_2]) ht0 his0 his20).mono ?_⟩
  rintro _ w9 ⟨rfl, e9⟩
  refine ⟨true, rfl, BIf.f rfl ?_⟩
  rw [w64 (by omega) (by omega)]
  exact hJ _ _ ⟨k + 1, by omega, by omega, Only.trans e4 e9⟩ (by omega)

/- eqPort -/
theorem c92 {d : Dat} {cs1 cs2 : List Value} {w : World} (ht : Has TyPort d) (h : IsD w d cs1) (h2 : IsD w d cs2) : CallW Try.prog 92 #[.agg ⟨cs1⟩, .agg ⟨cs2⟩] w (fun v w' => v = .bool true ∧ Ext w w') := by
  obtain ⟨x_0, l_1, rfl, t_1⟩ := has_Port ht
  obtain ⟨s_1, rfl, ws_0, is_1⟩ := cells_Port h
  obtain ⟨u_1, rfl, wu_0, iu_1⟩ := cells_Port h2
  show CallW Try.prog 92 #[.agg #[.int .i64 x_0, .slice s_1.a s_1.len s_1.cap], .agg #[.int .i64 x_0, .slice u_1.a u_1.len u_1.cap]] w _
  refine go92 ?_
  unfold W92
  refine alloc_step (fun w1 e1 ha n1 => ?_)
  refine alloc_step (fun w2 e2 hb n2 => ?_)
  have ha := ha.ext e2
  have e := Only.trans e1 e2
  refine ⟨_, ha.cell 0, _, hb.cell 0, BIf.f (by simp) ?_⟩
  refine ⟨s_1, ha.cell 1, u_1, hb.cell 1, (c114 t_1 (IsD.ext e _ _ is_1) (IsD.ext e _ _ iu_1)).mono ?_⟩
  rintro _ w3 ⟨rfl, e3⟩
  have ha := ha.ext e3
  have hb := hb.ext e3
  have e := Only.trans e e3
  refine ⟨true, rfl, BIf.f rfl ?_⟩
  exact ⟨rfl, e⟩

/- eqPortS -/
theorem c60 {l : List Dat} {a0 a1 : Sl} {w : World} (ht : ∀ e, e ∈ l → Has TyPort e) (h : IsD w (.sl 2 l) [.slice a0.a a0.len a0.cap]) (h2 : IsD w (.sl 2 l) [.slice a1.a a1.len a1.cap]) : CallW Try.prog 60 #[.slice a0.a a0.len a0.cap, .slice a1.a a1.len a1.cap] w (fun v w' => v = .bool true ∧ Ext w w') := by
  refine go60 ?_
  unfold W60
  obtain ⟨hlen, hmax, hel⟩ := isD_sl h
  obtain ⟨hlen2, _, hel2⟩ := isD_sl h2
  have hmx : maxLen = 9223372036854775807 := rfl
  rw [hlen, hlen2]
  refine BIf.f (by simp) ?_
  refine LoopW.m1 (fun (i : Int) w' => ∃ k : Nat, i = k ∧ k ≤ l.length ∧ Ext w w') (fun (i : Int) _ => (l.length - i).toNat) ⟨0, rfl, by omega, Only.refl _ _⟩ ?_
  rintro (i : Int) w4 ⟨k, rfl, hk, e4⟩ J hJ
  refine BIf.dec (fun hlt => ?_) (fun hge => ⟨rfl, e4⟩)
  obtain ⟨d, hd⟩ : ∃ d, l[k]? = some d := ⟨_, List.getElem?_eq_getElem (by omega)⟩
  have e4 := Only.trans e4 (ext_drew w4)
  obtain ⟨p, es, hp, he, hc, his⟩ := isD_at (IsD.ext e4 _ _ h) hd
  obtain ⟨p2, es2, hp2, he2, hc2, his2⟩ := isD_at (IsD.ext e4 _ _ h2) hd
  have ht0 := ht d (mem_get hd)
  have ht1 := ht0
  obtain ⟨x_0, l_1, rfl, t_1⟩ := has_Port ht1
  have his0 := his
  have his20 := his2
  obtain ⟨s_1, rfl, ws_0, is_1⟩ := cells_Port his
  obtain ⟨u_1, rfl, wu_0, iu_1⟩ := cells_Port his2
  refine ⟨by omega, by omega, p, hp, _, hc 0 _ rfl, s_1, hc 1 _ rfl, by omega, by omega, p2, hp2, _, hc2 0 _ rfl, u_1, hc2 1 _ rfl, (c92 (cs1 := [.int .i64 x_0, .slice s_1.a s_1.len s_1.cap]) (cs2 := [.int .i64 x_0, .slice u_1.a u_1.len u_1.cap]) ht0 his0 his20).mono ?_⟩
  rintro _ w9 ⟨rfl, e9⟩
  refine ⟨true, rfl, BIf.f rfl ?_⟩
  rw [w64 (by omega) (by omega)]
  exact hJ _ _ ⟨k + 1, by omega, by omega, Only.trans e4 e9⟩ (by omega)

/- eqPipe -/
theorem c93 {d : Dat} {cs1 cs2 : List Value} {w : World} (ht : Has TyPipe d) (h : IsD w d cs1) (h2 : IsD w d cs2) : CallW Try.prog 93 #[.agg ⟨cs1⟩, .agg ⟨cs2⟩] w (fun v w' => v = .bool true ∧ Ext w w') := by
  obtain ⟨x_0, x_1, x_2, l_3, rfl, t_3⟩ := has_Pipe ht
  obtain ⟨s_3, rfl, ws_0, ws_1, ws_2, is_3⟩ := cells_Pipe h
  obtain ⟨u_3, rfl, wu_0, wu_1, wu_2, iu_3⟩ := cells_Pipe h2
  show CallW Try.prog 93 #[.agg #[.int .i64 x_0, .int .i64 x_1, .int .i64 x_2, .slice s_3.a s_3.len s_3.cap], .agg #[.int .i64 x_0, .int .i64 x_1, .int .i64 x_2, .slice u_3.a u_3.len u_3.cap]] w _
  refine go93 ?_
  unfold W93
  refine alloc_step (fun w1 e1 ha n1 => ?_)
  refine alloc_step (fun w2 e2 hb n2 => ?_)
  have ha := ha.ext e2
  have e := Only.trans e1 e2
  refine ⟨_, ha.cell 0, _, hb.cell 0, BIf.f (by simp) ?_⟩
  refine ⟨_, ha.cell 1, _, hb.cell 1, BIf.f (by simp) ?_⟩
  refine ⟨_, ha.cell 2, _, hb.cell 2, BIf.f (by simp) ?_⟩
  refine ⟨s_3, ha.cell 3, u_3, hb.cell 3, (c79 t_3 (IsD.ext e _ _ is_3) (IsD.ext e _ _ iu_3)).mono ?_⟩
  rintro _ w3 ⟨rfl, e3⟩
  have ha := ha.ext e3
  have hb := hb.ext e3
  have e := Only.trans e e3
  refine ⟨true, rfl, BIf.f rfl ?_⟩
  exact ⟨rfl, e⟩

/- eqPipeS -/
theorem c61 {l : List Dat} {a0 a1 : Sl} {w : World} (ht : ∀ e, e ∈ l → Has TyPipe e) (h : IsD w (.sl 4 l) [.slice a0.a a0.len a0.cap]) (h2 : IsD w (.sl 4 l) [.slice a1.a a1.len a1.cap]) : CallW Try.prog 61 #[.slice a0.a a0.len a0.cap, .slice a1.a a1.len a1.cap] w (fun v w' => v = .bool true ∧ Ext w w') := by
  refine go61 ?_
  unfold W61
  obtain ⟨hlen, hmax, hel⟩ := isD_sl h
  obtain ⟨hlen2, _, hel2⟩ := isD_sl h2
  have hmx : maxLen = 9223372036854775807 := rfl
  rw [hlen, hlen2]
  refine BIf.f (by simp) ?_
  refine LoopW.m1 (fun (i : Int) w' => ∃ k : Nat, i = k ∧ k ≤ l.length ∧ Ext w w') (fun (i : Int) _ => (l.length - i).toNat) ⟨0, rfl, by omega, Only.refl _ _⟩ ?_
  rintro (i : Int) w4 ⟨k, rfl, hk, e4⟩ J hJ
  refine BIf.dec (fun hlt => ?_) (fun hge => ⟨rfl, e4⟩)
  obtain ⟨d, hd⟩ : ∃ d, l[k]? = some d := ⟨_, List.getElem?_eq_getElem (by omega)⟩
  have e4 := Only.trans e4 (ext_drew w4)
  obtain ⟨p, es, hp, he, hc, his⟩ := isD_at (IsD.ext e4 _ _ h) hd
  obtain ⟨p2, es2, hp2, he2, hc2, his2⟩ := isD_at (IsD.ext e4 _ _ h2) hd
  have ht0 := ht d (mem_get hd)
  have ht1 := ht0
  obtain ⟨x_0, x_1, x_2, l_3, rfl, t_3⟩ := has_Pipe ht1
  have his0 := his
  have his20 := his2
  obtain ⟨s_3, rfl, ws_0, ws_1, ws_2, is_3⟩ := cells_Pipe his
  obtain ⟨u_3, rfl, wu_0, wu_1, wu_2, iu_3⟩ := cells_Pipe his2
  refine ⟨by omega, by omega, p, hp, _, hc 0 _ rfl, _, hc 1 _ rfl, _, hc 2 _ rfl, s_3, hc 3 _ rfl, by omega, by omega, p2, hp2, _, hc2 0 _ rfl, _, hc2 1 _ rfl, _, hc2 2 _ rfl, u_3, hc2 3 _ rfl, (c93 (cs1 := [.int .i64 x_0, .int .i64 x_1, .int .i64 x_2, .slice s_3.a s_3.len s_3.cap]) (cs2 := [.int .i64 x_0, .int .i64 x_1, .int .i64 x_2, .slice u_3.a u_3.len u_3.cap]) ht0 his0 his20).mono ?_⟩
  rintro _ w9 ⟨rfl, e9⟩
  refine ⟨true, rfl, BIf.f rfl ?_⟩
  rw [w64 (by omega) (by omega)]
  exact hJ _ _ ⟨k + 1, by omega, by omega, Only.trans e4 e9⟩ (by omega)

/- eqIpc -/
theorem c13 {d : Dat} {cs1 cs2 : List Value} {w : World} (ht : Has TyIpc d) (h : IsD w d cs1) (h2 : IsD w d cs2) : CallW Try.prog 13 #[.agg ⟨cs1⟩, .agg ⟨cs2⟩] w (fun v w' => v = .bool true ∧ Ext w w') := by
  obtain ⟨x_0, l_1, l_2, l_3, rfl, t_1, t_2, t_3⟩ := has_Ipc ht
  obtain ⟨s_1, s_2, s_3, rfl, ws_0, is_1, is_2, is_3⟩ := cells_Ipc h
  obtain ⟨u_1, u_2, u_3, rfl, wu_0, iu_1, iu_2, iu_3⟩ := cells_Ipc h2
  show CallW Try.prog 13 #[.agg #[.int .i64 x_0, .slice s_1.a s_1.len s_1.cap, .slice s_2.a s_2.len s_2.cap, .slice s_3.a s_3.len s_3.cap], .agg #[.int .i64 x_0, .slice u_1.a u_1.len u_1.cap, .slice u_2.a u_2.len u_2.cap, .slice u_3.a u_3.len u_3.cap]] w _
  refine go13 ?_
  unfold W13
  refine alloc_step (fun w1 e1 ha n1 => ?_)
  refine alloc_step (fun w2 e2 hb n2 => ?_)
  have ha := ha.ext e2
  have e := Only.trans e1 e2
  refine ⟨_, ha.cell 0, _, hb.cell 0, BIf.f (by simp) ?_⟩
  refine ⟨s_1, ha.cell 1, u_1, hb.cell 1, (c60 t_1 (IsD.ext e _ _ is_1) (IsD.ext e _ _ iu_1)).mono ?_⟩
  rintro _ w3 ⟨rfl, e3⟩
  have ha := ha.ext e3
  have hb := hb.ext e3
  have e := Only.trans e e3
  refine ⟨true, rfl, BIf.f rfl ?_⟩
  refine ⟨s_2, ha.cell 2, u_2, hb.cell 2, (c16 t_2 (IsD.ext e _ _ is_2) (IsD.ext e _ _ iu_2)).mono ?_⟩
  rintro _ w4 ⟨rfl, e4⟩
  have ha := ha.ext e4
  have hb := hb.ext e4
  have e := Only.trans e e4
  refine ⟨true, rfl, BIf.f rfl ?_⟩
  refine ⟨s_3, ha.cell 3, u_3, hb.cell 3, (c61 t_3 (IsD.ext e _ _ is_3) (IsD.ext e _ _ iu_3)).mono ?_⟩
  rintro _ w5 ⟨rfl, e5⟩
  have ha := ha.ext e5
  have hb := hb.ext e5
  have e := Only.trans e e5
  refine ⟨true, rfl, BIf.f rfl ?_⟩
  exact ⟨rfl, e⟩

/- markCapS -/
theorem c18 {l : List Dat} {a0 : Sl} {bs : List Nat} {k0 : Int} {w : World} (ht : ∀ e, e ∈ l → Has TyCap e) (h : OwnD w (.sl 5 l) bs [.slice a0.a a0.len a0.cap]) (hn : bs.Nodup) (h0 : 1 ≤ k0) (hk : k0 + Dat.cnts l ≤ 1099511627776) : CallW Try.prog 18 #[.slice a0.a a0.len a0.cap, .int .i64 k0] w (fun v w' => v = .int .i64 (k0 + Dat.cnts l) ∧ ∃ l', l'.length = l.length ∧ Dat.cnts l' = Dat.cnts l ∧ (∀ e, e ∈ l' → Has TyCap e) ∧ MarkedF TXT l' k0 ∧ OwnD w' (.sl 5 l') bs [.slice a0.a a0.len a0.cap] ∧ Only (fun k => k ∈ bs) w w') := by
  refine go18 ?_
  unfold W18
  obtain ⟨hlen, hmax⟩ := ownD_len h
  have hmx : maxLen = 9223372036854775807 := rfl
  rw [hlen]
  refine LoopW.m2 (fun (x i : Int) w' => ∃ (k : Nat) (l' : List Dat), i = k ∧ k ≤ l.length ∧ l'.length = k ∧ x = k0 + Dat.cnts l' ∧ Dat.cnts l' = Dat.cnts (l.take k) ∧ (∀ e, e ∈ l' → Has TyCap e) ∧ MarkedF TXT l' k0 ∧ OwnD w' (.sl 5 (l' ++ l.drop k)) bs [.slice a0.a a0.len a0.cap] ∧ Only (fun k => k ∈ bs) w w') (fun _ (i : Int) _ => (l.length - i).toNat) ⟨0, [], rfl, by omega, rfl, by simp [Dat.cnts], by simp [Dat.cnts], fun e he => (by cases he), markedF_nil, by simpa using h, Only.refl _ _⟩ ?_
  rintro (kx : Int) (i : Int) w4 ⟨k, l', rfl, hkl, hl', hx, hcn, hty, hmk, ho, o4⟩ J hJ
  refine BIf.dec (fun hlt => ?_) (fun hge => ?_)
  · obtain ⟨d, hd⟩ : ∃ d, l[k]? = some d := ⟨_, List.getElem?_eq_getElem (by omega)⟩
    have hcg := cnts_get hd
    have hct := cnts_take hd
    have ht0 := ht d (mem_get hd)
    obtain ⟨x_0, x_1, x_2, x_3, x_4, rfl⟩ := has_Cap ht0
    simp only [Dat.cnt, Dat.cnts] at hcg hct
    obtain ⟨b, bp, b1, bq, vp, v1, vq, ha, hbs, hvp, hod, hm, hvl, hlc, _⟩ := ownD_at ho (get_app hl' hd)
    rw [(take_app hl').1, (take_app hl').2] at hm
    have hv0 := hm.len
    have hbs0 := hbs
    rw [Int.toNat_natCast, ← hvp]
    simp (disch := omega) only [w64]
    have hbs : bs = b :: (bp ++ (([] ++ b1) ++ bq)) := hbs
    have me : ME w4 b 5 l' (l.drop (k + 1)) bp bq vp vq [] _ [] b1 [] v1 := ⟨hm, by unfold OwnF; exact ⟨rfl, rfl⟩, ownD_st hod, by rw [← hbs]; exact hn⟩
    refine ⟨by omega, by omega, _, ha, ?_⟩
    refine me.sc (d' := .int .i64 (kx)) sc_int (fun w => own_int (wf_i64 (by omega) (by omega))) rfl (fun w5 cr5 o5 me => ?_)
    have o4 := Only.trans o4 (o5.mono (fun c _ hc => by subst hc; rw [hbs]; simp))
    refine ⟨by omega, by omega, _, ha, ?_⟩
    refine me.sc (d' := .int .i64 (kx + 1)) sc_int (fun w => own_int (wf_i64 (by omega) (by omega))) rfl (fun w6 cr6 o6 me => ?_)
    have o4 := Only.trans o4 (o6.mono (fun c _ hc => by subst hc; rw [hbs]; simp))
    refine ⟨by omega, by omega, _, ha, ?_⟩
    refine me.sc (d' := .int .i64 (kx + 1 + 1)) sc_int (fun w => own_int (wf_i64 (by omega) (by omega))) rfl (fun w7 cr7 o7 me => ?_)
    have o4 := Only.trans o4 (o7.mono (fun c _ hc => by subst hc; rw [hbs]; simp))
    refine ⟨by omega, by omega, _, ha, ?_⟩
    refine me.sc (d' := .int .i64 (kx + 1 + 1 + 1)) sc_int (fun w => own_int (wf_i64 (by omega) (by omega))) rfl (fun w8 cr8 o8 me => ?_)
    have o4 := Only.trans o4 (o8.mono (fun c _ hc => by subst hc; rw [hbs]; simp))
    refine ⟨by omega, by omega, _, ha, ?_⟩
    refine me.sc (d' := .int .i64 (kx + 1 + 1 + 1 + 1)) sc_int (fun w => own_int (wf_i64 (by omega) (by omega))) rfl (fun w9 cr9 o9 me => ?_)
    have o4 := Only.trans o4 (o9.mono (fun c _ hc => by subst hc; rw [hbs]; simp))
    obtain ⟨hm2, hod2, hbr⟩ := me.fin
    subst hbr
    have hrow := row_close (bs := bs) (a0 := a0) hm2 hod2 hvp hl' (by omega) ha (by rw [hlen]) (by rw [hbs, List.append_nil]) (by have : (l' ++ l.drop k).length = l.length := (by simp; omega); omega) hmax hv0 hvl
    have hmkd : Marked TXT (.st [.int .i64 (kx), .int .i64 (kx + 1), .int .i64 (kx + 1 + 1), .int .i64 (kx + 1 + 1 + 1), .int .i64 (kx + 1 + 1 + 1 + 1)]) kx := marked_st (markedF_cons (k := kx) (k' := kx + 1) (marked_int (by rw [w64 (by omega) (by omega)])) (markedF_cons (k := kx + 1) (k' := kx + 1 + 1) (marked_int (by rw [w64 (by omega) (by omega)])) (markedF_cons (k := kx + 1 + 1) (k' := kx + 1 + 1 + 1) (marked_int (by rw [w64 (by omega) (by omega)])) (markedF_cons (k := kx + 1 + 1 + 1) (k' := kx + 1 + 1 + 1 + 1) (marked_int (by rw [w64 (by omega) (by omega)])) (markedF_cons (k := kx + 1 + 1 + 1 + 1) (k' := kx + 1 + 1 + 1 + 1 + 1) (marked_int (by rw [w64 (by omega) (by omega)])) (markedF_nil (k := kx + 1 + 1 + 1 + 1 + 1)) (by simp only [Dat.cnt]; omega)) (by simp only [Dat.cnt]; omega)) (by simp only [Dat.cnt]; omega)) (by simp only [Dat.cnt]; omega)) (by simp only [Dat.cnt]; omega))
    have hhas : Has TyCap (.st [.int .i64 (kx), .int .i64 (kx + 1), .int .i64 (kx + 1 + 1), .int .i64 (kx + 1 + 1 + 1), .int .i64 (kx + 1 + 1 + 1 + 1)]) := mk_st (mkF_cons mk_int (mkF_cons mk_int (mkF_cons mk_int (mkF_cons mk_int (mkF_cons mk_int (mkF_nil))))))
    refine hJ _ _ _ ⟨k + 1, l' ++ [_], by omega, by omega, by simp; omega, ?_, ?_, has_snoc hty hhas, markedF_snoc hmk hmkd hx, hrow, o4⟩ (by omega)
    · rw [cnts_snoc]; simp only [Dat.cnt, Dat.cnts]; omega
    · rw [cnts_snoc, hct]; simp only [Dat.cnt, Dat.cnts]; omega
  · have hkl2 : k = l.length := by omega
    subst hkl2
    rw [List.take_length] at hcn
    rw [List.drop_length, List.append_nil, hlen] at ho
    exact ⟨by rw [hx, hcn], l', hl', hcn, hty, hmk, ho, o4⟩

/- markByteS -/
theorem c68 {l : List Dat} {a0 : Sl} {bs : List Nat} {k0 : Int} {w : World} (ht : ∀ e, e ∈ l → Has (.int .u8) e) (h : OwnD w (.sl 1 l) bs [.slice a0.a a0.len a0.cap]) (hn : bs.Nodup) (h0 : 1 ≤ k0) (hk : k0 + Dat.cnts l ≤ 1099511627776) : CallW Try.prog 68 #[.slice a0.a a0.len a0.cap, .int .i64 k0] w (fun v w' => v = .int .i64 (k0 + Dat.cnts l) ∧ ∃ l', l'.length = l.length ∧ Dat.cnts l' = Dat.cnts l ∧ (∀ e, e ∈ l' → Has (.int .u8) e) ∧ MarkedF TXT l' k0 ∧ OwnD w' (.sl 1 l') bs [.slice a0.a a0.len a0.cap] ∧ Only (fun k => k ∈ bs) w w') := by
  refine go68 ?_
  unfold W68
  obtain ⟨hlen, hmax⟩ := ownD_len h
  have hmx : maxLen = 9223372036854775807 := rfl
  rw [hlen]
  refine LoopW.m2 (fun (x i : Int) w' => ∃ (k : Nat) (l' : List Dat), i = k ∧ k ≤ l.length ∧ l'.length = k ∧ x = k0 + Dat.cnts l' ∧ Dat.cnts l' = Dat.cnts (l.take k) ∧ (∀ e, e ∈ l' → Has (.int .u8) e) ∧ MarkedF TXT l' k0 ∧ OwnD w' (.sl 1 (l' ++ l.drop k)) bs [.slice a0.a a0.len a0.cap] ∧ Only (fun k => k ∈ bs) w w') (fun _ (i : Int) _ => (l.length - i).toNat) ⟨0, [], rfl, by omega, rfl, by simp [Dat.cnts], by simp [Dat.cnts], fun e he => (by cases he), markedF_nil, by simpa using h, Only.refl _ _⟩ ?_
  rintro (kx : Int) (i : Int) w4 ⟨k, l', rfl, hkl, hl', hx, hcn, hty, hmk, ho, o4⟩ J hJ
  refine BIf.dec (fun hlt => ?_) (fun hge => ?_)
  · obtain ⟨d, hd⟩ : ∃ d, l[k]? = some d := ⟨_, List.getElem?_eq_getElem (by omega)⟩
    have hcg := cnts_get hd
    have hct := cnts_take hd
    have ht0 := ht d (mem_get hd)
    obtain ⟨x, rfl⟩ := has_int ht0
    simp only [Dat.cnt, Dat.cnts] at hcg hct
    obtain ⟨b, bp, b1, bq, vp, v1, vq, ha, hbs, hvp, hod, hm, hvl, hlc, _⟩ := ownD_at ho (get_app hl' hd)
    rw [(take_app hl').1, (take_app hl').2] at hm
    have hv0 := hm.len
    have hbs0 := hbs
    rw [Int.toNat_natCast, ← hvp]
    simp (disch := omega) only [w64]
    refine ⟨by omega, by omega, _, ha, ?_⟩
    obtain ⟨hmay, hm2, o5⟩ := hm.set (fun c hc he => by rw [hbs] at hn; simp only [List.nodup_cons, List.mem_append, not_or] at hn; subst he; rcases hc with hc | hc; exact hn.1.1 hc; exact hn.1.2.2 hc) (j := 0) (by omega) (.int .u8 (IntKind.wrap .u8 (kx)))
    refine ⟨hmay, LetW_iff.2 ?_⟩
    have o4 := Only.trans o4 (o5.mono (fun c _ hc => by subst hc; rw [hbs]; simp))
    have hrow := row_close (bs := bs) (a0 := a0) (d' := .int .u8 (IntKind.wrap .u8 (kx))) hm2 (bd := b1) (by obtain ⟨hb1, hc1⟩ := sc_int _ _ hod; subst hb1; obtain ⟨y, rfl⟩ : ∃ y, v1 = [y] := by { match v1, hc1 with | [y], _ => exact ⟨y, rfl⟩ }; exact own_int wf_u8w) hvp hl' (by omega) ha (by rw [hlen]) hbs (by have : (l' ++ l.drop k).length = l.length := (by simp; omega); omega) hmax hv0 hvl
    refine hJ _ _ _ ⟨k + 1, l' ++ [_], by omega, by omega, by simp; omega, ?_, ?_, has_snoc hty mk_int, markedF_snoc hmk (marked_int rfl) hx, hrow, o4⟩ (by omega)
    · rw [cnts_snoc]; simp only [Dat.cnt, Dat.cnts]; omega
    · rw [cnts_snoc, hct]; simp only [Dat.cnt, Dat.cnts]; omega
  · have hkl2 : k = l.length := by omega
    subst hkl2
    rw [List.take_length] at hcn
    rw [List.drop_length, List.append_nil, hlen] at ho
    exact ⟨by rw [hx, hcn], l', hl', hcn, hty, hmk, ho, o4⟩

/- markMsgS -/
theorem c94 {l : List Dat} {a0 : Sl} {bs : List Nat} {k0 : Int} {w : World} (ht : ∀ e, e ∈ l → Has TyMsg e) (h : OwnD w (.sl 3 l) bs [.slice a0.a a0.len a0.cap]) (hn : bs.Nodup) (h0 : 1 ≤ k0) (hk : k0 + Dat.cnts l ≤ 1099511627776) : CallW Try.prog 94 #[.slice a0.a a0.len a0.cap, .int .i64 k0] w (fun v w' => v = .int .i64 (k0 + Dat.cnts l) ∧ ∃ l', l'.length = l.length ∧ Dat.cnts l' = Dat.cnts l ∧ (∀ e, e ∈ l' → Has TyMsg e) ∧ MarkedF TXT l' k0 ∧ OwnD w' (.sl 3 l') bs [.slice a0.a a0.len a0.cap] ∧ Only (fun k => k ∈ bs) w w') := by
  refine go94 ?_
  unfold W94
  obtain ⟨hlen, hmax⟩ := ownD_len h
  have hmx : maxLen = 9223372036854775807 := rfl
  rw [hlen]
  refine LoopW.m2 (fun (x i : Int) w' => ∃ (k : Nat) (l' : List Dat), i = k ∧ k ≤ l.length ∧ l'.length = k ∧ x = k0 + Dat.cnts l' ∧ Dat.cnts l' = Dat.cnts (l.take k) ∧ (∀ e, e ∈ l' → Has TyMsg e) ∧ MarkedF TXT l' k0 ∧ OwnD w' (.sl 3 (l' ++ l.drop k)) bs [.slice a0.a a0.len a0.cap] ∧ Only (fun k => k ∈ bs) w w') (fun _ (i : Int) _ => (l.length - i).toNat) ⟨0, [], rfl, by omega, rfl, by simp [Dat.cnts], by simp [Dat.cnts], fun e he => (by cases he), markedF_nil, by simpa using h, Only.refl _ _⟩ ?_
  rintro (kx : Int) (i : Int) w4 ⟨k, l', rfl, hkl, hl', hx, hcn, hty, hmk, ho, o4⟩ J hJ
  refine BIf.dec (fun hlt => ?_) (fun hge => ?_)
  · obtain ⟨d, hd⟩ : ∃ d, l[k]? = some d := ⟨_, List.getElem?_eq_getElem (by omega)⟩
    have hcg := cnts_get hd
    have hct := cnts_take hd
    have ht0 := ht d (mem_get hd)
    obtain ⟨x_0, l_1, x_2, rfl, t_1⟩ := has_Msg ht0
    simp only [Dat.cnt, Dat.cnts] at hcg hct
    obtain ⟨b, bp, b1, bq, vp, v1, vq, ha, hbs, hvp, hod, hm, hvl, hlc, _⟩ := ownD_at ho (get_app hl' hd)
    rw [(take_app hl').1, (take_app hl').2] at hm
    have hv0 := hm.len
    have hbs0 := hbs
    rw [Int.toNat_natCast, ← hvp]
    simp (disch := omega) only [w64]
    have hbs : bs = b :: (bp ++ (([] ++ b1) ++ bq)) := hbs
    have me : ME w4 b 3 l' (l.drop (k + 1)) bp bq vp vq [] _ [] b1 [] v1 := ⟨hm, by unfold OwnF; exact ⟨rfl, rfl⟩, ownD_st hod, by rw [← hbs]; exact hn⟩
    refine ⟨by omega, by omega, _, ha, ?_⟩
    refine me.sc (d' := .int .i64 (kx)) sc_int (fun w => own_int (wf_i64 (by omega) (by omega))) rfl (fun w5 cr5 o5 me => ?_)
    have o4 := Only.trans o4 (o5.mono (fun c _ hc => by subst hc; rw [hbs]; simp))
    obtain ⟨b6, c6, hod6, hn6, hc6, hcl6⟩ := me.open
    obtain ⟨s6, rfl⟩ := ownD_sl_s hod6
    refine ⟨by omega, by omega, _, ha, s6, hc6 0 _ rfl, (c68 t_1 hod6 hn6 (by omega) (by omega)).mono ?_⟩
    rintro _ w6 ⟨rfl, m_1, g1_1, g2_1, g3_1, g4_1, g5_1, o6⟩
    obtain ⟨br6, cr6, me, hbs2⟩ := hcl6 w6 _ o6 g5_1
    have hbs := hbs.trans hbs2
    have o4 := Only.trans o4 (o6.mono (fun c _ hc => by rw [hbs]; simp [hc]))
    refine ⟨_, rfl, ?_⟩
    try simp (disch := omega) only [w64]
    refine ⟨by omega, by omega, _, ha, ?_⟩
    refine me.sc (d' := .int .i64 (kx + 1 + (Dat.cnts l_1 : Int))) sc_int (fun w => own_int (wf_i64 (by omega) (by omega))) rfl (fun w7 cr7 o7 me => ?_)
    have o4 := Only.trans o4 (o7.mono (fun c _ hc => by subst hc; rw [hbs]; simp))
    obtain ⟨hm2, hod2, hbr⟩ := me.fin
    subst hbr
    have hrow := row_close (bs := bs) (a0 := a0) hm2 hod2 hvp hl' (by omega) ha (by rw [hlen]) (by rw [hbs, List.append_nil]) (by have : (l' ++ l.drop k).length = l.length := (by simp; omega); omega) hmax hv0 hvl
    have hmkd : Marked TXT (.st [.int .i64 (kx), .sl 1 m_1, .int .i64 (kx + 1 + (Dat.cnts l_1 : Int))]) kx := marked_st (markedF_cons (k := kx) (k' := kx + 1) (marked_int (by rw [w64 (by omega) (by omega)])) (markedF_cons (k := kx + 1) (k' := kx + 1 + (Dat.cnts l_1 : Int)) (marked_sl g4_1) (markedF_cons (k := kx + 1 + (Dat.cnts l_1 : Int)) (k' := kx + 1 + (Dat.cnts l_1 : Int) + 1) (marked_int (by rw [w64 (by omega) (by omega)])) (markedF_nil (k := kx + 1 + (Dat.cnts l_1 : Int) + 1)) (by simp only [Dat.cnt]; omega)) (by simp only [Dat.cnt]; omega)) (by simp only [Dat.cnt]; omega))
    have hhas : Has TyMsg (.st [.int .i64 (kx), .sl 1 m_1, .int .i64 (kx + 1 + (Dat.cnts l_1 : Int))]) := mk_st (mkF_cons mk_int (mkF_cons (mk_sl g3_1) (mkF_cons mk_int (mkF_nil))))
    refine hJ _ _ _ ⟨k + 1, l' ++ [_], by omega, by omega, by simp; omega, ?_, ?_, has_snoc hty hhas, markedF_snoc hmk hmkd hx, hrow, o4⟩ (by omega)
    · rw [cnts_snoc]; simp only [Dat.cnt, Dat.cnts]; omega
    · rw [cnts_snoc, hct]; simp only [Dat.cnt, Dat.cnts]; omega
  · have hkl2 : k = l.length := by omega
    subst hkl2
    rw [List.take_length] at hcn
    rw [List.drop_length, List.append_nil, hlen] at ho
    exact ⟨by rw [hx, hcn], l', hl', hcn, hty, hmk, ho, o4⟩

/- markPortS -/
theorem c63 {l : List Dat} {a0 : Sl} {bs : List Nat} {k0 : Int} {w : World} (ht : ∀ e, e ∈ l → Has TyPort e) (h : OwnD w (.sl 2 l) bs [.slice a0.a a0.len a0.cap]) (hn : bs.Nodup) (h0 : 1 ≤ k0) (hk : k0 + Dat.cnts l ≤ 1099511627776) : CallW Try.prog 63 #[.slice a0.a a0.len a0.cap, .int .i64 k0] w (fun v w' => v = .int .i64 (k0 + Dat.cnts l) ∧ ∃ l', l'.length = l.length ∧ Dat.cnts l' = Dat.cnts l ∧ (∀ e, e ∈ l' → Has TyPort e) ∧ MarkedF TXT l' k0 ∧ OwnD w' (.sl 2 l') bs [.slice a0.a a0.len a0.cap] ∧ Only (fun k => k ∈ bs) w w') := by
  refine go63 ?_
  unfold W63
  obtain ⟨hlen, hmax⟩ := ownD_len h
  have hmx : maxLen = 9223372036854775807 := rfl
  rw [hlen]
  refine LoopW.m2 (fun (x i : Int) w' => ∃ (k : Nat) (l' : List Dat), i = k ∧ k ≤ l.length ∧ l'.length = k ∧ x = k0 + Dat.cnts l' ∧ Dat.cnts l' = Dat.cnts (l.take k) ∧ (∀ e, e ∈ l' → Has TyPort e) ∧ MarkedF TXT l' k0 ∧ OwnD w' (.sl 2 (l' ++ l.drop k)) bs [.slice a0.a a0.len a0.cap] ∧ Only (fun k => k ∈ bs) w w') (fun _ (i : Int) _ => (l.length - i).toNat) ⟨0, [], rfl, by omega, rfl, by simp [Dat.cnts], by simp [Dat.cnts], fun e he => (by cases he), markedF_nil, by simpa using h, Only.refl _ _⟩ ?_
  rintro (kx : Int) (i : Int) w4 ⟨k, l', rfl, hkl, hl', hx, hcn, hty, hmk, ho, o4⟩ J hJ
  refine BIf.dec (fun hlt => ?_) (fun hge => ?_)
  · obtain ⟨d, hd⟩ : ∃ d, l[k]? = some d := ⟨_, List.getElem?_eq_getElem (by omega)⟩
    have hcg := cnts_get hd
    have hct := cnts_take hd
    have ht0 := ht d (mem_get hd)
    obtain ⟨x_0, l_1, rfl, t_1⟩ := has_Port ht0
    simp only [Dat.cnt, Dat.cnts] at hcg hct
    obtain ⟨b, bp, b1, bq, vp, v1, vq, ha, hbs, hvp, hod, hm, hvl, hlc, _⟩ := ownD_at ho (get_app hl' hd)
    rw [(take_app hl').1, (take_app hl').2] at hm
    have hv0 := hm.len
    have hbs0 := hbs
    rw [Int.toNat_natCast, ← hvp]
    simp (disch := omega) only [w64]
    have hbs : bs = b :: (bp ++ (([] ++ b1) ++ bq)) := hbs
    have me : ME w4 b 2 l' (l.drop (k + 1)) bp bq vp vq [] _ [] b1 [] v1 := ⟨hm, by unfold OwnF; exact ⟨rfl, rfl⟩, ownD_st hod, by rw [← hbs]; exact hn⟩
    refine ⟨by omega, by omega, _, ha, ?_⟩
    refine me.sc (d' := .int .i64 (kx)) sc_int (fun w => own_int (wf_i64 (by omega) (by omega))) rfl (fun w5 cr5 o5 me => ?_)
    have o4 := Only.trans o4 (o5.mono (fun c _ hc => by subst hc; rw [hbs]; simp))
    obtain ⟨b6, c6, hod6, hn6, hc6, hcl6⟩ := me.open
    obtain ⟨s6, rfl⟩ := ownD_sl_s hod6
    refine ⟨by omega, by omega, _, ha, s6, hc6 0 _ rfl, (c94 t_1 hod6 hn6 (by omega) (by omega)).mono ?_⟩
    rintro _ w6 ⟨rfl, m_1, g1_1, g2_1, g3_1, g4_1, g5_1, o6⟩
    obtain ⟨br6, cr6, me, hbs2⟩ := hcl6 w6 _ o6 g5_1
    have hbs := hbs.trans hbs2
    have o4 := Only.trans o4 (o6.mono (fun c _ hc => by rw [hbs]; simp [hc]))
    refine ⟨_, rfl, ?_⟩
    try simp (disch := omega) only [w64]
    obtain ⟨hm2, hod2, hbr⟩ := me.fin
    subst hbr
    have hrow := row_close (bs := bs) (a0 := a0) hm2 hod2 hvp hl' (by omega) ha (by rw [hlen]) (by rw [hbs, List.append_nil]) (by have : (l' ++ l.drop k).length = l.length := (by simp; omega); omega) hmax hv0 hvl
    have hmkd : Marked TXT (.st [.int .i64 (kx), .sl 3 m_1]) kx := marked_st (markedF_cons (k := kx) (k' := kx + 1) (marked_int (by rw [w64 (by omega) (by omega)])) (markedF_cons (k := kx + 1) (k' := kx + 1 + (Dat.cnts l_1 : Int)) (marked_sl g4_1) (markedF_nil (k := kx + 1 + (Dat.cnts l_1 : Int))) (by simp only [Dat.cnt]; omega)) (by simp only [Dat.cnt]; omega))
    have hhas : Has TyPort (.st [.int .i64 (kx), .sl 3 m_1]) := mk_st (mkF_cons mk_int (mkF_cons (mk_sl g3_1) (mkF_nil)))
    refine hJ _ _ _ ⟨k + 1, l' ++ [_], by omega, by omega, by simp; omega, ?_, ?_, has_snoc hty hhas, markedF_snoc hmk hmkd hx, hrow, o4⟩ (by omega)
    · rw [cnts_snoc]; simp only [Dat.cnt, Dat.cnts]; omega
    · rw [cnts_snoc, hct]; simp only [Dat.cnt, Dat.cnts]; omega
  · have hkl2 : k = l.length := by omega
    subst hkl2
    rw [List.take_length] at hcn
    rw [List.drop_length, List.append_nil, hlen] at ho
    exact ⟨by rw [hx, hcn], l', hl', hcn, hty, hmk, ho, o4⟩

/- markPipeS -/
theorem c64 {l : List Dat} {a0 : Sl} {bs : List Nat} {k0 : Int} {w : World} (ht : ∀ e, e ∈ l → Has TyPipe e) (h : OwnD w (.sl 4 l) bs [.slice a0.a a0.len a0.cap]) (hn : bs.Nodup) (h0 : 1 ≤ k0) (hk : k0 + Dat.cnts l ≤ 1099511627776) : CallW Try.prog 64 #[.slice a0.a a0.len a0.cap, .int .i64 k0] w (fun v w' => v = .int .i64 (k0 + Dat.cnts l) ∧ ∃ l', l'.length = l.length ∧ Dat.cnts l' = Dat.cnts l ∧ (∀ e, e ∈ l' → Has TyPipe e) ∧ MarkedF TXT l' k0 ∧ OwnD w' (.sl 4 l') bs [.slice a0.a a0.len a0.cap] ∧ Only (fun k => k ∈ bs) w w') := by
  refine go64 ?_
  unfold W64
  obtain ⟨hlen, hmax⟩ := ownD_len h
  have hmx : maxLen = 9223372036854775807 := rfl
  rw [hlen]
  refine LoopW.m2 (fun (x i : Int) w' => ∃ (k : Nat) (l' : List Dat), i = k ∧ k ≤ l.length ∧ l'.length = k ∧ x = k0 + Dat.cnts l' ∧ Dat.cnts l' = Dat.cnts (l.take k) ∧ (∀ e, e ∈ l' → Has TyPipe e) ∧ MarkedF TXT l' k0 ∧ OwnD w' (.sl 4 (l' ++ l.drop k)) bs [.slice a0.a a0.len a0.cap] ∧ Only (fun k => k ∈ bs) w w') (fun _ (i : Int) _ => (l.length - i).toNat) ⟨0, [], rfl, by omega, rfl, by simp [Dat.cnts], by simp [Dat.cnts], fun e he => (by cases he), markedF_nil, by simpa using h, Only.refl _ _⟩ ?_
  rintro (kx : Int) (i : Int) w4 ⟨k, l', rfl, hkl, hl', hx, hcn, hty, hmk, ho, o4⟩ J hJ
  refine BIf.dec (fun hlt => ?_) (fun hge => ?_)
  · obtain ⟨d, hd⟩ : ∃ d, l[k]? = some d := ⟨_, List.getElem?_eq_getElem (by omega)⟩
    have hcg := cnts_get hd
    have hct := cnts_take hd
    have ht0 := ht d (mem_get hd)
    obtain ⟨x_0, x_1, x_2, l_3, rfl, t_3⟩ := has_Pipe ht0
    simp only [Dat.cnt, Dat.cnts] at hcg hct
    obtain ⟨b, bp, b1, bq, vp, v1, vq, ha, hbs, hvp, hod, hm, hvl, hlc, _⟩ := ownD_at ho (get_app hl' hd)
    rw [(take_app hl').1, (take_app hl').2] at hm
    have hv0 := hm.len
    have hbs0 := hbs
    rw [Int.toNat_natCast, ← hvp]
    simp (disch := omega) only [w64]
    have hbs : bs = b :: (bp ++ (([] ++ b1) ++ bq)) := hbs
    have me : ME w4 b 4 l' (l.drop (k + 1)) bp bq vp vq [] _ [] b1 [] v1 := ⟨hm, by unfold OwnF; exact ⟨rfl, rfl⟩, ownD_st hod, by rw [← hbs]; exact hn⟩
    refine ⟨by omega, by omega, _, ha, ?_⟩
    refine me.sc (d' := .int .i64 (kx)) sc_int (fun w => own_int (wf_i64 (by omega) (by omega))) rfl (fun w5 cr5 o5 me => ?_)
    have o4 := Only.trans o4 (o5.mono (fun c _ hc => by subst hc; rw [hbs]; simp))
    refine ⟨by omega, by omega, _, ha, ?_⟩
    refine me.sc (d' := .int .i64 (kx + 1)) sc_int (fun w => own_int (wf_i64 (by omega) (by omega))) rfl (fun w6 cr6 o6 me => ?_)
    have o4 := Only.trans o4 (o6.mono (fun c _ hc => by subst hc; rw [hbs]; simp))
    refine ⟨by omega, by omega, _, ha, ?_⟩
    refine me.sc (d' := .int .i64 (kx + 1 + 1)) sc_int (fun w => own_int (wf_i64 (by omega) (by omega))) rfl (fun w7 cr7 o7 me => ?_)
    have o4 := Only.trans o4 (o7.mono (fun c _ hc => by subst hc; rw [hbs]; simp))
    obtain ⟨b8, c8, hod8, hn8, hc8, hcl8⟩ := me.open
    obtain ⟨s8, rfl⟩ := ownD_sl_s hod8
    refine ⟨by omega, by omega, _, ha, s8, hc8 0 _ rfl, (c68 t_3 hod8 hn8 (by omega) (by omega)).mono ?_⟩
    rintro _ w8 ⟨rfl, m_3, g1_3, g2_3, g3_3, g4_3, g5_3, o8⟩
    obtain ⟨br8, cr8, me, hbs2⟩ := hcl8 w8 _ o8 g5_3
    have hbs := hbs.trans hbs2
    have o4 := Only.trans o4 (o8.mono (fun c _ hc => by rw [hbs]; simp [hc]))
    refine ⟨_, rfl, ?_⟩
    try simp (disch := omega) only [w64]
    obtain ⟨hm2, hod2, hbr⟩ := me.fin
    subst hbr
    have hrow := row_close (bs := bs) (a0 := a0) hm2 hod2 hvp hl' (by omega) ha (by rw [hlen]) (by rw [hbs, List.append_nil]) (by have : (l' ++ l.drop k).length = l.length := (by simp; omega); omega) hmax hv0 hvl
    have hmkd : Marked TXT (.st [.int .i64 (kx), .int .i64 (kx + 1), .int .i64 (kx + 1 + 1), .sl 1 m_3]) kx := marked_st (markedF_cons (k := kx) (k' := kx + 1) (marked_int (by rw [w64 (by omega) (by omega)])) (markedF_cons (k := kx + 1) (k' := kx + 1 + 1) (marked_int (by rw [w64 (by omega) (by omega)])) (markedF_cons (k := kx + 1 + 1) (k' := kx + 1 + 1 + 1) (marked_int (by rw [w64 (by omega) (by omega)])) (markedF_cons (k := kx + 1 + 1 + 1) (k' := kx + 1 + 1 + 1 + (Dat.cnts l_3 : Int)) (marked_sl g4_3) (markedF_nil (k := kx + 1 + 1 + 1 + (Dat.cnts l_3 : Int))) (by simp only [Dat.cnt]; omega)) (by simp only [Dat.cnt]; omega)) (by simp only [Dat.cnt]; omega)) (by simp only [Dat.cnt]; omega))
    have hhas : Has TyPipe (.st [.int .i64 (kx), .int .i64 (kx + 1), .int .i64 (kx + 1 + 1), .sl 1 m_3]) := mk_st (mkF_cons mk_int (mkF_cons mk_int (mkF_cons mk_int (mkF_cons (mk_sl g3_3) (mkF_nil)))))
    refine hJ _ _ _ ⟨k + 1, l' ++ [_], by omega, by omega, by simp; omega, ?_, ?_, has_snoc hty hhas, markedF_snoc hmk hmkd hx, hrow, o4⟩ (by omega)
    · rw [cnts_snoc]; simp only [Dat.cnt, Dat.cnts]; omega
    · rw [cnts_snoc, hct]; simp only [Dat.cnt, Dat.cnts]; omega
  · have hkl2 : k = l.length := by omega
    subst hkl2
    rw [List.take_length] at hcn
    rw [List.drop_length, List.append_nil, hlen] at ho
    exact ⟨by rw [hx, hcn], l', hl', hcn, hty, hmk, ho, o4⟩

/- markIpc -/
theorem c17 {d : Dat} {cs : List Value} {bs : List Nat} {k0 : Int} {w : World} (ht : Has TyIpc d) (h : OwnD w d bs cs) (hn : bs.Nodup) (h0 : 1 ≤ k0) (hk : k0 + d.cntT ≤ 1099511627776) : CallW Try.prog 17 #[.agg ⟨cs⟩, .int .i64 k0] w (fun v w' => v = .int .i64 (k0 + d.cntT) ∧ ∃ d', d'.cntT = d.cntT ∧ Has TyIpc d' ∧ MarkedT TXT d' k0 ∧ OwnD w' d' bs cs ∧ Only (fun k => k ∈ bs) w w') := by
 obtain ⟨x_0, l_1, l_2, l_3, rfl, t_1, t_2, t_3⟩ := has_Ipc ht
 simp only [Dat.cntT, Dat.cntTs] at hk
 have f_ := ownD_st h
 obtain ⟨b_0, r_0, c_0, u_0, rfl, rfl, h_0, f_0⟩ := ownF_cons f_
 obtain ⟨b_1, r_1, c_1, u_1, rfl, rfl, h_1, f_1⟩ := ownF_cons f_0
 obtain ⟨b_2, r_2, c_2, u_2, rfl, rfl, h_2, f_2⟩ := ownF_cons f_1
 obtain ⟨b_3, r_3, c_3, u_3, rfl, rfl, h_3, f_3⟩ := ownF_cons f_2
 obtain ⟨rfl, rfl⟩ := ownF_nil f_3
 obtain ⟨rfl, rfl, wo_0⟩ := ownD_i h_0
 obtain ⟨s_1, rfl⟩ := ownD_sl_s h_1
 obtain ⟨s_2, rfl⟩ := ownD_sl_s h_2
 obtain ⟨s_3, rfl⟩ := ownD_sl_s h_3
 have nd0 := (List.nodup_append.1 hn).1
 have dj0 := (List.nodup_append.1 hn).2.2
 have hn0 := (List.nodup_append.1 hn).2.1
 have nd1 := (List.nodup_append.1 hn0).1
 have dj1 := (List.nodup_append.1 hn0).2.2
 have hn1 := (List.nodup_append.1 hn0).2.1
 have nd2 := (List.nodup_append.1 hn1).1
 have dj2 := (List.nodup_append.1 hn1).2.2
 have hn2 := (List.nodup_append.1 hn1).2.1
 have nd3 := (List.nodup_append.1 hn2).1
 have dj3 := (List.nodup_append.1 hn2).2.2
 have hn3 := (List.nodup_append.1 hn2).2.1
 have lt1 := OwnD.lt _ _ _ h_1
 have lt2 := OwnD.lt _ _ _ h_2
 have lt3 := OwnD.lt _ _ _ h_3
 show CallW Try.prog 17 #[.agg #[.int .i64 x_0, .slice s_1.a s_1.len s_1.cap, .slice s_2.a s_2.len s_2.cap, .slice s_3.a s_3.len s_3.cap], .int .i64 k0] w _
 refine go17 ?_
 unfold W17
 refine alloc_step (fun w1 e1 hb n1 => ?_)
 have o_1 := OwnD.only e1 _ _ _ (fun _ _ x => x) h_1
 have o_2 := OwnD.only e1 _ _ _ (fun _ _ x => x) h_2
 have o_3 := OwnD.only e1 _ _ _ (fun _ _ x => x) h_3
 have ot : Only (fun k => k ∈ b_1 ∨ k ∈ b_2 ∨ k ∈ b_3) w w1 := Ext.any e1
 refine ⟨s_1, hb.cell 1, (c63 t_1 o_1 nd1 (by omega) (by omega)).mono ?_⟩
 rintro _ w3 ⟨rfl, m_1, _, cn_1, hs_1, mk_1, ow_1, oo⟩
 refine ⟨_, rfl, ?_⟩
 have hb := hb.only oo (fun hk => by have := lt1 _ hk; omega)
 have ot := Only.trans ot (oo.mono (fun c _ hc => by (try simp only [List.mem_append, List.not_mem_nil, or_false, false_or] at hc); (try simp only [List.mem_append, List.not_mem_nil, or_false, false_or]); first | (simp [hc]; done) | (rcases hc with hc | hc <;> simp [hc]; done) | (rcases hc with hc | hc | hc <;> simp [hc])))
 have o_2 := OwnD.only oo _ _ _ (fun c hc hd => dj1 c hd c (by (try simp only [List.mem_append, List.not_mem_nil, or_false, false_or] at hc); (try simp only [List.mem_append, List.not_mem_nil, or_false, false_or]); first | (simp [hc]; done) | (rcases hc with hc | hc <;> simp [hc]; done) | (rcases hc with hc | hc | hc <;> simp [hc])) rfl) o_2
 have o_3 := OwnD.only oo _ _ _ (fun c hc hd => dj1 c hd c (by (try simp only [List.mem_append, List.not_mem_nil, or_false, false_or] at hc); (try simp only [List.mem_append, List.not_mem_nil, or_false, false_or]); first | (simp [hc]; done) | (rcases hc with hc | hc <;> simp [hc]; done) | (rcases hc with hc | hc | hc <;> simp [hc])) rfl) o_3
 refine ⟨s_2, hb.cell 2, (c18 t_2 o_2 nd2 (by omega) (by omega)).mono ?_⟩
 rintro _ w4 ⟨rfl, m_2, _, cn_2, hs_2, mk_2, ow_2, oo⟩
 refine ⟨_, rfl, ?_⟩
 have hb := hb.only oo (fun hk => by have := lt2 _ hk; omega)
 have ot := Only.trans ot (oo.mono (fun c _ hc => by (try simp only [List.mem_append, List.not_mem_nil, or_false, false_or] at hc); (try simp only [List.mem_append, List.not_mem_nil, or_false, false_or]); first | (simp [hc]; done) | (rcases hc with hc | hc <;> simp [hc]; done) | (rcases hc with hc | hc | hc <;> simp [hc])))
 have ow_1 := OwnD.only oo _ _ _ (fun c hc hd => dj1 c hc c (by (try simp only [List.mem_append, List.not_mem_nil, or_false, false_or] at hd); (try simp only [List.mem_append, List.not_mem_nil, or_false, false_or]); first | (simp [hd]; done) | (rcases hd with hd | hd <;> simp [hd]; done) | (rcases hd with hd | hd | hd <;> simp [hd])) rfl) ow_1
 have o_3 := OwnD.only oo _ _ _ (fun c hc hd => dj2 c hd c (by (try simp only [List.mem_append, List.not_mem_nil, or_false, false_or] at hc); (try simp only [List.mem_append, List.not_mem_nil, or_false, false_or]); first | (simp [hc]; done) | (rcases hc with hc | hc <;> simp [hc]; done) | (rcases hc with hc | hc | hc <;> simp [hc])) rfl) o_3
 refine ⟨s_3, hb.cell 3, (c64 t_3 o_3 nd3 (by omega) (by omega)).mono ?_⟩
 rintro _ w5 ⟨rfl, m_3, _, cn_3, hs_3, mk_3, ow_3, oo⟩
 refine ⟨_, rfl, ?_⟩
 have hb := hb.only oo (fun hk => by have := lt3 _ hk; omega)
 have ot := Only.trans ot (oo.mono (fun c _ hc => by (try simp only [List.mem_append, List.not_mem_nil, or_false, false_or] at hc); (try simp only [List.mem_append, List.not_mem_nil, or_false, false_or]); first | (simp [hc]; done) | (rcases hc with hc | hc <;> simp [hc]; done) | (rcases hc with hc | hc | hc <;> simp [hc])))
 have ow_1 := OwnD.only oo _ _ _ (fun c hc hd => dj1 c hc c (by (try simp only [List.mem_append, List.not_mem_nil, or_false, false_or] at hd); (try simp only [List.mem_append, List.not_mem_nil, or_false, false_or]); first | (simp [hd]; done) | (rcases hd with hd | hd <;> simp [hd]; done) | (rcases hd with hd | hd | hd <;> simp [hd])) rfl) ow_1
 have ow_2 := OwnD.only oo _ _ _ (fun c hc hd => dj2 c hc c (by (try simp only [List.mem_append, List.not_mem_nil, or_false, false_or] at hd); (try simp only [List.mem_append, List.not_mem_nil, or_false, false_or]); first | (simp [hd]; done) | (rcases hd with hd | hd <;> simp [hd]; done) | (rcases hd with hd | hd | hd <;> simp [hd])) rfl) ow_2
 refine ⟨by congr 1; simp only [Dat.cntT, Dat.cntTs]; omega, .st [.int .i64 x_0, .sl 2 m_1, .sl 5 m_2, .sl 4 m_3], by simp only [Dat.cntT, Dat.cntTs]; omega, mk_st (mkF_cons mk_int (mkF_cons (mk_sl hs_1) (mkF_cons (mk_sl hs_2) (mkF_cons (mk_sl hs_3) (mkF_nil))))), markedT_st (markedTF_cons (k' := k0) markedT_int (markedTF_cons (k' := k0 + (Dat.cnts l_1 : Nat)) (marked_slT mk_1) (markedTF_cons (k' := k0 + (Dat.cnts l_1 : Nat) + (Dat.cnts l_2 : Nat)) (marked_slT mk_2) (markedTF_cons (k' := k0 + (Dat.cnts l_1 : Nat) + (Dat.cnts l_2 : Nat) + (Dat.cnts l_3 : Nat)) (marked_slT mk_3) (markedTF_nil) (by simp only [Dat.cntT, Dat.cntTs] at *; omega)) (by simp only [Dat.cntT, Dat.cntTs] at *; omega)) (by simp only [Dat.cntT, Dat.cntTs] at *; omega)) (by simp only [Dat.cntT]; omega)), ownD_mkSt (ownF_mk (own_int wo_0) (ownF_mk ow_1 (ownF_mk ow_2 (ownF_mk ow_3 (ownF_mk0))))), ot.mono (fun c _ hc => by (try simp only [List.mem_append, List.not_mem_nil, or_false, false_or] at hc); (try simp only [List.mem_append, List.not_mem_nil, or_false, false_or]); first | (simp [hc]; done) | (rcases hc with hc | hc <;> simp [hc]; done) | (rcases hc with hc | hc | hc <;> simp [hc]))⟩

/- heldCapS -/
theorem c19 {l : List Dat} {a0 : Sl} {k0 : Int} {w : World} (ht : ∀ e, e ∈ l → Has TyCap e) (h : IsD w (.sl 5 l) [.slice a0.a a0.len a0.cap]) (hm : MarkedF TXT l k0) (h0 : 1 ≤ k0) (hk : k0 + Dat.cnts l ≤ 1099511627776) : CallW Try.prog 19 #[.slice a0.a a0.len a0.cap, .int .i64 k0] w (fun v w' => v = .int .i64 (k0 + Dat.cnts l) ∧ Ext w w') := by
  refine go19 ?_
  unfold W19
  obtain ⟨hlen, hmax, _⟩ := isD_sl h
  have hmx : maxLen = 9223372036854775807 := rfl
  rw [hlen]
  refine LoopW.m2 (fun (x i : Int) w' => ∃ k : Nat, i = k ∧ k ≤ l.length ∧ x = k0 + Dat.cnts (l.take k) ∧ Ext w w') (fun _ (i : Int) _ => (l.length - i).toNat) ⟨0, rfl, by omega, by simp [Dat.cnts], Only.refl _ _⟩ ?_
  rintro (kx : Int) (i : Int) w4 ⟨k, rfl, hkl, hx, e4⟩ J hJ
  refine BIf.dec (fun hlt => ?_) (fun hge => ?_)
  · obtain ⟨d, hd⟩ : ∃ d, l[k]? = some d := ⟨_, List.getElem?_eq_getElem (by omega)⟩
    have hcg := cnts_get hd
    have hct := cnts_take hd
    have hmd := markedF_get hm hd
    rw [← hx] at hmd
    have ht0 := ht d (mem_get hd)
    obtain ⟨p, es, hp, he, hc, his⟩ := isD_at (IsD.ext e4 _ _ h) hd
    obtain ⟨x_0, x_1, x_2, x_3, x_4, rfl⟩ := has_Cap ht0
    obtain ⟨rfl, ws_0, ws_1, ws_2, ws_3, ws_4⟩ := cells_Cap his
    simp only [Dat.cnt, Dat.cnts] at hcg hct
    simp only [Marked, MarkedF, Dat.cnt, Dat.cnts] at hmd
    obtain ⟨m_0, m_1, m_2, m_3, m_4, _⟩ := hmd
    try simp (disch := omega) only [w64]
    refine ⟨by omega, by omega, p, hp, _, hc 0 _ rfl, BIf.f (by rw [m_0, w64 (by omega) (by omega)]; first | (simp; done) | (simp; omega)) ?_⟩
    refine ⟨by omega, by omega, p, hp, _, hc 1 _ rfl, BIf.f (by rw [m_1, w64 (by omega) (by omega)]; first | (simp; done) | (simp; omega)) ?_⟩
    refine ⟨by omega, by omega, p, hp, _, hc 2 _ rfl, BIf.f (by rw [m_2, w64 (by omega) (by omega)]; first | (simp; done) | (simp; omega)) ?_⟩
    refine ⟨by omega, by omega, p, hp, _, hc 3 _ rfl, BIf.f (by rw [m_3, w64 (by omega) (by omega)]; first | (simp; done) | (simp; omega)) ?_⟩
    refine ⟨by omega, by omega, p, hp, _, hc 4 _ rfl, BIf.f (by rw [m_4, w64 (by omega) (by omega)]; first | (simp; done) | (simp; omega)) ?_⟩
    exact hJ _ _ _ ⟨k + 1, by omega, by omega, by rw [hct]; omega, e4⟩ (by omega)
  · rw [List.take_of_length_le (by omega)] at hx
    exact ⟨by rw [hx], e4⟩

/- eqInt64S -/
theorem c22 {l : List Dat} {a0 a1 : Sl} {w : World} (ht : ∀ e, e ∈ l → Has (.int .i64) e) (h : IsD w (.sl 1 l) [.slice a0.a a0.len a0.cap]) (h2 : IsD w (.sl 1 l) [.slice a1.a a1.len a1.cap]) : CallW Try.prog 22 #[.slice a0.a a0.len a0.cap, .slice a1.a a1.len a1.cap] w (fun v w' => v = .bool true ∧ Ext w w') := by
  refine go22 ?_
  unfold W22
  obtain ⟨hlen, hmax, hel⟩ := isD_sl h
  obtain ⟨hlen2, _, hel2⟩ := isD_sl h2
  have hmx : maxLen = 9223372036854775807 := rfl
  rw [hlen, hlen2]
  refine BIf.f (by simp) ?_
  refine LoopW.m1 (fun (i : Int) w' => ∃ k : Nat, i = k ∧ k ≤ l.length ∧ Ext w w') (fun (i : Int) _ => (l.length - i).toNat) ⟨0, rfl, by omega, Only.refl _ _⟩ ?_
  rintro (i : Int) w4 ⟨k, rfl, hk, e4⟩ J hJ
  refine BIf.dec (fun hlt => ?_) (fun hge => ⟨rfl, e4⟩)
  obtain ⟨d, hd⟩ : ∃ d, l[k]? = some d := ⟨_, List.getElem?_eq_getElem (by omega)⟩
  have e4 := Only.trans e4 (ext_drew w4)
  obtain ⟨p, es, hp, he, hc, his⟩ := isD_at (IsD.ext e4 _ _ h) hd
  obtain ⟨p2, es2, hp2, he2, hc2, his2⟩ := isD_at (IsD.ext e4 _ _ h2) hd
  have ht0 := ht d (mem_get hd)
  have ht1 := ht0
  obtain ⟨x, rfl⟩ := has_int ht1
  obtain ⟨rfl, ws⟩ := isD_int his
  obtain ⟨rfl, wu⟩ := isD_int his2
  refine ⟨by omega, by omega, p, hp, _, hc 0 _ rfl, by omega, by omega, p2, hp2, _, hc2 0 _ rfl, BIf.f (by simp) ?_⟩
  rw [w64 (by omega) (by omega)]
  exact hJ _ _ ⟨k + 1, by omega, by omega, e4⟩ (by omega)

/- markInt64S -/
theorem c23 {l : List Dat} {a0 : Sl} {bs : List Nat} {k0 : Int} {w : World} (ht : ∀ e, e ∈ l → Has (.int .i64) e) (h : OwnD w (.sl 1 l) bs [.slice a0.a a0.len a0.cap]) (hn : bs.Nodup) (h0 : 1 ≤ k0) (hk : k0 + Dat.cnts l ≤ 1099511627776) : CallW Try.prog 23 #[.slice a0.a a0.len a0.cap, .int .i64 k0] w (fun v w' => v = .int .i64 (k0 + Dat.cnts l) ∧ ∃ l', l'.length = l.length ∧ Dat.cnts l' = Dat.cnts l ∧ (∀ e, e ∈ l' → Has (.int .i64) e) ∧ MarkedF TXT l' k0 ∧ OwnD w' (.sl 1 l') bs [.slice a0.a a0.len a0.cap] ∧ Only (fun k => k ∈ bs) w w') := by
  refine go23 ?_
  unfold W23
  obtain ⟨hlen, hmax⟩ := ownD_len h
  have hmx : maxLen = 9223372036854775807 := rfl
  rw [hlen]
  refine LoopW.m2 (fun (x i : Int) w' => ∃ (k : Nat) (l' : List Dat), i = k ∧ k ≤ l.length ∧ l'.length = k ∧ x = k0 + Dat.cnts l' ∧ Dat.cnts l' = Dat.cnts (l.take k) ∧ (∀ e, e ∈ l' → Has (.int .i64) e) ∧ MarkedF TXT l' k0 ∧ OwnD w' (.sl 1 (l' ++ l.drop k)) bs [.slice a0.a a0.len a0.cap] ∧ Only (fun k => k ∈ bs) w w') (fun _ (i : Int) _ => (l.length - i).toNat) ⟨0, [], rfl, by omega, rfl, by simp [Dat.cnts], by simp [Dat.cnts], fun e he => (by cases he), markedF_nil, by simpa using h, Only.refl _ _⟩ ?_
  rintro (kx : Int) (i : Int) w4 ⟨k, l', rfl, hkl, hl', hx, hcn, hty, hmk, ho, o4⟩ J hJ
  refine BIf.dec (fun hlt => ?_) (fun hge => ?_)
  · obtain ⟨d, hd⟩ : ∃ d, l[k]? = some d := ⟨_, List.getElem?_eq_getElem (by omega)⟩
    have hcg := cnts_get hd
    have hct := cnts_take hd
    have ht0 := ht d (mem_get hd)
    obtain ⟨x, rfl⟩ := has_int ht0
    simp only [Dat.cnt, Dat.cnts] at hcg hct
    obtain ⟨b, bp, b1, bq, vp, v1, vq, ha, hbs, hvp, hod, hm, hvl, hlc, _⟩ := ownD_at ho (get_app hl' hd)
    rw [(take_app hl').1, (take_app hl').2] at hm
    have hv0 := hm.len
    have hbs0 := hbs
    rw [Int.toNat_natCast, ← hvp]
    simp (disch := omega) only [w64]
    refine ⟨by omega, by omega, _, ha, ?_⟩
    obtain ⟨hmay, hm2, o5⟩ := hm.set (fun c hc he => by rw [hbs] at hn; simp only [List.nodup_cons, List.mem_append, not_or] at hn; subst he; rcases hc with hc | hc; exact hn.1.1 hc; exact hn.1.2.2 hc) (j := 0) (by omega) (.int .i64 (kx))
    refine ⟨hmay, LetW_iff.2 ?_⟩
    have o4 := Only.trans o4 (o5.mono (fun c _ hc => by subst hc; rw [hbs]; simp))
    have hrow := row_close (bs := bs) (a0 := a0) (d' := .int .i64 (kx)) hm2 (bd := b1) (by obtain ⟨hb1, hc1⟩ := sc_int _ _ hod; subst hb1; obtain ⟨y, rfl⟩ : ∃ y, v1 = [y] := by { match v1, hc1 with | [y], _ => exact ⟨y, rfl⟩ }; exact own_int (wf_i64 (by omega) (by omega))) hvp hl' (by omega) ha (by rw [hlen]) hbs (by have : (l' ++ l.drop k).length = l.length := (by simp; omega); omega) hmax hv0 hvl
    refine hJ _ _ _ ⟨k + 1, l' ++ [_], by omega, by omega, by simp; omega, ?_, ?_, has_snoc hty mk_int, markedF_snoc hmk (marked_int (by rw [w64 (by omega) (by omega)])) hx, hrow, o4⟩ (by omega)
    · rw [cnts_snoc]; simp only [Dat.cnt, Dat.cnts]; omega
    · rw [cnts_snoc, hct]; simp only [Dat.cnt, Dat.cnts]; omega
  · have hkl2 : k = l.length := by omega
    subst hkl2
    rw [List.take_length] at hcn
    rw [List.drop_length, List.append_nil, hlen] at ho
    exact ⟨by rw [hx, hcn], l', hl', hcn, hty, hmk, ho, o4⟩

/- heldInt64S -/
theorem c24 {l : List Dat} {a0 : Sl} {k0 : Int} {w : World} (ht : ∀ e, e ∈ l → Has (.int .i64) e) (h : IsD w (.sl 1 l) [.slice a0.a a0.len a0.cap]) (hm : MarkedF TXT l k0) (h0 : 1 ≤ k0) (hk : k0 + Dat.cnts l ≤ 1099511627776) : CallW Try.prog 24 #[.slice a0.a a0.len a0.cap, .int .i64 k0] w (fun v w' => v = .int .i64 (k0 + Dat.cnts l) ∧ Ext w w') := by
  refine go24 ?_
  unfold W24
  obtain ⟨hlen, hmax, _⟩ := isD_sl h
  have hmx : maxLen = 9223372036854775807 := rfl
  rw [hlen]
  refine LoopW.m2 (fun (x i : Int) w' => ∃ k : Nat, i = k ∧ k ≤ l.length ∧ x = k0 + Dat.cnts (l.take k) ∧ Ext w w') (fun _ (i : Int) _ => (l.length - i).toNat) ⟨0, rfl, by omega, by simp [Dat.cnts], Only.refl _ _⟩ ?_
  rintro (kx : Int) (i : Int) w4 ⟨k, rfl, hkl, hx, e4⟩ J hJ
  refine BIf.dec (fun hlt => ?_) (fun hge => ?_)
  · obtain ⟨d, hd⟩ : ∃ d, l[k]? = some d := ⟨_, List.getElem?_eq_getElem (by omega)⟩
    have hcg := cnts_get hd
    have hct := cnts_take hd
    have hmd := markedF_get hm hd
    rw [← hx] at hmd
    have ht0 := ht d (mem_get hd)
    obtain ⟨p, es, hp, he, hc, his⟩ := isD_at (IsD.ext e4 _ _ h) hd
    obtain ⟨x, rfl⟩ := has_int ht0
    obtain ⟨rfl, ws⟩ := isD_int his
    simp only [Dat.cnt, Dat.cnts] at hcg hct
    simp only [Marked, MarkedF, Dat.cnt, Dat.cnts] at hmd
    have m := hmd
    try simp (disch := omega) only [w64]
    refine ⟨by omega, by omega, p, hp, _, hc 0 _ rfl, BIf.f (by rw [m, w64 (by omega) (by omega)]; first | (simp; done) | (simp; omega)) ?_⟩
    exact hJ _ _ _ ⟨k + 1, by omega, by omega, by rw [hct]; omega, e4⟩ (by omega)
  · rw [List.take_of_length_le (by omega)] at hx
    exact ⟨by rw [hx], e4⟩

end Go.Proofs.Ytbimoajgofcmbaa

/- Ports and capabilities: the state in memory, look-ups, both sides. Conditions: none. -/
set_option linter.unusedVariables false
set_option linter.unusedSimpArgs false
namespace Go.Proofs.Ytbimoajgofcmbaa
open Go Go.Den
structure MsgsAt (w : World) (s : Sl) (ms : List DMsg) : Prop where
  len : s.len = ms.length
  get : ∀ i x, ms[i]? = some x → ∃ (q : Addr) (t : Sl), s.a = some q ∧ w.cell? ((q.add (i * 3)).add 0) = some (.int .i64 x.From) ∧ w.cell? ((q.add (i * 3)).add 1) = some (.slice t.a t.len t.cap) ∧ w.cell? ((q.add (i * 3)).add 2) = some (.int .i64 x.Cap) ∧ ByAt w t x.Data
theorem MsgsAt.ext {w w' : World} {s : Sl} {ms : List DMsg} (h : MsgsAt w s ms) (e : Ext w w') : MsgsAt w' s ms :=
  ⟨h.len, fun i x hx => by obtain ⟨q, t, h1, h2, h3, h4, h5⟩ := h.get i x hx; exact ⟨q, t, h1, e.cell h2, e.cell h3, e.cell h4, h5.ext e⟩⟩
structure PortsAt (w : World) (s : Sl) (ps : List DPort) : Prop where
  len : s.len = ps.length
  get : ∀ i x, ps[i]? = some x → ∃ (q : Addr) (t : Sl), s.a = some q ∧ w.cell? ((q.add (i * 2)).add 0) = some (.int .i64 x.Id) ∧ w.cell? ((q.add (i * 2)).add 1) = some (.slice t.a t.len t.cap) ∧ MsgsAt w t x.Queue
theorem PortsAt.ext {w w' : World} {s : Sl} {ms : List DPort} (h : PortsAt w s ms) (e : Ext w w') : PortsAt w' s ms :=
  ⟨h.len, fun i x hx => by obtain ⟨q, t, h1, h2, h3, h4⟩ := h.get i x hx; exact ⟨q, t, h1, e.cell h2, e.cell h3, h4.ext e⟩⟩
structure PipesAt (w : World) (s : Sl) (ps : List DPipe) : Prop where
  len : s.len = ps.length
  get : ∀ i x, ps[i]? = some x → ∃ (q : Addr) (t : Sl), s.a = some q ∧ w.cell? ((q.add (i * 4)).add 0) = some (.int .i64 x.Id) ∧ w.cell? ((q.add (i * 4)).add 1) = some (.int .i64 x.Readers) ∧ w.cell? ((q.add (i * 4)).add 2) = some (.int .i64 x.Writers) ∧ w.cell? ((q.add (i * 4)).add 3) = some (.slice t.a t.len t.cap) ∧ ByAt w t x.Data
theorem PipesAt.ext {w w' : World} {s : Sl} {ms : List DPipe} (h : PipesAt w s ms) (e : Ext w w') : PipesAt w' s ms :=
  ⟨h.len, fun i x hx => by obtain ⟨q, t, h1, h2, h3, h4, h5, h6⟩ := h.get i x hx; exact ⟨q, t, h1, e.cell h2, e.cell h3, e.cell h4, e.cell h5, h6.ext e⟩⟩
structure IpcAt (w : World) (sp sc sq : Sl) (d : DIpc) : Prop where
  caps : RecsAt w sc 5 DCap.cells d.Caps
  ports : PortsAt w sp d.Ports
  pipes : PipesAt w sq d.Pipes
  few : d.Ports.length ≤ 1099511627776 ∧ d.Pipes.length ≤ 1099511627776
theorem IpcAt.ext {w w' : World} {sp sc sq : Sl} {d : DIpc} (h : IpcAt w sp sc sq d) (e : Ext w w') : IpcAt w' sp sc sq d := ⟨h.caps.ext e, h.ports.ext e, h.pipes.ext e, h.few⟩
def ipcV (n : Int) (sp sc sq : Sl) : List Value := [.int .i64 n, .slice sp.a sp.len sp.cap, .slice sc.a sc.len sc.cap, .slice sq.a sq.len sq.cap]
def capIx (d : DIpc) (id : Int) : Int := idxFrom (fun c : DCap => c.Id == id) d.Caps 0
def portIx (d : DIpc) (id : Int) : Int := idxFrom (fun c : DPort => c.Id == id) d.Ports 0
def pipeIx (d : DIpc) (id : Int) : Int := idxFrom (fun c : DPipe => c.Id == id) d.Pipes 0
theorem c49 {n : Int} {w : World} : CallW Try.prog 49 #[.int .i64 n] w (fun v w' => v = .bool (decide (n ≥ 0) && decide (n ≤ 1099511627776)) ∧ w' = w) := by
  refine go49 ?_
  unfold W49
  simp only [join_and]
  exact ⟨by trivial, by trivial⟩
theorem c84 {n : Int} {w : World} : CallW Try.prog 84 #[.int .i64 n] w (fun v w' => v = .bool (decide (n ≥ 0) && decide (n < 64)) ∧ w' = w) := by
  refine go84 ?_
  unfold W84
  simp only [join_and]
  exact ⟨by trivial, by trivial⟩
theorem c57 {n : Int} {w : World} : CallW Try.prog 57 #[.int .i64 n] w (fun v w' => v = .bool (decide (n ≥ 0) && decide (n < 64)) ∧ w' = w) := by
  refine go57 ?_
  unfold W57
  simp only [join_and]
  exact ⟨by trivial, by trivial⟩
/-! ## The reference's look-ups -/
theorem c86 {n id : Int} {sp sc sq : Sl} {d : DIpc} {w : World} (hd : IpcAt w sp sc sq d) : CallW Try.prog 86 #[.agg #[.int .i64 n, .slice sp.a sp.len sp.cap, .slice sc.a sc.len sc.cap, .slice sq.a sq.len sq.cap], .int .i64 id] w (fun v w' => v = .int .i64 (capIx d id) ∧ Ext w w') := by
  refine go86 ?_
  unfold W86
  have h := SH.start w
  have hl := hd.caps.len
  have hf := hd.caps.few
  refine h.alloc (fun w1 h ew1 nw1 => ?_)
  refine LoopW.m1 (fun (i : Int) w' => ∃ k : Nat, i = k ∧ k ≤ d.Caps.length ∧ (∀ j y, j < k → d.Caps[j]? = some y → (y.Id == id) = false) ∧ SH w w' [aB w.heap.size ((ipcV n sp sc sq).map Ce.v)]) (fun (i : Int) _ => ((d.Caps.length : Int) - i).toNat) ⟨0, rfl, by omega, (fun j y hj => by omega), h⟩ ?_
  rintro (i : Int) w4 ⟨k, rfl, hk, hno, h⟩ J hJ
  refine ⟨sc, h.cell 0 rfl rfl, ?_⟩
  rw [hl]
  refine BIf.dec (fun hlt => ?_) (fun hge => ?_)
  · obtain ⟨x, hx⟩ : ∃ x, d.Caps[k]? = some x := ⟨_, List.getElem?_eq_getElem (by omega)⟩
    obtain ⟨q, hq, hc⟩ := (hd.caps.ext h.ext).get (by omega) hx
    refine ⟨sc, h.cell 0 rfl rfl, by omega, by omega, q, hq, _, hc 0 _ rfl, ?_⟩
    refine BIf.eq (fun he => ?_) (fun he => ?_)
    · exact ⟨by unfold capIx; rw [idx_at hx (by simpa using he) hno], h.ext⟩
    · rw [w64 (by omega) (by omega)]
      refine hJ _ _ ⟨k + 1, by omega, by omega, fun j y hj hy => ?_, h⟩ (by omega)
      by_cases hjk : j = k
      · subst hjk; rw [hx] at hy; cases hy; simpa using he
      · exact hno j y (by omega) hy
  · refine ⟨by unfold capIx; rw [idx_no (fun j y hy => hno j y (by have := (List.getElem?_eq_some_iff.1 hy).1; omega) hy)], h.ext⟩
theorem c85 {n id : Int} {sp sc sq : Sl} {d : DIpc} {w : World} (hd : IpcAt w sp sc sq d) : CallW Try.prog 85 #[.agg #[.int .i64 n, .slice sp.a sp.len sp.cap, .slice sc.a sc.len sc.cap, .slice sq.a sq.len sq.cap], .int .i64 id] w (fun v w' => v = .int .i64 (portIx d id) ∧ Ext w w') := by
  refine go85 ?_
  unfold W85
  have h := SH.start w
  have hl := hd.ports.len
  have hf := hd.few
  refine h.alloc (fun w1 h ew1 nw1 => ?_)
  refine LoopW.m1 (fun (i : Int) w' => ∃ k : Nat, i = k ∧ k ≤ d.Ports.length ∧ (∀ j y, j < k → d.Ports[j]? = some y → (y.Id == id) = false) ∧ SH w w' [aB w.heap.size ((ipcV n sp sc sq).map Ce.v)]) (fun (i : Int) _ => ((d.Ports.length : Int) - i).toNat) ⟨0, rfl, by omega, (fun j y hj => by omega), h⟩ ?_
  rintro (i : Int) w4 ⟨k, rfl, hk, hno, h⟩ J hJ
  refine ⟨sp, h.cell 0 rfl rfl, ?_⟩
  rw [hl]
  refine BIf.dec (fun hlt => ?_) (fun hge => ?_)
  · obtain ⟨x, hx⟩ : ∃ x, d.Ports[k]? = some x := ⟨_, List.getElem?_eq_getElem (by omega)⟩
    obtain ⟨q, t, hq, hc, _⟩ := (hd.ports.ext h.ext).get k x hx
    refine ⟨sp, h.cell 0 rfl rfl, by omega, by omega, q, hq, _, hc, ?_⟩
    refine BIf.eq (fun he => ?_) (fun he => ?_)
    · exact ⟨by unfold portIx; rw [idx_at hx (by simpa using he) hno], h.ext⟩
    · rw [w64 (by omega) (by omega)]
      refine hJ _ _ ⟨k + 1, by omega, by omega, fun j y hj hy => ?_, h⟩ (by omega)
      by_cases hjk : j = k
      · subst hjk; rw [hx] at hy; cases hy; simpa using he
      · exact hno j y (by omega) hy
  · refine ⟨by unfold portIx; rw [idx_no (fun j y hy => hno j y (by have := (List.getElem?_eq_some_iff.1 hy).1; omega) hy)], h.ext⟩
theorem c88 {n id : Int} {sp sc sq : Sl} {d : DIpc} {w : World} (hd : IpcAt w sp sc sq d) : CallW Try.prog 88 #[.agg #[.int .i64 n, .slice sp.a sp.len sp.cap, .slice sc.a sc.len sc.cap, .slice sq.a sq.len sq.cap], .int .i64 id] w (fun v w' => v = .int .i64 (pipeIx d id) ∧ Ext w w') := by
  refine go88 ?_
  unfold W88
  have h := SH.start w
  have hl := hd.pipes.len
  have hf := hd.few
  refine h.alloc (fun w1 h ew1 nw1 => ?_)
  refine LoopW.m1 (fun (i : Int) w' => ∃ k : Nat, i = k ∧ k ≤ d.Pipes.length ∧ (∀ j y, j < k → d.Pipes[j]? = some y → (y.Id == id) = false) ∧ SH w w' [aB w.heap.size ((ipcV n sp sc sq).map Ce.v)]) (fun (i : Int) _ => ((d.Pipes.length : Int) - i).toNat) ⟨0, rfl, by omega, (fun j y hj => by omega), h⟩ ?_
  rintro (i : Int) w4 ⟨k, rfl, hk, hno, h⟩ J hJ
  refine ⟨sq, h.cell 0 rfl rfl, ?_⟩
  rw [hl]
  refine BIf.dec (fun hlt => ?_) (fun hge => ?_)
  · obtain ⟨x, hx⟩ : ∃ x, d.Pipes[k]? = some x := ⟨_, List.getElem?_eq_getElem (by omega)⟩
    obtain ⟨q, t, hq, hc, _⟩ := (hd.pipes.ext h.ext).get k x hx
    refine ⟨sq, h.cell 0 rfl rfl, by omega, by omega, q, hq, _, hc, ?_⟩
    refine BIf.eq (fun he => ?_) (fun he => ?_)
    · exact ⟨by unfold pipeIx; rw [idx_at hx (by simpa using he) hno], h.ext⟩
    · rw [w64 (by omega) (by omega)]
      refine hJ _ _ ⟨k + 1, by omega, by omega, fun j y hj hy => ?_, h⟩ (by omega)
      by_cases hjk : j = k
      · subst hjk; rw [hx] at hy; cases hy; simpa using he
      · exact hno j y (by omega) hy
  · refine ⟨by unfold pipeIx; rw [idx_no (fun j y hy => hno j y (by have := (List.getElem?_eq_some_iff.1 hy).1; omega) hy)], h.ext⟩
/-! ## The program's look-ups -/
theorem c59 {id : Int} {b : Nat} {sp sc sq : Sl} {d : DIpc} {w : World} (hc2 : w.cell? ⟨b, 2, none⟩ = some (.slice sc.a sc.len sc.cap)) (hd : IpcAt w sp sc sq d) : CallW Try.prog 59 #[.pointer (some ⟨b, 0, none⟩), .int .i64 id] w (fun v w' => v = .pointer (ptrE sc 5 (capIx d id)) ∧ w' = w) := by
  refine go59 ?_
  unfold W59
  have hl := hd.caps.len
  have hf := hd.caps.few
  refine ⟨_, rfl, sc, hc2, ?_⟩
  refine LoopW.m1 (fun (i : Int) w' => ∃ k : Nat, i = k ∧ k ≤ d.Caps.length ∧ (∀ j y, j < k → d.Caps[j]? = some y → (y.Id == id) = false) ∧ w' = w) (fun (i : Int) _ => ((d.Caps.length : Int) - i).toNat) ⟨0, rfl, by omega, (fun j y hj => by omega), rfl⟩ ?_
  rintro (i : Int) w5 ⟨k, rfl, hk, hno, rfl⟩ J hJ
  rw [hl]
  refine BIf.dec (fun hlt => ?_) (fun hge => ?_)
  · obtain ⟨x, hx⟩ : ∃ x, d.Caps[k]? = some x := ⟨_, List.getElem?_eq_getElem (by omega)⟩
    obtain ⟨q, hq, hc⟩ := hd.caps.get (by omega) hx
    refine ⟨_, rfl, sc, hc2, by omega, by omega, q, hq, _, hc 0 _ rfl, ?_⟩
    refine BIf.eq (fun he => ?_) (fun he => ?_)
    · refine ⟨_, rfl, sc, hc2, by omega, by omega, q, hq, ?_, rfl⟩
      unfold capIx; rw [idx_at hx (by simpa using he) hno, ptrE_at hq]; rfl
    · rw [w64 (by omega) (by omega)]
      refine hJ _ _ ⟨k + 1, by omega, by omega, fun j y hj hy => ?_, rfl⟩ (by omega)
      by_cases hjk : j = k
      · subst hjk; rw [hx] at hy; cases hy; simpa using he
      · exact hno j y (by omega) hy
  · refine ⟨?_, rfl⟩
    unfold capIx; rw [idx_no (fun j y hy => hno j y (by have := (List.getElem?_eq_some_iff.1 hy).1; omega) hy), ptrE_neg (by omega)]
theorem c58 {id : Int} {b : Nat} {sp sc sq : Sl} {d : DIpc} {w : World} (hc2 : w.cell? ⟨b, 1, none⟩ = some (.slice sp.a sp.len sp.cap)) (hd : IpcAt w sp sc sq d) : CallW Try.prog 58 #[.pointer (some ⟨b, 0, none⟩), .int .i64 id] w (fun v w' => v = .pointer (ptrE sp 2 (portIx d id)) ∧ w' = w) := by
  refine go58 ?_
  unfold W58
  have hl := hd.ports.len
  have hf := hd.few
  refine ⟨_, rfl, sp, hc2, ?_⟩
  refine LoopW.m1 (fun (i : Int) w' => ∃ k : Nat, i = k ∧ k ≤ d.Ports.length ∧ (∀ j y, j < k → d.Ports[j]? = some y → (y.Id == id) = false) ∧ w' = w) (fun (i : Int) _ => ((d.Ports.length : Int) - i).toNat) ⟨0, rfl, by omega, (fun j y hj => by omega), rfl⟩ ?_
  rintro (i : Int) w5 ⟨k, rfl, hk, hno, rfl⟩ J hJ
  rw [hl]
  refine BIf.dec (fun hlt => ?_) (fun hge => ?_)
  · obtain ⟨x, hx⟩ : ∃ x, d.Ports[k]? = some x := ⟨_, List.getElem?_eq_getElem (by omega)⟩
    obtain ⟨q, t, hq, hc, _⟩ := hd.ports.get k x hx
    refine ⟨_, rfl, sp, hc2, by omega, by omega, q, hq, _, hc, ?_⟩
    refine BIf.eq (fun he => ?_) (fun he => ?_)
    · refine ⟨_, rfl, sp, hc2, by omega, by omega, q, hq, ?_, rfl⟩
      unfold portIx; rw [idx_at hx (by simpa using he) hno, ptrE_at hq]; rfl
    · rw [w64 (by omega) (by omega)]
      refine hJ _ _ ⟨k + 1, by omega, by omega, fun j y hj hy => ?_, rfl⟩ (by omega)
      by_cases hjk : j = k
      · subst hjk; rw [hx] at hy; cases hy; simpa using he
      · exact hno j y (by omega) hy
  · refine ⟨?_, rfl⟩
    unfold portIx; rw [idx_no (fun j y hy => hno j y (by have := (List.getElem?_eq_some_iff.1 hy).1; omega) hy), ptrE_neg (by omega)]
/-! ## Rights -/
def amAt (x y b : Int) : Bool := (Int.tmod (IntKind.i64.wrap (x.tdiv b)) 2 == 1) && (Int.tmod (IntKind.i64.wrap (y.tdiv b)) 2 == 0)
def amongB (x y : Int) : Bool := !amAt x y 1 && !amAt x y 2 && !amAt x y 4
theorem c87 {x y : Int} {w : World} : CallW Try.prog 87 #[.int .i64 x, .int .i64 y] w (fun v w' => v = .bool (amongB x y) ∧ w' = w) := by
  refine go87 ?_
  unfold W87
  refine LoopW.m1 (fun (b : Int) w' => ((b = 1) ∨ (b = 2 ∧ amAt x y 1 = false) ∨ (b = 4 ∧ amAt x y 1 = false ∧ amAt x y 2 = false) ∨ (b = 8 ∧ amAt x y 1 = false ∧ amAt x y 2 = false ∧ amAt x y 4 = false)) ∧ w' = w) (fun (b : Int) _ => (8 - b).toNat) ⟨.inl rfl, rfl⟩ ?_
  rintro (b : Int) w3 ⟨hb, rfl⟩ J hJ
  refine BIf.dec (fun hle => ?_) (fun hgt => ?_)
  · refine ⟨by omega, by decide, ?_⟩
    refine JoinW.cut1 (fun (r : Bool) w' => r = amAt x y b ∧ w' = w3) ?_ ?_
    · unfold amAt
      refine BIf.of (fun hc => ?_) (fun hc => ?_)
      · exact ⟨by omega, by decide, by rw [hc]; simp, rfl⟩
      · exact ⟨by rw [hc]; simp, rfl⟩
    rintro (r : Bool) w6 ⟨rfl, rfl⟩
    refine BIf.of (fun hc => ?_) (fun hc => ?_)
    · refine ⟨?_, rfl⟩
      unfold amongB
      rcases hb with rfl | ⟨rfl, h1⟩ | ⟨rfl, h1, h2⟩ | ⟨rfl, _⟩
      · simp [hc]
      · simp [hc]
      · simp [hc]
      · omega
    · rw [w64 (by omega) (by omega)]
      refine hJ _ _ ⟨?_, rfl⟩ (by omega)
      rcases hb with rfl | ⟨rfl, h1⟩ | ⟨rfl, h1, h2⟩ | ⟨rfl, _⟩
      · exact .inr (.inl ⟨rfl, hc⟩)
      · exact .inr (.inr (.inl ⟨rfl, h1, hc⟩))
      · exact .inr (.inr (.inr ⟨rfl, h1, h2, hc⟩))
      · omega
  · refine ⟨?_, rfl⟩
    unfold amongB
    rcases hb with rfl | ⟨rfl, h1⟩ | ⟨rfl, h1, h2⟩ | ⟨rfl, h1, h2, h3⟩
    · omega
    · omega
    · omega
    · simp [h1, h2, h3]
theorem among_fin : ∀ x y : Fin 8, (andI .i64 ((y.val : Nat) : Int) ((x.val : Nat) : Int) != ((x.val : Nat) : Int)) = !amongB ((x.val : Nat) : Int) ((y.val : Nat) : Int) := by decide
theorem among_eq {x y : Int} (h1 : 1 ≤ x) (h2 : x ≤ 7) (h3 : 1 ≤ y) (h4 : y ≤ 7) : (andI .i64 y x != x) = !amongB x y := by
  have := among_fin ⟨x.toNat, by omega⟩ ⟨y.toNat, by omega⟩
  simp only at this
  rwa [show ((x.toNat : Nat) : Int) = x by omega, show ((y.toNat : Nat) : Int) = y by omega] at this
end Go.Proofs.Ytbimoajgofcmbaa

/- Ports and capabilities: when a state can be, the reference's side. Conditions: none. -/
set_option linter.unusedVariables false
set_option linter.unusedSimpArgs false
namespace Go.Proofs.Ytbimoajgofcmbaa
open Go Go.Den
structure ParOk (d : DIpc) (c : DCap) (k : Nat) (p : DCap) : Prop where
  ix : capIx d c.Parent = k
  at_ : d.Caps[k]? = some p
  lt : c.Parent < c.Id
  port : p.Port = c.Port
  am : amongB c.Rights p.Rights = true
structure CapOk (d : DIpc) (i : Nat) (c : DCap) : Prop where
  id1 : 1 ≤ c.Id
  idN : c.Id ≤ d.Next
  sorted : ∀ z, 0 < i → d.Caps[i - 1]? = some z → z.Id < c.Id
  hold : 0 ≤ c.Holder ∧ c.Holder < 64
  r1 : 1 ≤ c.Rights
  r7 : c.Rights ≤ 7
  port : 0 ≤ portIx d c.Port
  par : c.Parent = 0 ∨ ∃ k p, ParOk d c k p
def MsgOk (d : DIpc) (m : DMsg) : Prop := 0 ≤ m.From ∧ m.From < 64 ∧ m.Data.length ≤ 64 ∧ 0 ≤ m.Cap ∧ m.Cap ≤ d.Next
structure PortOk (d : DIpc) (i : Nat) (p : DPort) : Prop where
  id1 : 1 ≤ p.Id
  idN : p.Id ≤ d.Next
  sorted : ∀ z, 0 < i → d.Ports[i - 1]? = some z → z.Id < p.Id
  few : p.Queue.length ≤ 8
  noCap : capIx d p.Id < 0
  noPipe : pipeIx d p.Id < 0
  msgs : ∀ m, m ∈ p.Queue → MsgOk d m
  some_ : ∃ c, c ∈ d.Caps ∧ c.Port = p.Id
structure PipeOk (d : DIpc) (i : Nat) (p : DPipe) : Prop where
  id1 : 1 ≤ p.Id
  idN : p.Id ≤ d.Next
  sorted : ∀ z, 0 < i → d.Pipes[i - 1]? = some z → z.Id < p.Id
  noCap : capIx d p.Id < 0
  few : p.Data.length ≤ 512
  r : 0 ≤ p.Readers ∧ p.Readers ≤ 64
  w : 0 ≤ p.Writers ∧ p.Writers ≤ 64
  pos : 0 < p.Readers + p.Writers
structure IOk (d : DIpc) : Prop where
  next : 0 ≤ d.Next ∧ d.Next ≤ 1099511627776
  caps : d.Caps.length ≤ 128
  ports : d.Ports.length ≤ 32
  pipes : d.Pipes.length ≤ 32
  cap : ∀ i c, d.Caps[i]? = some c → CapOk d i c
  port : ∀ i p, d.Ports[i]? = some p → PortOk d i p
  pipe : ∀ i p, d.Pipes[i]? = some p → PipeOk d i p
def KB (P : Prop) (w : World) (v : Value) (w' : World) : Prop := ∃ b, v = .bool b ∧ (b = true ↔ P) ∧ Ext w w'
theorem kb_f {P : Prop} {w w' : World} (h : ¬ P) (e : Ext w w') : KB P w (.bool false) w' := ⟨false, rfl, ⟨(fun h => by cases h), fun hp => absurd hp h⟩, e⟩
theorem kb_t {P : Prop} {w w' : World} (h : P) (e : Ext w w') : KB P w (.bool true) w' := ⟨true, rfl, ⟨fun _ => h, fun _ => rfl⟩, e⟩
theorem idx_get {α : Type} {p : α → Bool} {l : List α} (h : 0 ≤ idxFrom p l 0) : ∃ (k : Nat) (x : α), idxFrom p l 0 = k ∧ l[k]? = some x ∧ p x = true := by
  rcases idx_cases p l with ⟨h1, _⟩ | ⟨k, x, h1, h2, h3, _⟩
  · omega
  · exact ⟨k, x, h1, h2, h3⟩
theorem c50 {n : Int} {i : Nat} {sp sc sq : Sl} {d : DIpc} {c : DCap} {w : World} (hd : IpcAt w sp sc sq d) (hn : n = d.Next) (hx : d.Caps[i]? = some c) : CallW Try.prog 50 #[.agg #[.int .i64 n, .slice sp.a sp.len sp.cap, .slice sc.a sc.len sc.cap, .slice sq.a sq.len sq.cap], .int .i64 (i : Int)] w (KB (CapOk d i c) w) := by
  refine go50 ?_
  unfold W50
  have h := SH.start w
  have hl := hd.caps.len
  have hf := hd.caps.few
  have hil := (List.getElem?_eq_some_iff.1 hx).1
  obtain ⟨q, hq, hc⟩ := hd.caps.get (by omega) hx
  refine h.alloc (fun w1 h ew1 nw1 => ?_)
  refine ⟨sc, h.cell 0 rfl rfl, by omega, by omega, q, hq, ?_⟩
  rw [Int.toNat_natCast]
  refine ⟨_, h.ext.cell (hc 0 _ rfl), _, h.ext.cell (hc 1 _ rfl), _, h.ext.cell (hc 2 _ rfl), _, h.ext.cell (hc 3 _ rfl), _, h.ext.cell (hc 4 _ rfl), ?_⟩
  refine h.alloc (fun w9 h ew9 nw9 => ?_)
  refine h.put 0 rfl rfl rfl (fun w10 h nw10 => ?_)
  generalize w1.heap.size = cb at *
  have h := h.drew
  subst hn
  obtain ⟨J, hJJ⟩ : ∃ J : Bool → World → Prop, J = fun b w' => (b = false ↔ (1 ≤ c.Id ∧ c.Id ≤ d.Next ∧ (∀ z, 0 < i → d.Caps[i - 1]? = some z → z.Id < c.Id) ∧ (0 ≤ c.Holder ∧ c.Holder < 64) ∧ 1 ≤ c.Rights ∧ c.Rights ≤ 7 ∧ 0 ≤ portIx d c.Port)) ∧ SH w w' [aB cb (c.cells.map Ce.v), aB w.heap.size ((ipcV d.Next sp sc sq).map Ce.v)] := ⟨_, rfl⟩
  have mkJ : ∀ b w', (b = false ↔ (1 ≤ c.Id ∧ c.Id ≤ d.Next ∧ (∀ z, 0 < i → d.Caps[i - 1]? = some z → z.Id < c.Id) ∧ (0 ≤ c.Holder ∧ c.Holder < 64) ∧ 1 ≤ c.Rights ∧ c.Rights ≤ 7 ∧ 0 ≤ portIx d c.Port)) → SH w w' [aB cb (c.cells.map Ce.v), aB w.heap.size ((ipcV d.Next sp sc sq).map Ce.v)] → J b w' := fun b w' h1 h2 => by rw [hJJ]; exact ⟨h1, h2⟩
  refine JoinW.cut1 J ?_ ?_
  · refine ⟨_, h.cell 0 rfl rfl, BIf.dec (fun hb => mkJ _ _ ⟨(fun hh => by cases hh), fun hh => by omega⟩ h) (fun hb => ?_)⟩
    refine ⟨_, h.cell 0 rfl rfl, _, h.cell 1 rfl rfl, BIf.dec (fun hb2 => mkJ _ _ ⟨(fun hh => by cases hh), fun hh => by omega⟩ h) (fun hb2 => ?_)⟩
    have tail : ∀ (J : Bool → World → Prop), (∀ b w', (b = false ↔ (0 ≤ c.Holder ∧ c.Holder < 64) ∧ 1 ≤ c.Rights ∧ c.Rights ≤ 7 ∧ 0 ≤ portIx d c.Port) → SH w w' [aB cb (c.cells.map Ce.v), aB w.heap.size ((ipcV d.Next sp sc sq).map Ce.v)] → J b w') →
        ∃ n57 : Int, w10.drew.cell? ⟨cb, 1, none⟩ = some (.int .i64 n57) ∧ CallW Try.prog 84 #[.int .i64 n57] w10.drew fun v58 w59 => ∃ b60 : Bool, v58 = .bool b60 ∧ BIf (!b60) (J true w59) (∃ n61 : Int, w59.cell? ⟨cb, 3, none⟩ = some (.int .i64 n61) ∧ BIf (decide (n61 < 1)) (J true w59) (∃ n62 : Int, w59.cell? ⟨cb, 3, none⟩ = some (.int .i64 n62) ∧ BIf (decide (n62 > 7)) (J true w59) (∃ n63 : Int, w59.cell? ⟨w.heap.size, 0, none⟩ = some (.int .i64 n63) ∧ ∃ l64 : Sl, w59.cell? ⟨w.heap.size, 1, none⟩ = some (.slice l64.a l64.len l64.cap) ∧ ∃ l65 : Sl, w59.cell? ⟨w.heap.size, 2, none⟩ = some (.slice l65.a l65.len l65.cap) ∧ ∃ l66 : Sl, w59.cell? ⟨w.heap.size, 3, none⟩ = some (.slice l66.a l66.len l66.cap) ∧ ∃ n67 : Int, w59.cell? ⟨cb, 2, none⟩ = some (.int .i64 n67) ∧ CallW Try.prog 85 #[.agg #[.int .i64 n63, .slice l64.a l64.len l64.cap, .slice l65.a l65.len l65.cap, .slice l66.a l66.len l66.cap], .int .i64 n67] w59 fun v68 w69 => ∃ n70 : Int, v68 = .int .i64 n70 ∧ J (decide (n70 < 0)) w69))) := by
      intro J hJ
      refine ⟨_, h.cell 0 rfl rfl, c84.mono ?_⟩
      rintro _ w59 ⟨rfl, rfl⟩
      refine ⟨_, rfl, BIf.of (fun hb3 => hJ _ _ ⟨(fun hh => by cases hh), fun hh => ?_⟩ h) (fun hb3 => ?_)⟩
      · simp only [Bool.not_eq_true', Bool.and_eq_false_iff, decide_eq_false_iff_not] at hb3; omega
      simp only [Bool.not_eq_false', Bool.and_eq_true, decide_eq_true_eq] at hb3
      refine ⟨_, h.cell 0 rfl rfl, BIf.dec (fun hb4 => hJ _ _ ⟨(fun hh => by cases hh), fun hh => by omega⟩ h) (fun hb4 => ?_)⟩
      refine ⟨_, h.cell 0 rfl rfl, BIf.dec (fun hb5 => hJ _ _ ⟨(fun hh => by cases hh), fun hh => by omega⟩ h) (fun hb5 => ?_)⟩
      refine ⟨_, h.cell 1 rfl rfl, sp, h.cell 1 rfl rfl, sc, h.cell 1 rfl rfl, sq, h.cell 1 rfl rfl, _, h.cell 0 rfl rfl, (c85 (hd.ext h.ext)).mono ?_⟩
      rintro _ w69 ⟨rfl, e⟩
      refine ⟨_, rfl, hJ _ _ ?_ (h.to e)⟩
      rw [decide_eq_false_iff_not]; omega
    refine BIf.dec (fun hi0 => ?_) (fun hi0 => ?_)
    · obtain ⟨z, hz⟩ : ∃ z, d.Caps[i - 1]? = some z := ⟨_, List.getElem?_eq_getElem (by omega)⟩
      obtain ⟨q', hq', hc'⟩ := hd.caps.get (by omega) hz
      rw [w64 (n := (i : Int) - 1) (by omega) (by omega), show ((i : Int) - 1).toNat = i - 1 by omega]
      refine ⟨sc, h.cell 1 rfl rfl, by omega, by omega, q', hq', _, h.ext.cell (hc' 0 _ rfl), _, h.cell 0 rfl rfl, ?_⟩
      refine BIf.dec (fun hb3 => mkJ _ _ ⟨(fun hh => by cases hh), fun hh => by have := hh.2.2.1 z (by omega) hz; omega⟩ h) (fun hb3 => ?_)
      refine tail J (fun b w' hh hs => mkJ _ _ ?_ hs)
      rw [hh]
      exact ⟨fun hh => ⟨by omega, by omega, fun y _ hy => by rw [hz] at hy; cases hy; omega, hh⟩, fun hh => hh.2.2.2⟩
    · refine tail J (fun b w' hh hs => mkJ _ _ ?_ hs)
      rw [hh]
      exact ⟨fun hh => ⟨by omega, by omega, fun y hy _ => by omega, hh⟩, fun hh => hh.2.2.2⟩
  subst hJJ
  rintro (b : Bool) w13 ⟨hiff, h⟩
  refine BIf.of (fun hb => kb_f (fun hok => ?_) h.ext) (fun hb => ?_)
  · rw [hiff.2 ⟨hok.id1, hok.idN, hok.sorted, hok.hold, hok.r1, hok.r7, hok.port⟩] at hb; cases hb
  obtain ⟨g1, g2, g3, g4, g5, g6, g7⟩ := hiff.1 hb
  refine ⟨_, h.cell 0 rfl rfl, BIf.eq (fun h0 => kb_t ⟨g1, g2, g3, g4, g5, g6, g7, .inl h0⟩ h.ext) (fun h0 => ?_)⟩
  refine ⟨_, h.cell 1 rfl rfl, sp, h.cell 1 rfl rfl, sc, h.cell 1 rfl rfl, sq, h.cell 1 rfl rfl, _, h.cell 0 rfl rfl, (c86 (hd.ext h.ext)).mono ?_⟩
  rintro _ w21 ⟨rfl, e⟩
  have h := (h.to e)
  refine ⟨_, rfl, BIf.dec (fun hge => ?_) (fun hlt => ?_)⟩
  · have h := h.drew
    obtain ⟨k, p, hk, hp, _⟩ := idx_get hge
    have hk' : capIx d c.Parent = k := hk
    obtain ⟨q', hq', hc'⟩ := hd.caps.get (by omega) hp
    have hkl := (List.getElem?_eq_some_iff.1 hp).1
    rw [hk']
    have no : ∀ (hn : ∀ p', d.Caps[k]? = some p' → ¬ (c.Parent < c.Id ∧ p'.Port = c.Port ∧ amongB c.Rights p'.Rights = true)), ¬ CapOk d i c := by
      intro hn hok
      rcases hok.par with h0' | ⟨k', p', hpo⟩
      · exact h0 h0'
      · have := hpo.ix
        rw [hk'] at this
        obtain rfl : k = k' := by omega
        exact hn p' hpo.at_ ⟨hpo.lt, hpo.port, hpo.am⟩
    refine ⟨_, h.cell 0 rfl rfl, _, h.cell 0 rfl rfl, BIf.dec (fun hlt => ?_) (fun hnl => kb_f (no (fun p' _ hh => hnl hh.1)) h.ext)⟩
    refine ⟨sc, h.cell 1 rfl rfl, by omega, by omega, q', hq', _, h.ext.cell (hc' 2 _ rfl), _, h.cell 0 rfl rfl, ?_⟩
    refine BIf.eq (fun hpe => ?_) (fun hpe => kb_f (no (fun p' hp' hh => by rw [hp] at hp'; cases hp'; exact hpe hh.2.1)) h.ext)
    refine ⟨_, h.cell 0 rfl rfl, sc, h.cell 1 rfl rfl, by omega, by omega, q', hq', _, h.ext.cell (hc' 3 _ rfl), c87.mono ?_⟩
    rintro _ w34 ⟨rfl, rfl⟩
    refine ⟨_, rfl, _, rfl, ?_, h.ext⟩
    constructor
    · intro ha; exact ⟨g1, g2, g3, g4, g5, g6, g7, .inr ⟨k, p, hk', hp, hlt, hpe, ha⟩⟩
    · intro hok
      rcases hok.par with h0' | ⟨k', p', hpo⟩
      · exact absurd h0' h0
      · have := hpo.ix
        rw [hk'] at this
        obtain rfl : k = k' := by omega
        have hat := hpo.at_
        rw [hp] at hat
        cases hat
        exact hpo.am
  · refine kb_f (fun hok => ?_) h.drew.ext
    rcases hok.par with h0' | ⟨k', p', hpo⟩
    · exact h0 h0'
    · have := hpo.ix; omega
theorem c51 {n : Int} {i : Nat} {sp sc sq : Sl} {d : DIpc} {x : DPort} {w : World} (hd : IpcAt w sp sc sq d) (hn : n = d.Next) (hx : d.Ports[i]? = some x) : CallW Try.prog 51 #[.agg #[.int .i64 n, .slice sp.a sp.len sp.cap, .slice sc.a sc.len sc.cap, .slice sq.a sq.len sq.cap], .int .i64 (i : Int)] w (KB (PortOk d i x) w) := by
  refine go51 ?_
  unfold W51
  have h := SH.start w
  have hl := hd.ports.len
  have hf := hd.few
  have hcl := hd.caps.len
  have hcf := hd.caps.few
  have hil := (List.getElem?_eq_some_iff.1 hx).1
  obtain ⟨q, tq, hq, hc0, hc1, hms⟩ := hd.ports.get i x hx
  have hml := hms.len
  refine h.alloc (fun w1 h ew1 nw1 => ?_)
  refine ⟨sp, h.cell 0 rfl rfl, by omega, by omega, q, hq, ?_⟩
  rw [Int.toNat_natCast]
  refine ⟨_, h.ext.cell hc0, tq, h.ext.cell hc1, ?_⟩
  refine h.alloc (fun w6 h ew6 nw6 => ?_)
  refine h.put 0 rfl rfl rfl (fun w7 h nw7 => ?_)
  generalize w1.heap.size = cb at *
  have h := h.drew
  subst hn
  obtain ⟨J, hJJ⟩ : ∃ J : Bool → World → Prop, J = fun b w' => (b = false ↔ (1 ≤ x.Id ∧ x.Id ≤ d.Next ∧ (∀ z, 0 < i → d.Ports[i - 1]? = some z → z.Id < x.Id) ∧ x.Queue.length ≤ 8 ∧ capIx d x.Id < 0 ∧ pipeIx d x.Id < 0)) ∧ SH w w' [aB cb ([.int .i64 x.Id, .slice tq.a tq.len tq.cap].map Ce.v), aB w.heap.size ((ipcV d.Next sp sc sq).map Ce.v)] := ⟨_, rfl⟩
  have mkJ : ∀ b w', (b = false ↔ (1 ≤ x.Id ∧ x.Id ≤ d.Next ∧ (∀ z, 0 < i → d.Ports[i - 1]? = some z → z.Id < x.Id) ∧ x.Queue.length ≤ 8 ∧ capIx d x.Id < 0 ∧ pipeIx d x.Id < 0)) → SH w w' [aB cb ([.int .i64 x.Id, .slice tq.a tq.len tq.cap].map Ce.v), aB w.heap.size ((ipcV d.Next sp sc sq).map Ce.v)] → J b w' := fun b w' h1 h2 => by rw [hJJ]; exact ⟨h1, h2⟩
  refine JoinW.cut1 J ?_ ?_
  · refine ⟨_, h.cell 0 rfl rfl, BIf.dec (fun hb => mkJ _ _ ⟨(fun hh => by cases hh), fun hh => by omega⟩ h) (fun hb => ?_)⟩
    refine ⟨_, h.cell 0 rfl rfl, _, h.cell 1 rfl rfl, BIf.dec (fun hb2 => mkJ _ _ ⟨(fun hh => by cases hh), fun hh => by omega⟩ h) (fun hb2 => ?_)⟩
    have tail : ∀ (J : Bool → World → Prop), (∀ b w', (b = false ↔ x.Queue.length ≤ 8 ∧ capIx d x.Id < 0 ∧ pipeIx d x.Id < 0) → SH w w' [aB cb ([.int .i64 x.Id, .slice tq.a tq.len tq.cap].map Ce.v), aB w.heap.size ((ipcV d.Next sp sc sq).map Ce.v)] → J b w') →
        ∃ l71 : Sl, w7.drew.cell? ⟨cb, 1, none⟩ = some (.slice l71.a l71.len l71.cap) ∧ BIf (decide ((((l71.len : Nat) : Int) : Int) > 8)) (J true w7.drew) (∃ n72 : Int, w7.drew.cell? ⟨w.heap.size, 0, none⟩ = some (.int .i64 n72) ∧ ∃ l73 : Sl, w7.drew.cell? ⟨w.heap.size, 1, none⟩ = some (.slice l73.a l73.len l73.cap) ∧ ∃ l74 : Sl, w7.drew.cell? ⟨w.heap.size, 2, none⟩ = some (.slice l74.a l74.len l74.cap) ∧ ∃ l75 : Sl, w7.drew.cell? ⟨w.heap.size, 3, none⟩ = some (.slice l75.a l75.len l75.cap) ∧ ∃ n76 : Int, w7.drew.cell? ⟨cb, 0, none⟩ = some (.int .i64 n76) ∧ CallW Try.prog 86 #[.agg #[.int .i64 n72, .slice l73.a l73.len l73.cap, .slice l74.a l74.len l74.cap, .slice l75.a l75.len l75.cap], .int .i64 n76] w7.drew fun v77 w78 => ∃ n79 : Int, v77 = .int .i64 n79 ∧ BIf (decide ((n79 : Int) ≥ 0)) (J true w78) (∃ n80 : Int, w78.cell? ⟨w.heap.size, 0, none⟩ = some (.int .i64 n80) ∧ ∃ l81 : Sl, w78.cell? ⟨w.heap.size, 1, none⟩ = some (.slice l81.a l81.len l81.cap) ∧ ∃ l82 : Sl, w78.cell? ⟨w.heap.size, 2, none⟩ = some (.slice l82.a l82.len l82.cap) ∧ ∃ l83 : Sl, w78.cell? ⟨w.heap.size, 3, none⟩ = some (.slice l83.a l83.len l83.cap) ∧ ∃ n84 : Int, w78.cell? ⟨cb, 0, none⟩ = some (.int .i64 n84) ∧ CallW Try.prog 88 #[.agg #[.int .i64 n80, .slice l81.a l81.len l81.cap, .slice l82.a l82.len l82.cap, .slice l83.a l83.len l83.cap], .int .i64 n84] w78 fun v85 w86 => ∃ n87 : Int, v85 = .int .i64 n87 ∧ J (decide ((n87 : Int) ≥ 0)) w86)) := by
      intro J hJ
      refine ⟨tq, h.cell 0 rfl rfl, BIf.dec (fun hb3 => hJ _ _ ⟨(fun hh => by cases hh), fun hh => by omega⟩ h) (fun hb3 => ?_)⟩
      refine ⟨_, h.cell 1 rfl rfl, sp, h.cell 1 rfl rfl, sc, h.cell 1 rfl rfl, sq, h.cell 1 rfl rfl, _, h.cell 0 rfl rfl, (c86 (hd.ext h.ext)).mono ?_⟩
      rintro _ w78 ⟨rfl, e⟩
      have h := h.to e
      refine ⟨_, rfl, BIf.dec (fun hb4 => hJ _ _ ⟨(fun hh => by cases hh), fun hh => by omega⟩ h) (fun hb4 => ?_)⟩
      refine ⟨_, h.cell 1 rfl rfl, sp, h.cell 1 rfl rfl, sc, h.cell 1 rfl rfl, sq, h.cell 1 rfl rfl, _, h.cell 0 rfl rfl, (c88 (hd.ext h.ext)).mono ?_⟩
      rintro _ w86 ⟨rfl, e⟩
      refine ⟨_, rfl, hJ _ _ ?_ (h.to e)⟩
      rw [decide_eq_false_iff_not]; omega
    refine BIf.dec (fun hi0 => ?_) (fun hi0 => ?_)
    · obtain ⟨z, hz⟩ : ∃ z, d.Ports[i - 1]? = some z := ⟨_, List.getElem?_eq_getElem (by omega)⟩
      obtain ⟨q', _, hq', hc', _⟩ := hd.ports.get _ z hz
      rw [w64 (n := (i : Int) - 1) (by omega) (by omega), show ((i : Int) - 1).toNat = i - 1 by omega]
      refine ⟨sp, h.cell 1 rfl rfl, by omega, by omega, q', hq', _, h.ext.cell hc', _, h.cell 0 rfl rfl, ?_⟩
      refine BIf.dec (fun hb3 => mkJ _ _ ⟨(fun hh => by cases hh), fun hh => by have := hh.2.2.1 z (by omega) hz; omega⟩ h) (fun hb3 => ?_)
      refine tail J (fun b w' hh hs => mkJ _ _ ?_ hs)
      rw [hh]
      exact ⟨fun hh => ⟨by omega, by omega, fun y _ hy => by rw [hz] at hy; cases hy; omega, hh⟩, fun hh => hh.2.2.2⟩
    · refine tail J (fun b w' hh hs => mkJ _ _ ?_ hs)
      rw [hh]
      exact ⟨fun hh => ⟨by omega, by omega, fun y hy _ => by omega, hh⟩, fun hh => hh.2.2.2⟩
  subst hJJ
  rintro (b : Bool) w10 ⟨hiff, h⟩
  refine BIf.of (fun hb => kb_f (fun hok => ?_) h.ext) (fun hb => ?_)
  · rw [hiff.2 ⟨hok.id1, hok.idN, hok.sorted, hok.few, hok.noCap, hok.noPipe⟩] at hb; cases hb
  obtain ⟨g1, g2, g3, g4, g5, g6⟩ := hiff.1 hb
  refine LoopW.m1 (fun (k : Int) w' => ∃ j : Nat, k = j ∧ j ≤ x.Queue.length ∧ (∀ y, y ∈ x.Queue.take j → MsgOk d y) ∧ SH w w' [aB cb ([.int .i64 x.Id, .slice tq.a tq.len tq.cap].map Ce.v), aB w.heap.size ((ipcV d.Next sp sc sq).map Ce.v)]) (fun (k : Int) _ => ((x.Queue.length : Int) - k).toNat) ⟨0, rfl, by omega, (fun y hy => by simp at hy), h⟩ ?_
  rintro (k : Int) w13 ⟨j, rfl, hj, hall, h⟩ J hJ
  refine ⟨tq, h.cell 0 rfl rfl, ?_⟩
  rw [hml]
  refine BIf.dec (fun hlt => ?_) (fun hge => ?_)
  · obtain ⟨y, hy⟩ : ∃ y, x.Queue[j]? = some y := ⟨_, List.getElem?_eq_getElem (by omega)⟩
    obtain ⟨r, u, hr, hm0, hm1, hm2, hby⟩ := (hms.ext h.ext).get j y hy
    have hbl := hby.len
    refine ⟨tq, h.cell 0 rfl rfl, by omega, by omega, r, hr, _, hm0, u, hm1, _, hm2, ?_⟩
    refine h.alloc (fun w20 h ew20 nw20 => ?_)
    refine h.put 0 rfl rfl rfl (fun w21 h nw21 => ?_)
    generalize w13.heap.size = mb at *
    refine ⟨_, h.cell 0 rfl rfl, c84.mono ?_⟩
    rintro _ w24 ⟨rfl, rfl⟩
    refine ⟨_, rfl, ?_⟩
    refine join_or_ex u (h.cell 0 rfl rfl) ?_
    refine join_or_ex y.Cap (h.cell 0 rfl rfl) ?_
    refine JoinW.cut1 (fun (b : Bool) w' => (b = false ↔ MsgOk d y) ∧ w' = w24) ?_ ?_
    · rw [hbl]
      refine BIf.of (fun hc => ⟨⟨(fun hh => by cases hh), fun hh => ?_⟩, rfl⟩) (fun hc => ⟨_, h.cell 0 rfl rfl, _, h.cell 2 rfl rfl, ?_, rfl⟩)
      · obtain ⟨m1, m2, m3, m4, m5⟩ := hh
        simp only [Bool.or_eq_true, Bool.not_eq_true', Bool.and_eq_false_iff, decide_eq_false_iff_not, decide_eq_true_eq] at hc
        omega
      · simp only [Bool.or_eq_false_iff, Bool.not_eq_false', Bool.and_eq_true, decide_eq_false_iff_not, decide_eq_true_eq] at hc
        rw [decide_eq_false_iff_not]
        unfold MsgOk
        omega
    rintro (b2 : Bool) w34 ⟨hmi, rfl⟩
    refine BIf.of (fun hc => kb_f (fun hok => ?_) h.ext) (fun hc => ?_)
    · rw [hmi.2 (hok.msgs y (List.mem_of_getElem? hy))] at hc; cases hc
    · rw [w64 (by omega) (by omega)]
      refine hJ _ _ ⟨j + 1, by omega, by omega, fun z hz => ?_, h.drop⟩ (by omega)
      rw [List.take_add_one, hy] at hz
      rcases List.mem_append.1 hz with hz | hz
      · exact hall z hz
      · simp at hz; subst hz; exact hmi.1 hc
  · rw [List.take_of_length_le (by omega)] at hall
    refine LoopW.m1 (fun (k : Int) w' => ∃ j : Nat, k = j ∧ j ≤ d.Caps.length ∧ (∀ y, y ∈ d.Caps.take j → y.Port ≠ x.Id) ∧ SH w w' [aB cb ([.int .i64 x.Id, .slice tq.a tq.len tq.cap].map Ce.v), aB w.heap.size ((ipcV d.Next sp sc sq).map Ce.v)]) (fun (k : Int) _ => ((d.Caps.length : Int) - k).toNat) ⟨0, rfl, by omega, (fun y hy => by simp at hy), h⟩ ?_
    rintro (k2 : Int) w41 ⟨j2, rfl, hj2, hno, h⟩ J2 hJ2
    refine ⟨sc, h.cell 1 rfl rfl, ?_⟩
    rw [hcl]
    refine BIf.dec (fun hlt2 => ?_) (fun hge2 => ?_)
    · have h := h.drew
      obtain ⟨y, hy⟩ : ∃ y, d.Caps[j2]? = some y := ⟨_, List.getElem?_eq_getElem (by omega)⟩
      obtain ⟨r, hr, hcc⟩ := (hd.caps.ext h.ext).get (by omega) hy
      refine ⟨sc, h.cell 1 rfl rfl, by omega, by omega, r, hr, _, hcc 2 _ rfl, _, h.cell 0 rfl rfl, ?_⟩
      refine BIf.eq (fun he => kb_t ⟨g1, g2, g3, g4, g5, g6, hall, y, List.mem_of_getElem? hy, he⟩ h.ext) (fun he => ?_)
      rw [w64 (by omega) (by omega)]
      refine hJ2 _ _ ⟨j2 + 1, by omega, by omega, fun z hz => ?_, h⟩ (by omega)
      rw [List.take_add_one, hy] at hz
      rcases List.mem_append.1 hz with hz | hz
      · exact hno z hz
      · simp at hz; subst hz; exact he
    · rw [List.take_of_length_le (by omega)] at hno
      exact kb_f (fun hok => by obtain ⟨c, h1, h2⟩ := hok.some_; exact hno c h1 h2) h.ext
theorem c52 {n : Int} {i : Nat} {sp sc sq : Sl} {d : DIpc} {x : DPipe} {w : World} (hd : IpcAt w sp sc sq d) (hn : n = d.Next) (hx : d.Pipes[i]? = some x) (hwf : (Lit.int .i64 x.Readers).wf = true ∧ (Lit.int .i64 x.Writers).wf = true) : CallW Try.prog 52 #[.agg #[.int .i64 n, .slice sp.a sp.len sp.cap, .slice sc.a sc.len sc.cap, .slice sq.a sq.len sq.cap], .int .i64 (i : Int)] w (KB (PipeOk d i x) w) := by
  refine go52 ?_
  unfold W52
  have h := SH.start w
  have hl := hd.pipes.len
  have hf := hd.few
  have hil := (List.getElem?_eq_some_iff.1 hx).1
  obtain ⟨q, tq, hq, hc0, hc1, hc2, hc3, hby⟩ := hd.pipes.get i x hx
  have hbl := hby.len
  refine h.alloc (fun w1 h ew1 nw1 => ?_)
  refine ⟨sq, h.cell 0 rfl rfl, by omega, by omega, q, hq, ?_⟩
  rw [Int.toNat_natCast]
  refine ⟨_, h.ext.cell hc0, _, h.ext.cell hc1, _, h.ext.cell hc2, tq, h.ext.cell hc3, ?_⟩
  refine h.alloc (fun w8 h ew8 nw8 => ?_)
  refine h.put 0 rfl rfl rfl (fun w9 h nw9 => ?_)
  generalize w1.heap.size = cb at *
  have h := h.drew
  subst hn
  obtain ⟨J, hJJ⟩ : ∃ J : Bool → World → Prop, J = fun b w' => (b = false ↔ (1 ≤ x.Id ∧ x.Id ≤ d.Next ∧ (∀ z, 0 < i → d.Pipes[i - 1]? = some z → z.Id < x.Id) ∧ capIx d x.Id < 0 ∧ x.Data.length ≤ 512)) ∧ SH w w' [aB cb ([.int .i64 x.Id, .int .i64 x.Readers, .int .i64 x.Writers, .slice tq.a tq.len tq.cap].map Ce.v), aB w.heap.size ((ipcV d.Next sp sc sq).map Ce.v)] := ⟨_, rfl⟩
  have mkJ : ∀ b w', (b = false ↔ (1 ≤ x.Id ∧ x.Id ≤ d.Next ∧ (∀ z, 0 < i → d.Pipes[i - 1]? = some z → z.Id < x.Id) ∧ capIx d x.Id < 0 ∧ x.Data.length ≤ 512)) → SH w w' [aB cb ([.int .i64 x.Id, .int .i64 x.Readers, .int .i64 x.Writers, .slice tq.a tq.len tq.cap].map Ce.v), aB w.heap.size ((ipcV d.Next sp sc sq).map Ce.v)] → J b w' := fun b w' h1 h2 => by rw [hJJ]; exact ⟨h1, h2⟩
  refine JoinW.cut1 J ?_ ?_
  · refine ⟨_, h.cell 0 rfl rfl, BIf.dec (fun hb => mkJ _ _ ⟨(fun hh => by cases hh), fun hh => by omega⟩ h) (fun hb => ?_)⟩
    refine ⟨_, h.cell 0 rfl rfl, _, h.cell 1 rfl rfl, BIf.dec (fun hb2 => mkJ _ _ ⟨(fun hh => by cases hh), fun hh => by omega⟩ h) (fun hb2 => ?_)⟩
    have tail : ∀ (J : Bool → World → Prop), (∀ b w', (b = false ↔ capIx d x.Id < 0 ∧ x.Data.length ≤ 512) → SH w w' [aB cb ([.int .i64 x.Id, .int .i64 x.Readers, .int .i64 x.Writers, .slice tq.a tq.len tq.cap].map Ce.v), aB w.heap.size ((ipcV d.Next sp sc sq).map Ce.v)] → J b w') →
        ∃ n72 : Int, w9.drew.cell? ⟨w.heap.size, 0, none⟩ = some (.int .i64 n72) ∧ ∃ l73 : Sl, w9.drew.cell? ⟨w.heap.size, 1, none⟩ = some (.slice l73.a l73.len l73.cap) ∧ ∃ l74 : Sl, w9.drew.cell? ⟨w.heap.size, 2, none⟩ = some (.slice l74.a l74.len l74.cap) ∧ ∃ l75 : Sl, w9.drew.cell? ⟨w.heap.size, 3, none⟩ = some (.slice l75.a l75.len l75.cap) ∧ ∃ n76 : Int, w9.drew.cell? ⟨cb, 0, none⟩ = some (.int .i64 n76) ∧ CallW Try.prog 86 #[.agg #[.int .i64 n72, .slice l73.a l73.len l73.cap, .slice l74.a l74.len l74.cap, .slice l75.a l75.len l75.cap], .int .i64 n76] w9.drew fun v77 w78 => ∃ n79 : Int, v77 = .int .i64 n79 ∧ BIf (decide ((n79 : Int) ≥ 0)) (J true w78) (∃ l55 : Sl, w78.cell? ⟨cb, 3, none⟩ = some (.slice l55.a l55.len l55.cap) ∧ J (decide ((((l55.len : Nat) : Int) : Int) > 512)) w78) := by
      intro J hJ
      refine ⟨_, h.cell 1 rfl rfl, sp, h.cell 1 rfl rfl, sc, h.cell 1 rfl rfl, sq, h.cell 1 rfl rfl, _, h.cell 0 rfl rfl, (c86 (hd.ext h.ext)).mono ?_⟩
      rintro _ w78 ⟨rfl, e⟩
      have h := h.to e
      refine ⟨_, rfl, BIf.dec (fun hb4 => hJ _ _ ⟨(fun hh => by cases hh), fun hh => by omega⟩ h) (fun hb4 => ?_)⟩
      refine ⟨tq, h.cell 0 rfl rfl, hJ _ _ ?_ h⟩
      rw [decide_eq_false_iff_not]; omega
    refine BIf.dec (fun hi0 => ?_) (fun hi0 => ?_)
    · obtain ⟨z, hz⟩ : ∃ z, d.Pipes[i - 1]? = some z := ⟨_, List.getElem?_eq_getElem (by omega)⟩
      obtain ⟨q', _, hq', hc', _⟩ := hd.pipes.get _ z hz
      rw [w64 (n := (i : Int) - 1) (by omega) (by omega), show ((i : Int) - 1).toNat = i - 1 by omega]
      refine ⟨sq, h.cell 1 rfl rfl, by omega, by omega, q', hq', _, h.ext.cell hc', _, h.cell 0 rfl rfl, ?_⟩
      refine BIf.dec (fun hb3 => mkJ _ _ ⟨(fun hh => by cases hh), fun hh => by have := hh.2.2.1 z (by omega) hz; omega⟩ h) (fun hb3 => ?_)
      refine tail J (fun b w' hh hs => mkJ _ _ ?_ hs)
      rw [hh]
      exact ⟨fun hh => ⟨by omega, by omega, fun y _ hy => by rw [hz] at hy; cases hy; omega, hh⟩, fun hh => hh.2.2.2⟩
    · refine tail J (fun b w' hh hs => mkJ _ _ ?_ hs)
      rw [hh]
      exact ⟨fun hh => ⟨by omega, by omega, fun y hy _ => by omega, hh⟩, fun hh => hh.2.2.2⟩
  subst hJJ
  rintro (b : Bool) w12 ⟨hiff, h⟩
  refine BIf.of (fun hb => kb_f (fun hok => ?_) h.ext) (fun hb => ?_)
  · rw [hiff.2 ⟨hok.id1, hok.idN, hok.sorted, hok.noCap, hok.few⟩] at hb; cases hb
  obtain ⟨g1, g2, g3, g4, g5⟩ := hiff.1 hb
  refine ⟨_, h.cell 0 rfl rfl, ?_⟩
  refine join_and_ex x.Readers (h.cell 0 rfl rfl) ?_
  refine join_and_ex x.Writers (h.cell 0 rfl rfl) ?_
  refine join_and_ex x.Writers (h.cell 0 rfl rfl) ?_
  refine JoinW.cut1 (fun (b : Bool) w' => (b = true ↔ (0 ≤ x.Readers ∧ x.Readers ≤ 64) ∧ (0 ≤ x.Writers ∧ x.Writers ≤ 64) ∧ 0 < x.Readers + x.Writers) ∧ w' = w12) ?_ ?_
  · refine BIf.of (fun hc => ⟨_, h.cell 0 rfl rfl, _, h.cell 0 rfl rfl, ?_, rfl⟩) (fun hc => ⟨⟨(fun hh => by cases hh), fun hh => ?_⟩, rfl⟩)
    · simp only [Bool.and_eq_true, decide_eq_true_eq] at hc
      rw [decide_eq_true_eq, w64 (by omega) (by omega)]; omega
    · simp only [Bool.and_eq_false_iff, decide_eq_false_iff_not] at hc; omega
  rintro (b2 : Bool) w25 ⟨hb2, rfl⟩
  refine ⟨_, rfl, ?_, h.ext⟩
  rw [hb2]
  exact ⟨fun hh => ⟨g1, g2, g3, g4, g5, hh.1, hh.2.1, hh.2.2⟩, fun hok => ⟨hok.r, hok.w, hok.pos⟩⟩
theorem c10 {sp sc sq : Sl} {d : DIpc} {w : World} (hd : IpcAt w sp sc sq d) (hwf : ∀ x, x ∈ d.Pipes → (Lit.int .i64 x.Readers).wf = true ∧ (Lit.int .i64 x.Writers).wf = true) : CallW Try.prog 10 #[.agg #[.int .i64 d.Next, .slice sp.a sp.len sp.cap, .slice sc.a sc.len sc.cap, .slice sq.a sq.len sq.cap]] w (KB (IOk d) w) := by
  refine go10 ?_
  unfold W10
  have h := SH.start w
  have hpl := hd.ports.len
  have hcl := hd.caps.len
  have hql := hd.pipes.len
  have hf := hd.few
  have hcf := hd.caps.few
  refine h.alloc (fun w1 h ew1 nw1 => ?_)
  refine ⟨_, h.cell 0 rfl rfl, c49.mono ?_⟩
  rintro _ w4 ⟨rfl, rfl⟩
  refine ⟨_, rfl, ?_⟩
  refine join_or_ex sc (h.cell 0 rfl rfl) ?_
  refine join_or_ex sp (h.cell 0 rfl rfl) ?_
  refine join_or_ex sq (h.cell 0 rfl rfl) ?_
  rw [hpl, hcl, hql]
  refine BIf.of (fun hc => kb_f (fun hok => ?_) h.ext) (fun hc => ?_)
  · have g1 := hok.next; have g2 := hok.caps; have g3 := hok.ports; have g4 := hok.pipes
    simp only [Bool.or_eq_true, Bool.not_eq_true', Bool.and_eq_false_iff, decide_eq_false_iff_not, decide_eq_true_eq] at hc
    omega
  have hc : (0 ≤ d.Next ∧ d.Next ≤ 1099511627776) ∧ d.Caps.length ≤ 128 ∧ d.Ports.length ≤ 32 ∧ d.Pipes.length ≤ 32 := by
    simp only [Bool.or_eq_false_iff, Bool.not_eq_false', Bool.and_eq_true, decide_eq_false_iff_not, decide_eq_true_eq] at hc
    omega
  obtain ⟨g1, g2, g3, g4⟩ := hc
  refine LoopW.m1 (fun (i : Int) w' => ∃ k : Nat, i = k ∧ k ≤ d.Caps.length ∧ (∀ j y, j < k → d.Caps[j]? = some y → CapOk d j y) ∧ SH w w' [aB w.heap.size ((ipcV d.Next sp sc sq).map Ce.v)]) (fun (i : Int) _ => ((d.Caps.length : Int) - i).toNat) ⟨0, rfl, by omega, (fun j y hj => by omega), h⟩ ?_
  rintro (i : Int) w17 ⟨k, rfl, hk, hall, h⟩ J hJ
  refine ⟨sc, h.cell 0 rfl rfl, ?_⟩
  rw [hcl]
  refine BIf.dec (fun hlt => ?_) (fun hge => ?_)
  · obtain ⟨y, hy⟩ : ∃ y, d.Caps[k]? = some y := ⟨_, List.getElem?_eq_getElem (by omega)⟩
    refine ⟨_, h.cell 0 rfl rfl, sp, h.cell 0 rfl rfl, sc, h.cell 0 rfl rfl, sq, h.cell 0 rfl rfl, (c50 (hd.ext h.ext) rfl hy).mono ?_⟩
    rintro _ w24 ⟨b, rfl, hiff, e⟩
    have h := h.to e
    refine ⟨_, rfl, BIf.of (fun hb => kb_f (fun hok => ?_) h.ext) (fun hb => ?_)⟩
    · rw [hiff.2 (hok.cap k y hy)] at hb; cases hb
    rw [w64 (by omega) (by omega)]
    refine hJ _ _ ⟨k + 1, by omega, by omega, fun j z hj hz => ?_, h⟩ (by omega)
    by_cases hjk : j = k
    · subst hjk; rw [hy] at hz; cases hz; exact hiff.1 (by simpa using hb)
    · exact hall j z (by omega) hz
  have hcaps : ∀ j y, d.Caps[j]? = some y → CapOk d j y := fun j y hy => hall j y (by have := (List.getElem?_eq_some_iff.1 hy).1; omega) hy
  clear hJ J
  refine LoopW.m1 (fun (i : Int) w' => ∃ k : Nat, i = k ∧ k ≤ d.Ports.length ∧ (∀ j y, j < k → d.Ports[j]? = some y → PortOk d j y) ∧ SH w w' [aB w.heap.size ((ipcV d.Next sp sc sq).map Ce.v)]) (fun (i : Int) _ => ((d.Ports.length : Int) - i).toNat) ⟨0, rfl, by omega, (fun j y hj => by omega), h⟩ ?_
  rintro (i : Int) w28 ⟨k2, rfl, hk2, hall2, h⟩ J hJ
  refine ⟨sp, h.cell 0 rfl rfl, ?_⟩
  rw [hpl]
  refine BIf.dec (fun hlt => ?_) (fun hge2 => ?_)
  · obtain ⟨y, hy⟩ : ∃ y, d.Ports[k2]? = some y := ⟨_, List.getElem?_eq_getElem (by omega)⟩
    refine ⟨_, h.cell 0 rfl rfl, sp, h.cell 0 rfl rfl, sc, h.cell 0 rfl rfl, sq, h.cell 0 rfl rfl, (c51 (hd.ext h.ext) rfl hy).mono ?_⟩
    rintro _ w24 ⟨b, rfl, hiff, e⟩
    have h := h.to e
    refine ⟨_, rfl, BIf.of (fun hb => kb_f (fun hok => ?_) h.ext) (fun hb => ?_)⟩
    · rw [hiff.2 (hok.port k2 y hy)] at hb; cases hb
    rw [w64 (by omega) (by omega)]
    refine hJ _ _ ⟨k2 + 1, by omega, by omega, fun j z hj hz => ?_, h⟩ (by omega)
    by_cases hjk : j = k2
    · subst hjk; rw [hy] at hz; cases hz; exact hiff.1 (by simpa using hb)
    · exact hall2 j z (by omega) hz
  have hports : ∀ j y, d.Ports[j]? = some y → PortOk d j y := fun j y hy => hall2 j y (by have := (List.getElem?_eq_some_iff.1 hy).1; omega) hy
  clear hJ J
  refine LoopW.m1 (fun (i : Int) w' => ∃ k : Nat, i = k ∧ k ≤ d.Pipes.length ∧ (∀ j y, j < k → d.Pipes[j]? = some y → PipeOk d j y) ∧ SH w w' [aB w.heap.size ((ipcV d.Next sp sc sq).map Ce.v)]) (fun (i : Int) _ => ((d.Pipes.length : Int) - i).toNat) ⟨0, rfl, by omega, (fun j y hj => by omega), h⟩ ?_
  rintro (i : Int) w39 ⟨k3, rfl, hk3, hall3, h⟩ J hJ
  refine ⟨sq, h.cell 0 rfl rfl, ?_⟩
  rw [hql]
  refine BIf.dec (fun hlt => ?_) (fun hge3 => ?_)
  · obtain ⟨y, hy⟩ : ∃ y, d.Pipes[k3]? = some y := ⟨_, List.getElem?_eq_getElem (by omega)⟩
    refine ⟨_, h.cell 0 rfl rfl, sp, h.cell 0 rfl rfl, sc, h.cell 0 rfl rfl, sq, h.cell 0 rfl rfl, (c52 (hd.ext h.ext) rfl hy (hwf y (List.mem_of_getElem? hy))).mono ?_⟩
    rintro _ w24 ⟨b, rfl, hiff, e⟩
    have h := h.to e
    refine ⟨_, rfl, BIf.of (fun hb => kb_f (fun hok => ?_) h.ext) (fun hb => ?_)⟩
    · rw [hiff.2 (hok.pipe k3 y hy)] at hb; cases hb
    rw [w64 (by omega) (by omega)]
    refine hJ _ _ ⟨k3 + 1, by omega, by omega, fun j z hj hz => ?_, h⟩ (by omega)
    by_cases hjk : j = k3
    · subst hjk; rw [hy] at hz; cases hz; exact hiff.1 (by simpa using hb)
    · exact hall3 j z (by omega) hz
  exact kb_t ⟨g1, g2, g3, g4, hcaps, hports, fun j y hy => hall3 j y (by have := (List.getElem?_eq_some_iff.1 hy).1; omega) hy⟩ h.ext
end Go.Proofs.Ytbimoajgofcmbaa

/- Ports and capabilities: when a state can be, the program's side. Conditions: none. -/
set_option linter.unusedVariables false
set_option linter.unusedSimpArgs false
namespace Go.Proofs.Ytbimoajgofcmbaa
open Go Go.Den
def okId (last id n : Int) (ks : List Int) : Bool := ((decide (id > last) && decide (id ≥ 1)) && decide (id ≤ n)) && !decide (id ∈ ks)
theorem join_and_ex1 {α : Type} {c : Bool} {P : α → Prop} {R : (Bool → World → Prop) → α → Prop} {r : Bool} {w : World} {k : Bool → World → Prop} (n : α) (hn : P n) (hr : ∀ J : Bool → World → Prop, J r w → R J n) (h : k (c && r) w) : JoinW [.bool] (fun J => BIf c (∃ n, P n ∧ R J n) (J false w)) k := by
  refine ⟨k, fun _ _ h => h, ?_⟩
  cases c
  · exact h
  · exact ⟨n, hn, hr k h⟩
theorem c56 {w0 w : World} {As : List Asr} {a m t s lb mc mb sb : Nat} {last id n : Int} {ks : List Int} {sp sc sq : Sl} (h : SH w0 w As) (hl : As[a]? = some (aB lb ([.int .i64 last].map Ce.v))) (hm : As[m]? = some (aB mc ([.map (some mb)].map Ce.v))) (ht : As[t]? = some (aSet mb ks)) (hs : As[s]? = some (aB sb ((ipcV n sp sc sq).map Ce.v))) (hat : a ≠ t) :
    CallW Try.prog 56 #[.pointer (some ⟨lb, 0, none⟩), .int .i64 id, .pointer (some ⟨sb, 0, none⟩), .pointer (some ⟨mc, 0, none⟩)] w (fun v w' => v = .bool (okId last id n ks) ∧ SH w0 w' ((As.set t (aSet mb (insK ks id))).set a (aB lb ([.int .i64 id].map Ce.v)))) := by
  refine go56 ?_
  unfold W56
  refine ⟨_, rfl, _, h.cell a hl rfl, ?_⟩
  simp only [join_and]
  refine join_and_ex n (h.cell s hs rfl) ?_
  refine join_and_ex1 (r := !decide (id ∈ ks)) (some mb) (h.cell m hm rfl) (fun J hJ => ?_) ?_
  · exact h.getSet t ht id (fun o ho => ⟨_, ho, hJ⟩)
  refine ⟨some mb, h.cell m hm rfl, ?_⟩
  refine h.putSet t ht id (fun w13 h nw13 => ?_)
  have hl' : (As.set t (aSet mb (insK ks id)))[a]? = some (aB lb ([.int .i64 last].map Ce.v)) := by rw [List.getElem?_set_ne (by omega)]; exact hl
  refine ⟨_, rfl, h.setV a hl' rfl (fun w15 h nw15 => ?_)⟩
  exact ⟨rfl, h⟩
/-! ## The program's own conditions -/
structure CapI (d : DIpc) (i : Nat) (c : DCap) : Prop where
  id1 : 1 ≤ c.Id
  idN : c.Id ≤ d.Next
  sorted : ∀ z, 0 < i → d.Caps[i - 1]? = some z → z.Id < c.Id
  hold : 0 ≤ c.Holder ∧ c.Holder < 64
  r1 : 1 ≤ c.Rights
  r7 : c.Rights ≤ 7
  port : 0 ≤ portIx d c.Port
  par : c.Parent = 0 ∨ ∃ (k : Nat) (p : DCap), capIx d c.Parent = k ∧ d.Caps[k]? = some p ∧ p.Port = c.Port ∧ p.Id < c.Id ∧ andI .i64 p.Rights c.Rights = c.Rights
structure PortI (d : DIpc) (i : Nat) (p : DPort) : Prop where
  id1 : 1 ≤ p.Id
  idN : p.Id ≤ d.Next
  sorted : ∀ z, 0 < i → d.Ports[i - 1]? = some z → z.Id < p.Id
  few : p.Queue.length ≤ 8
  noCap : ∀ c, c ∈ d.Caps → c.Id ≠ p.Id
  msgs : ∀ m, m ∈ p.Queue → MsgOk d m
  some_ : ∃ c, c ∈ d.Caps ∧ c.Port = p.Id
structure PipeI (d : DIpc) (i : Nat) (p : DPipe) : Prop where
  id1 : 1 ≤ p.Id
  idN : p.Id ≤ d.Next
  sorted : ∀ z, 0 < i → d.Pipes[i - 1]? = some z → z.Id < p.Id
  noCap : ∀ c, c ∈ d.Caps → c.Id ≠ p.Id
  noPort : ∀ c, c ∈ d.Ports → c.Id ≠ p.Id
  few : p.Data.length ≤ 512
  r : 0 ≤ p.Readers ∧ p.Readers ≤ 64
  w : 0 ≤ p.Writers ∧ p.Writers ≤ 64
  pos : 0 < p.Readers + p.Writers
theorem idx_neg {α : Type} {p : α → Bool} {l : List α} : idxFrom p l 0 < 0 ↔ ∀ x, x ∈ l → p x = false := by
  rcases idx_cases p l with ⟨h1, h2⟩ | ⟨k, x, h1, h2, h3, _⟩
  · exact ⟨fun _ => h2, fun _ => by omega⟩
  · refine ⟨fun h => by omega, fun h => ?_⟩
    rw [h x (List.mem_of_getElem? h2)] at h3; cases h3
theorem capIx_neg {d : DIpc} {id : Int} : capIx d id < 0 ↔ ∀ c, c ∈ d.Caps → c.Id ≠ id := by
  unfold capIx; rw [idx_neg]; simp
theorem pipeIx_neg {d : DIpc} {id : Int} : pipeIx d id < 0 ↔ ∀ c, c ∈ d.Pipes → c.Id ≠ id := by
  unfold pipeIx; rw [idx_neg]; simp
theorem ix_id {d : DIpc} {id : Int} {k : Nat} {p : DCap} (h : capIx d id = k) (hp : d.Caps[k]? = some p) : p.Id = id := by
  unfold capIx at h
  rcases idx_cases (fun c : DCap => c.Id == id) d.Caps with ⟨h1, _⟩ | ⟨k', x, h1, h2, h3, _⟩
  · omega
  · obtain rfl : k = k' := by omega
    rw [hp] at h2; cases h2; simpa using h3
theorem capI_of {d : DIpc} (h : ∀ i c, d.Caps[i]? = some c → CapOk d i c) : ∀ i c, d.Caps[i]? = some c → CapI d i c := fun i c hc => by
  have g := h i c hc
  refine ⟨g.id1, g.idN, g.sorted, g.hold, g.r1, g.r7, g.port, ?_⟩
  rcases g.par with h0 | ⟨k, p, hp⟩
  · exact .inl h0
  · have gp := h k p hp.at_
    have := among_eq g.r1 g.r7 gp.r1 gp.r7
    rw [hp.am] at this
    exact .inr ⟨k, p, hp.ix, hp.at_, hp.port, by rw [ix_id hp.ix hp.at_]; exact hp.lt, by simpa using this⟩
theorem capOk_of {d : DIpc} (h : ∀ i c, d.Caps[i]? = some c → CapI d i c) : ∀ i c, d.Caps[i]? = some c → CapOk d i c := fun i c hc => by
  have g := h i c hc
  refine ⟨g.id1, g.idN, g.sorted, g.hold, g.r1, g.r7, g.port, ?_⟩
  rcases g.par with h0 | ⟨k, p, h1, h2, h3, h4, h5⟩
  · exact .inl h0
  · have gp := h k p h2
    have := among_eq g.r1 g.r7 gp.r1 gp.r7
    rw [h5] at this
    exact .inr ⟨k, p, h1, h2, by rw [← ix_id h1 h2]; exact h4, h3, by simpa using this⟩
theorem portI_of {d : DIpc} (h : IOk d) : ∀ i p, d.Ports[i]? = some p → PortI d i p := fun i p hp => by
  have g := h.port i p hp
  exact ⟨g.id1, g.idN, g.sorted, g.few, capIx_neg.1 g.noCap, g.msgs, g.some_⟩
theorem pipeI_of {d : DIpc} (h : IOk d) : ∀ i p, d.Pipes[i]? = some p → PipeI d i p := fun i p hp => by
  have g := h.pipe i p hp
  refine ⟨g.id1, g.idN, g.sorted, capIx_neg.1 g.noCap, fun c hc he => ?_, g.few, g.r, g.w, g.pos⟩
  obtain ⟨j, hj, rfl⟩ := List.getElem_of_mem hc
  have := (h.port j _ (List.getElem?_eq_getElem hj)).noPipe
  exact pipeIx_neg.1 this p (List.mem_of_getElem? hp) he.symm
theorem IOk_of {d : DIpc} (h1 : 0 ≤ d.Next ∧ d.Next ≤ 1099511627776) (h2 : d.Caps.length ≤ 128) (h3 : d.Ports.length ≤ 32) (h4 : d.Pipes.length ≤ 32) (hc : ∀ i c, d.Caps[i]? = some c → CapI d i c) (hp : ∀ i p, d.Ports[i]? = some p → PortI d i p) (hq : ∀ i p, d.Pipes[i]? = some p → PipeI d i p) : IOk d := by
  refine ⟨h1, h2, h3, h4, capOk_of hc, fun i p hi => ?_, fun i p hi => ?_⟩
  · have g := hp i p hi
    refine ⟨g.id1, g.idN, g.sorted, g.few, capIx_neg.2 g.noCap, pipeIx_neg.2 (fun c hcm he => ?_), g.msgs, g.some_⟩
    obtain ⟨j, hj, rfl⟩ := List.getElem_of_mem hcm
    exact (hq j _ (List.getElem?_eq_getElem hj)).noPort p (List.mem_of_getElem? hi) he.symm
  · have g := hq i p hi
    exact ⟨g.id1, g.idN, g.sorted, capIx_neg.2 g.noCap, g.few, g.r, g.w, g.pos⟩
theorem port_some {d : DIpc} {sp : Sl} {w : World} {id : Int} (h : PortsAt w sp d.Ports) : Option.isNone (ptrE sp 2 (portIx d id)) = decide (portIx d id < 0) := by
  refine ptrE_none (fun h0 => ?_)
  obtain ⟨k, x, _, hx, _⟩ := idx_get (p := fun c : DPort => c.Id == id) (l := d.Ports) h0
  obtain ⟨q, _, hq, _⟩ := h.get k x hx
  rw [hq]; simp
theorem cap_some {d : DIpc} {sp sc sq : Sl} {w : World} {id : Int} (h : IpcAt w sp sc sq d) : Option.isNone (ptrE sc 5 (capIx d id)) = decide (capIx d id < 0) := by
  refine ptrE_none (fun h0 => ?_)
  obtain ⟨k, x, _, hx, _⟩ := idx_get (p := fun c : DCap => c.Id == id) (l := d.Caps) h0
  obtain ⟨q, hq, _⟩ := h.caps.get (by omega) hx
  rw [hq]; simp
/-- What has been seen. -/
def Seen (ks : List Int) (P : Int → Prop) : Prop := ∀ x, x ∈ ks ↔ P x
theorem seen_ins {ks : List Int} {P Q : Int → Prop} {n : Int} (h : Seen ks P) (hq : ∀ x, Q x ↔ P x ∨ x = n) : Seen (insK ks n) Q := fun x => by rw [mem_insK, h x, hq]
structure LastI {α : Type} (f : α → Int) (l : List α) (k : Nat) (last : Int) : Prop where
  z : k = 0 → last = 0
  prev : ∀ y, 0 < k → l[k - 1]? = some y → last = f y
  le : ∀ j y, j < k → l[j]? = some y → f y ≤ last
theorem LastI.step {α : Type} {f : α → Int} {l : List α} {k : Nat} {last : Int} {x : α} (h : LastI f l k last) (hx : l[k]? = some x) (hlt : last < f x) : LastI f l (k + 1) (f x) :=
  ⟨by omega, (fun y _ hy => by rw [Nat.add_sub_cancel, hx] at hy; cases hy; rfl), fun j y hj hy => by
    by_cases hjk : j = k
    · subst hjk; rw [hx] at hy; cases hy; exact Int.le_refl _
    · have := h.le j y (by omega) hy; omega⟩
theorem LastI.sorted {α : Type} {f : α → Int} {l : List α} {k : Nat} {last id : Int} (h : LastI f l k last) (hk : k ≤ l.length) (h1 : 1 ≤ id) : (last < id) ↔ ∀ z, 0 < k → l[k - 1]? = some z → f z < id := by
  constructor
  · intro hlt z hk hz; have := h.prev z hk hz; omega
  · intro hh
    rcases Nat.eq_zero_or_pos k with h0 | h0
    · rw [h.z h0]; omega
    · obtain ⟨y, hy⟩ : ∃ y, l[k - 1]? = some y := ⟨_, List.getElem?_eq_getElem (by omega)⟩
      rw [h.prev y h0 hy]; exact hh y h0 hy
end Go.Proofs.Ytbimoajgofcmbaa

/- Ports and capabilities: when a state can be, the program's check. Conditions: none. -/
set_option linter.unusedVariables false
set_option linter.unusedSimpArgs false
namespace Go.Proofs.Ytbimoajgofcmbaa
open Go Go.Den
theorem okId_iff {last id n : Int} {ks : List Int} : okId last id n ks = true ↔ last < id ∧ 1 ≤ id ∧ id ≤ n ∧ id ∉ ks := by
  unfold okId
  simp only [Bool.and_eq_true, Bool.not_eq_true', decide_eq_true_eq, decide_eq_false_iff_not]
  constructor
  · rintro ⟨⟨⟨h1, h2⟩, h3⟩, h4⟩; exact ⟨by omega, by omega, by omega, h4⟩
  · rintro ⟨h1, h2, h3, h4⟩; exact ⟨⟨⟨by omega, by omega⟩, by omega⟩, h4⟩
theorem okId_no {last id n : Int} {ks : List Int} : okId last id n ks = false ↔ ¬ (last < id ∧ 1 ≤ id ∧ id ≤ n ∧ id ∉ ks) := by rw [← okId_iff]; simp
def SeenC (d : DIpc) (k : Nat) (x : Int) : Prop := ∃ j y, j < k ∧ d.Caps[j]? = some y ∧ y.Id = x
def SeenP (d : DIpc) (k : Nat) (x : Int) : Prop := (∃ c, c ∈ d.Caps ∧ c.Id = x) ∨ ∃ j y, j < k ∧ d.Ports[j]? = some y ∧ y.Id = x
def SeenQ (d : DIpc) (k : Nat) (x : Int) : Prop := (∃ c, c ∈ d.Caps ∧ c.Id = x) ∨ (∃ c, c ∈ d.Ports ∧ c.Id = x) ∨ ∃ j y, j < k ∧ d.Pipes[j]? = some y ∧ y.Id = x
theorem all_snoc {α : Type} {l : List α} {k : Nat} {x : α} {P : Nat → α → Prop} (h : ∀ j y, j < k → l[j]? = some y → P j y) (hx : l[k]? = some x) (hp : P k x) : ∀ j y, j < k + 1 → l[j]? = some y → P j y := fun j y hj hy => by
  by_cases hjk : j = k
  · subst hjk; rw [hx] at hy; cases hy; exact hp
  · exact h j y (by omega) hy
set_option maxRecDepth 2000 in
theorem c12 {sp sc sq : Sl} {d : DIpc} {w : World} (hd : IpcAt w sp sc sq d) (hwf : ∀ x, x ∈ d.Pipes → (Lit.int .i64 x.Readers).wf = true ∧ (Lit.int .i64 x.Writers).wf = true) : CallW Try.prog 12 #[.agg #[.int .i64 d.Next, .slice sp.a sp.len sp.cap, .slice sc.a sc.len sc.cap, .slice sq.a sq.len sq.cap]] w (KB (IOk d) w) := by
  refine go12 ?_
  unfold W12
  have h := SH.start w
  have hpl := hd.ports.len
  have hcl := hd.caps.len
  have hql := hd.pipes.len
  have hf := hd.few
  have hcf := hd.caps.few
  refine h.alloc (fun w1 h ew1 nw1 => ?_)
  generalize w.heap.size = sb at *
  have h : SH w w1 [aB sb ((ipcV d.Next sp sc sq).map Ce.v)] := h
  refine ⟨_, h.cell 0 rfl rfl, ?_⟩
  refine join_or_ex d.Next (h.cell 0 rfl rfl) ?_
  refine join_or_ex sc (h.cell 0 rfl rfl) ?_
  refine join_or_ex sp (h.cell 0 rfl rfl) ?_
  refine join_or_ex sq (h.cell 0 rfl rfl) ?_
  rw [hpl, hcl, hql]
  refine BIf.of (fun hc => kb_f (fun hok => ?_) h.ext) (fun hc => ?_)
  · have g1 := hok.next; have g2 := hok.caps; have g3 := hok.ports; have g4 := hok.pipes
    simp only [Bool.or_eq_true, decide_eq_true_eq] at hc
    omega
  have hc : (0 ≤ d.Next ∧ d.Next ≤ 1099511627776) ∧ d.Caps.length ≤ 128 ∧ d.Ports.length ≤ 32 ∧ d.Pipes.length ≤ 32 := by
    simp only [Bool.or_eq_false_iff, decide_eq_false_iff_not] at hc
    omega
  obtain ⟨g1, g2, g3, g4⟩ := hc
  refine h.newMap (fun w15 h nw15 => ?_)
  generalize w1.heap.size = mb at *
  refine h.alloc (fun w16 h ew16 nw16 => ?_)
  generalize w15.heap.size = mc at *
  refine h.setV 0 rfl rfl (fun w17 h nw17 => ?_)
  refine h.alloc (fun w18 h ew18 nw18 => ?_)
  generalize w17.heap.size = lb at *
  refine h.setV 0 rfl rfl (fun w19 h nw19 => ?_)
  have h : SH w w19 [aB lb ([.int .i64 0].map Ce.v), aB mc ([.map (some mb)].map Ce.v), aSet mb [], aB sb ((ipcV d.Next sp sc sq).map Ce.v)] := h
  refine ⟨sc, h.cell 3 rfl rfl, ?_⟩
  refine LoopW.m1 (fun (i : Int) w' => ∃ (k : Nat) (last : Int) (ks : List Int), i = k ∧ k ≤ d.Caps.length ∧ LastI DCap.Id d.Caps k last ∧ Seen ks (SeenC d k) ∧ (∀ j y, j < k → d.Caps[j]? = some y → CapI d j y) ∧ SH w w' [aB lb ([.int .i64 last].map Ce.v), aB mc ([.map (some mb)].map Ce.v), aSet mb ks, aB sb ((ipcV d.Next sp sc sq).map Ce.v)]) (fun (i : Int) _ => ((d.Caps.length : Int) - i).toNat) ⟨0, 0, [], rfl, by omega, ⟨fun _ => rfl, (fun y h0 => by omega), (fun j y hj => by omega)⟩, (fun x => ⟨(fun hx => by cases hx), (fun ⟨j, y, hj, _⟩ => by omega)⟩), (fun j y hj => by omega), h⟩ ?_
  rintro (i : Int) w23 ⟨k, last, ks, rfl, hk, hlast, hseen, hall, h⟩ J hJ
  rw [hcl]
  refine BIf.dec (fun hlt => ?_) (fun hge => ?_)
  · obtain ⟨x, hx⟩ : ∃ x, d.Caps[k]? = some x := ⟨_, List.getElem?_eq_getElem (by omega)⟩
    obtain ⟨q, hq, hcc⟩ := hd.caps.get (by omega) hx
    refine ⟨by omega, by omega, q, hq, ?_⟩
    rw [Int.toNat_natCast]
    refine ⟨_, h.ext.cell (hcc 0 _ rfl), _, h.ext.cell (hcc 1 _ rfl), _, h.ext.cell (hcc 2 _ rfl), _, h.ext.cell (hcc 3 _ rfl), _, h.ext.cell (hcc 4 _ rfl), ?_⟩
    refine h.alloc (fun w30 h ew30 nw30 => ?_)
    refine h.put 0 rfl rfl rfl (fun w31 h nw31 => ?_)
    generalize w23.heap.size = cb at *
    refine ⟨_, h.cell 0 rfl rfl, (c56 h (a := 1) (m := 2) (t := 3) (s := 4) rfl rfl rfl rfl (by omega)).mono ?_⟩
    rintro _ w34 ⟨rfl, h⟩
    have h : SH w w34 [aB cb (x.cells.map Ce.v), aB lb ([.int .i64 x.Id].map Ce.v), aB mc ([.map (some mb)].map Ce.v), aSet mb (insK ks x.Id), aB sb ((ipcV d.Next sp sc sq).map Ce.v)] := h
    refine ⟨_, rfl, ?_⟩
    refine join_or_callR x.Holder (h.cell 0 rfl rfl) c57 ?_
    refine join_or_callP x.Port (h.cell 0 rfl rfl) (c58 (h.cell 4 rfl rfl) (hd.ext h.ext)) ?_
    refine join_or_ex x.Rights (h.cell 0 rfl rfl) ?_
    refine join_or_ex x.Rights (h.cell 0 rfl rfl) ?_
    rw [port_some hd.ports]
    have hiff : (((((!okId last x.Id d.Next ks) || !(decide (x.Holder ≥ 0) && decide (x.Holder < 64))) || decide (portIx d x.Port < 0)) || decide (x.Rights < 1)) || decide (x.Rights > 7)) = false ↔ 1 ≤ x.Id ∧ x.Id ≤ d.Next ∧ (∀ z, 0 < k → d.Caps[k - 1]? = some z → z.Id < x.Id) ∧ (0 ≤ x.Holder ∧ x.Holder < 64) ∧ 1 ≤ x.Rights ∧ x.Rights ≤ 7 ∧ 0 ≤ portIx d x.Port := by
      simp only [Bool.or_eq_false_iff, Bool.not_eq_false', Bool.and_eq_true, decide_eq_true_eq, decide_eq_false_iff_not, okId_iff]
      constructor
      · rintro ⟨⟨⟨⟨⟨a1, a2, a3, a4⟩, a5⟩, a6⟩, a7⟩, a8⟩
        exact ⟨a2, a3, (hlast.sorted hk a2).1 a1, by omega, by omega, by omega, by omega⟩
      · rintro ⟨a2, a3, a1, a5, a7, a8, a6⟩
        have hlt := (hlast.sorted hk a2).2 a1
        refine ⟨⟨⟨⟨⟨hlt, a2, a3, fun hm => ?_⟩, by omega⟩, by omega⟩, by omega⟩, by omega⟩
        obtain ⟨j, y, hj, hy, he⟩ := (hseen _).1 hm
        have := hlast.le j y hj hy; omega
    refine BIf.of (fun hb => kb_f (fun hok => ?_) h.ext) (fun hb => ?_)
    · have g := capI_of hok.cap k x hx
      rw [hiff.2 ⟨g.id1, g.idN, g.sorted, g.hold, g.r1, g.r7, g.port⟩] at hb; cases hb
    obtain ⟨a1, a2, a3, a4, a5, a6, a7⟩ := hiff.1 hb
    have hseen' : Seen (insK ks x.Id) (SeenC d (k + 1)) := seen_ins hseen (fun y => by
      constructor
      · rintro ⟨j, z, hj, hz, he⟩
        by_cases hjk : j = k
        · subst hjk; rw [hx] at hz; cases hz; exact .inr he.symm
        · exact .inl ⟨j, z, by omega, hz, he⟩
      · rintro (⟨j, z, hj, hz, he⟩ | rfl)
        · exact ⟨j, z, by omega, hz, he⟩
        · exact ⟨k, x, by omega, hx, rfl⟩)
    have next : ∀ w', CapI d k x → SH w w' [aB cb (x.cells.map Ce.v), aB lb ([.int .i64 x.Id].map Ce.v), aB mc ([.map (some mb)].map Ce.v), aSet mb (insK ks x.Id), aB sb ((ipcV d.Next sp sc sq).map Ce.v)] → J (IntKind.i64.wrap ((k : Int) + 1)) w' := fun w' hci hs => by
      rw [w64 (by omega) (by omega)]
      exact hJ _ _ ⟨k + 1, x.Id, _, by omega, by omega, hlast.step hx ((hlast.sorted hk a1).2 a3), hseen', all_snoc hall hx hci, hs.drop⟩ (by omega)
    refine ⟨_, h.cell 0 rfl rfl, BIf.ne (fun h0 => ?_) (fun h0 => next _ ⟨a1, a2, a3, a4, a5, a6, a7, .inl h0⟩ h)⟩
    refine ⟨_, h.cell 0 rfl rfl, (c59 (h.cell 4 rfl rfl) (hd.ext h.ext)).mono ?_⟩
    rintro _ w51 ⟨rfl, rfl⟩
    refine ⟨_, rfl, ?_⟩
    have h := h.drew
    obtain ⟨J54, hJ54⟩ : ∃ J54 : Bool → World → Prop, J54 = fun b w' => (b = false ↔ ∃ (j : Nat) (p : DCap), capIx d x.Parent = j ∧ d.Caps[j]? = some p ∧ p.Port = x.Port ∧ p.Id < x.Id ∧ andI .i64 p.Rights x.Rights = x.Rights) ∧ w' = w51.drew := ⟨_, rfl⟩
    have mk : ∀ b : Bool, (b = false ↔ ∃ (j : Nat) (p : DCap), capIx d x.Parent = j ∧ d.Caps[j]? = some p ∧ p.Port = x.Port ∧ p.Id < x.Id ∧ andI .i64 p.Rights x.Rights = x.Rights) → J54 b w51.drew := fun b hb => by rw [hJ54]; exact ⟨hb, rfl⟩
    refine JoinW.cut1 J54 ?_ ?_
    · refine BIf.of (fun hn => mk _ ⟨(fun hh => by cases hh), fun ⟨j, p, hj, _⟩ => ?_⟩) (fun hn => ?_)
      · rw [cap_some hd, decide_eq_true_eq] at hn; omega
      rw [cap_some hd, decide_eq_false_iff_not] at hn
      obtain ⟨j, p, hj, hp, _⟩ := idx_get (p := fun c : DCap => c.Id == x.Parent) (l := d.Caps) (show 0 ≤ capIx d x.Parent by omega)
      have hj : capIx d x.Parent = j := hj
      obtain ⟨q', hq', hc'⟩ := hd.caps.get (by omega) hp
      rw [hj, ptrE_at hq']
      have uniq : ∀ {j' : Nat} {p' : DCap}, capIx d x.Parent = j' → d.Caps[j']? = some p' → p' = p := fun {j' p'} h1 h2 => by
        obtain rfl : j = j' := by omega
        rw [hp] at h2; cases h2; rfl
      refine ⟨_, rfl, _, h.ext.cell (hc' 2 _ rfl), _, h.cell 0 rfl rfl, ?_⟩
      refine BIf.ne (fun hne => mk _ ⟨(fun hh => by cases hh), fun ⟨j', p', b1, b2, b3, _⟩ => ?_⟩) (fun he => ?_)
      · rw [uniq b1 b2] at b3; exact (hne b3).elim
      refine ⟨_, rfl, _, h.ext.cell (hc' 0 _ rfl), _, h.cell 0 rfl rfl, ?_⟩
      refine BIf.dec (fun hge => mk _ ⟨(fun hh => by cases hh), fun ⟨j', p', b1, b2, b3, b4, _⟩ => ?_⟩) (fun hlt2 => ?_)
      · rw [uniq b1 b2] at b4; omega
      refine ⟨_, rfl, _, h.ext.cell (hc' 3 _ rfl), _, h.cell 0 rfl rfl, _, h.cell 0 rfl rfl, ?_⟩
      refine mk _ ?_
      simp only [bne_eq_false_iff_eq]
      constructor
      · intro hh; exact ⟨j, p, hj, hp, he, by omega, hh⟩
      · rintro ⟨j', p', b1, b2, b3, b4, b5⟩
        rw [uniq b1 b2] at b5; exact b5
    subst hJ54
    rintro (b53 : Bool) w55 ⟨hpi, rfl⟩
    refine BIf.of (fun hb => kb_f (fun hok => ?_) h.ext) (fun hb => next _ ⟨a1, a2, a3, a4, a5, a6, a7, .inr (hpi.1 hb)⟩ h)
    rcases (capI_of hok.cap k x hx).par with h0' | hpar
    · exact h0 h0'
    · rw [hpi.2 hpar] at hb; cases hb
  have hcaps : ∀ j y, d.Caps[j]? = some y → CapI d j y := fun j y hy => hall j y (by have := (List.getElem?_eq_some_iff.1 hy).1; omega) hy
  have hseenP : Seen ks (SeenP d 0) := fun y => by
    rw [hseen y]
    constructor
    · rintro ⟨j, z, hj, hz, he⟩; exact .inl ⟨z, List.mem_of_getElem? hz, he⟩
    · rintro (⟨c, hc, he⟩ | ⟨j, z, hj, _⟩)
      · obtain ⟨j, hj, rfl⟩ := List.getElem_of_mem hc
        exact ⟨j, _, by omega, List.getElem?_eq_getElem hj, he⟩
      · omega
  clear hJ J hseen hlast
  refine h.setV 0 rfl rfl (fun w76 h nw76 => ?_)
  have h : SH w w76 [aB lb ([.int .i64 0].map Ce.v), aB mc ([.map (some mb)].map Ce.v), aSet mb ks, aB sb ((ipcV d.Next sp sc sq).map Ce.v)] := h
  refine ⟨sp, h.cell 3 rfl rfl, ?_⟩
  refine LoopW.m1 (fun (i : Int) w' => ∃ (k : Nat) (last : Int) (ks : List Int), i = k ∧ k ≤ d.Ports.length ∧ LastI DPort.Id d.Ports k last ∧ Seen ks (SeenP d k) ∧ (∀ j y, j < k → d.Ports[j]? = some y → PortI d j y) ∧ SH w w' [aB lb ([.int .i64 last].map Ce.v), aB mc ([.map (some mb)].map Ce.v), aSet mb ks, aB sb ((ipcV d.Next sp sc sq).map Ce.v)]) (fun (i : Int) _ => ((d.Ports.length : Int) - i).toNat) ⟨0, 0, ks, rfl, by omega, ⟨fun _ => rfl, (fun y h0 => by omega), (fun j y hj => by omega)⟩, hseenP, (fun j y hj => by omega), h⟩ ?_
  clear hseenP h
  rintro (i : Int) w80 ⟨k2, last, ks, rfl, hk2, hlast, hseen, hall2, h⟩ J hJ
  rw [hpl]
  refine BIf.dec (fun hlt => ?_) (fun hge2 => ?_)
  · obtain ⟨x, hx⟩ : ∃ x, d.Ports[k2]? = some x := ⟨_, List.getElem?_eq_getElem (by omega)⟩
    obtain ⟨q, tq, hq, hc0, hc1, hms⟩ := hd.ports.get k2 x hx
    have hml := hms.len
    refine ⟨by omega, by omega, q, hq, ?_⟩
    rw [Int.toNat_natCast]
    refine ⟨_, h.ext.cell hc0, tq, h.ext.cell hc1, ?_⟩
    refine h.alloc (fun w84 h ew84 nw84 => ?_)
    refine h.put 0 rfl rfl rfl (fun w85 h nw85 => ?_)
    generalize w80.heap.size = cb at *
    refine ⟨_, h.cell 0 rfl rfl, (c56 h (a := 1) (m := 2) (t := 3) (s := 4) rfl rfl rfl rfl (by omega)).mono ?_⟩
    rintro _ w88 ⟨rfl, h⟩
    have h : SH w w88 [aB cb ([.int .i64 x.Id, .slice tq.a tq.len tq.cap].map Ce.v), aB lb ([.int .i64 x.Id].map Ce.v), aB mc ([.map (some mb)].map Ce.v), aSet mb (insK ks x.Id), aB sb ((ipcV d.Next sp sc sq).map Ce.v)] := h
    refine ⟨_, rfl, ?_⟩
    refine join_or_ex tq (h.cell 0 rfl rfl) ?_
    rw [hml]
    have hiff : ((!okId last x.Id d.Next ks) || decide (((x.Queue.length : Nat) : Int) > 8)) = false ↔ 1 ≤ x.Id ∧ x.Id ≤ d.Next ∧ (∀ z, 0 < k2 → d.Ports[k2 - 1]? = some z → z.Id < x.Id) ∧ x.Queue.length ≤ 8 ∧ (∀ c, c ∈ d.Caps → c.Id ≠ x.Id) := by
      simp only [Bool.or_eq_false_iff, Bool.not_eq_false', decide_eq_false_iff_not, okId_iff]
      constructor
      · rintro ⟨⟨a1, a2, a3, a4⟩, a5⟩
        exact ⟨a2, a3, (hlast.sorted hk2 a2).1 a1, by omega, fun c hc he => a4 ((hseen _).2 (.inl ⟨c, hc, he⟩))⟩
      · rintro ⟨a2, a3, a1, a5, a6⟩
        have hlt := (hlast.sorted hk2 a2).2 a1
        refine ⟨⟨hlt, a2, a3, fun hm => ?_⟩, by omega⟩
        rcases (hseen _).1 hm with ⟨c, hc, he⟩ | ⟨j, y, hj, hy, he⟩
        · exact a6 c hc he
        · have := hlast.le j y hj hy; omega
    refine BIf.of (fun hb => kb_f (fun hok => ?_) h.ext) (fun hb => ?_)
    · have g := portI_of hok k2 x hx
      rw [hiff.2 ⟨g.id1, g.idN, g.sorted, g.few, g.noCap⟩] at hb; cases hb
    obtain ⟨a1, a2, a3, a4, a5⟩ := hiff.1 hb
    have hseen' : Seen (insK ks x.Id) (SeenP d (k2 + 1)) := seen_ins hseen (fun y => by
      constructor
      · rintro (hh | ⟨j, z, hj, hz, he⟩)
        · exact .inl (.inl hh)
        · by_cases hjk : j = k2
          · subst hjk; rw [hx] at hz; cases hz; exact .inr he.symm
          · exact .inl (.inr ⟨j, z, by omega, hz, he⟩)
      · rintro ((hh | ⟨j, z, hj, hz, he⟩) | rfl)
        · exact .inl hh
        · exact .inr ⟨j, z, by omega, hz, he⟩
        · exact .inr ⟨k2, x, by omega, hx, rfl⟩)
    refine ⟨sc, h.cell 4 rfl rfl, ?_⟩
    refine LoopW.m2 (fun (b : Bool) (i : Int) w' => ∃ j : Nat, i = j ∧ j ≤ d.Caps.length ∧ (b = true ↔ ∃ c, c ∈ d.Caps.take j ∧ c.Port = x.Id) ∧ SH w w' [aB cb ([.int .i64 x.Id, .slice tq.a tq.len tq.cap].map Ce.v), aB lb ([.int .i64 x.Id].map Ce.v), aB mc ([.map (some mb)].map Ce.v), aSet mb (insK ks x.Id), aB sb ((ipcV d.Next sp sc sq).map Ce.v)]) (fun (b : Bool) (i : Int) _ => ((d.Caps.length : Int) - i).toNat) ⟨0, rfl, by omega, ⟨(fun hh => by cases hh), (fun ⟨c, hc, _⟩ => by simp at hc)⟩, h⟩ ?_
    rintro (b94 : Bool) (i : Int) w97 ⟨j, rfl, hj, hb94, h⟩ J96 hJ96
    rw [hcl]
    refine BIf.dec (fun hlt2 => ?_) (fun hge3 => ?_)
    · obtain ⟨y, hy⟩ : ∃ y, d.Caps[j]? = some y := ⟨_, List.getElem?_eq_getElem (by omega)⟩
      obtain ⟨q', hq', hc'⟩ := hd.caps.get (by omega) hy
      refine ⟨by omega, by omega, q', hq', ?_⟩
      rw [Int.toNat_natCast]
      refine ⟨_, h.ext.cell (hc' 0 _ rfl), _, h.ext.cell (hc' 1 _ rfl), _, h.ext.cell (hc' 2 _ rfl), _, h.ext.cell (hc' 3 _ rfl), _, h.ext.cell (hc' 4 _ rfl), ?_⟩
      refine h.alloc (fun w104 h ew104 nw104 => ?_)
      refine h.put 0 rfl rfl rfl (fun w105 h nw105 => ?_)
      refine join_or_ex2 y.Port x.Id (h.cell 0 rfl rfl) (h.cell 1 rfl rfl) ?_
      rw [w64 (by omega) (by omega)]
      refine hJ96 _ _ _ ⟨j + 1, by omega, by omega, ?_, h.drop⟩ (by omega)
      rw [List.take_add_one, hy]
      simp only [Bool.or_eq_true, hb94, beq_iff_eq, List.mem_append, Option.toList, List.mem_singleton]
      constructor
      · rintro (⟨c, hc, he⟩ | he)
        · exact ⟨c, .inl hc, he⟩
        · exact ⟨y, .inr rfl, he⟩
      · rintro ⟨c, hc | rfl, he⟩
        · exact .inl ⟨c, hc, he⟩
        · exact .inr he
    rw [List.take_of_length_le (by omega)] at hb94
    refine BIf.of (fun hb => kb_f (fun hok => ?_) h.ext) (fun hb => ?_)
    · rw [hb94.2 (portI_of hok k2 x hx).some_] at hb; cases hb
    have hsome : ∃ c, c ∈ d.Caps ∧ c.Port = x.Id := hb94.1 (by simpa using hb)
    refine ⟨tq, h.cell 0 rfl rfl, ?_⟩
    refine LoopW.m1 (fun (i : Int) w' => ∃ j : Nat, i = j ∧ j ≤ x.Queue.length ∧ (∀ y, y ∈ x.Queue.take j → MsgOk d y) ∧ SH w w' [aB cb ([.int .i64 x.Id, .slice tq.a tq.len tq.cap].map Ce.v), aB lb ([.int .i64 x.Id].map Ce.v), aB mc ([.map (some mb)].map Ce.v), aSet mb (insK ks x.Id), aB sb ((ipcV d.Next sp sc sq).map Ce.v)]) (fun (i : Int) _ => ((x.Queue.length : Int) - i).toNat) ⟨0, rfl, by omega, (fun y hy => by simp at hy), h⟩ ?_
    rintro (i : Int) w114 ⟨j3, rfl, hj3, hmsg, h⟩ J113 hJ113
    rw [hml]
    refine BIf.dec (fun hlt3 => ?_) (fun hge4 => ?_)
    · obtain ⟨y, hy⟩ : ∃ y, x.Queue[j3]? = some y := ⟨_, List.getElem?_eq_getElem (by omega)⟩
      obtain ⟨r, u, hr, hm0, hm1, hm2, hby⟩ := (hms.ext h.ext).get j3 y hy
      have hbl := hby.len
      refine ⟨by omega, by omega, r, hr, _, hm0, u, hm1, _, hm2, ?_⟩
      refine h.alloc (fun w119 h ew119 nw119 => ?_)
      refine h.put 0 rfl rfl rfl (fun w120 h nw120 => ?_)
      generalize w114.heap.size = yb at *
      refine ⟨_, h.cell 0 rfl rfl, c57.mono ?_⟩
      rintro _ w123 ⟨rfl, rfl⟩
      refine ⟨_, rfl, ?_⟩
      refine join_or_ex u (h.cell 0 rfl rfl) ?_
      refine join_or_ex y.Cap (h.cell 0 rfl rfl) ?_
      refine join_or_ex2 y.Cap d.Next (h.cell 0 rfl rfl) (h.cell 5 rfl rfl) ?_
      rw [hbl]
      have hmi : ((((!(decide (y.From ≥ 0) && decide (y.From < 64))) || decide (((y.Data.length : Nat) : Int) > 64)) || decide (y.Cap < 0)) || decide (y.Cap > d.Next)) = false ↔ MsgOk d y := by
        unfold MsgOk
        simp only [Bool.or_eq_false_iff, Bool.not_eq_false', Bool.and_eq_true, decide_eq_true_eq, decide_eq_false_iff_not]
        omega
      refine BIf.of (fun hb => kb_f (fun hok => ?_) h.ext) (fun hb => ?_)
      · rw [hmi.2 ((portI_of hok k2 x hx).msgs y (List.mem_of_getElem? hy))] at hb; cases hb
      rw [w64 (by omega) (by omega)]
      refine hJ113 _ _ ⟨j3 + 1, by omega, by omega, fun z hz => ?_, h.drop⟩ (by omega)
      rw [List.take_add_one, hy] at hz
      rcases List.mem_append.1 hz with hz | hz
      · exact hmsg z hz
      · simp at hz; subst hz; exact hmi.1 hb
    rw [List.take_of_length_le (by omega)] at hmsg
    rw [w64 (by omega) (by omega)]
    exact hJ _ _ ⟨k2 + 1, x.Id, _, by omega, by omega, hlast.step hx ((hlast.sorted hk2 a1).2 a3), hseen', all_snoc hall2 hx ⟨a1, a2, a3, a4, a5, hmsg, hsome⟩, h.drop⟩ (by omega)
  have hports : ∀ j y, d.Ports[j]? = some y → PortI d j y := fun j y hy => hall2 j y (by have := (List.getElem?_eq_some_iff.1 hy).1; omega) hy
  have hseenQ : Seen ks (SeenQ d 0) := fun y => by
    rw [hseen y]
    constructor
    · rintro (hh | ⟨j, z, hj, hz, he⟩)
      · exact .inl hh
      · exact .inr (.inl ⟨z, List.mem_of_getElem? hz, he⟩)
    · rintro (hh | ⟨c, hc, he⟩ | ⟨j, z, hj, _⟩)
      · exact .inl hh
      · obtain ⟨j, hj, rfl⟩ := List.getElem_of_mem hc
        exact .inr ⟨j, _, by omega, List.getElem?_eq_getElem hj, he⟩
      · omega
  clear hJ J hseen hlast
  refine h.setV 0 rfl rfl (fun w139 h nw139 => ?_)
  have h : SH w w139 [aB lb ([.int .i64 0].map Ce.v), aB mc ([.map (some mb)].map Ce.v), aSet mb ks, aB sb ((ipcV d.Next sp sc sq).map Ce.v)] := h
  refine ⟨sq, h.cell 3 rfl rfl, ?_⟩
  refine LoopW.m1 (fun (i : Int) w' => ∃ (k : Nat) (last : Int) (ks : List Int), i = k ∧ k ≤ d.Pipes.length ∧ LastI DPipe.Id d.Pipes k last ∧ Seen ks (SeenQ d k) ∧ (∀ j y, j < k → d.Pipes[j]? = some y → PipeI d j y) ∧ SH w w' [aB lb ([.int .i64 last].map Ce.v), aB mc ([.map (some mb)].map Ce.v), aSet mb ks, aB sb ((ipcV d.Next sp sc sq).map Ce.v)]) (fun (i : Int) _ => ((d.Pipes.length : Int) - i).toNat) ⟨0, 0, ks, rfl, by omega, ⟨fun _ => rfl, (fun y h0 => by omega), (fun j y hj => by omega)⟩, hseenQ, (fun j y hj => by omega), h⟩ ?_
  clear hseenQ h
  rintro (i : Int) w143 ⟨k3, last, ks, rfl, hk3, hlast, hseen, hall3, h⟩ J hJ
  rw [hql]
  refine BIf.dec (fun hlt => ?_) (fun hge3 => ?_)
  · obtain ⟨x, hx⟩ : ∃ x, d.Pipes[k3]? = some x := ⟨_, List.getElem?_eq_getElem (by omega)⟩
    obtain ⟨q, tq, hq, hc0, hc1, hc2, hc3, hby⟩ := hd.pipes.get k3 x hx
    have hbl := hby.len
    have hw := hwf x (List.mem_of_getElem? hx)
    refine ⟨by omega, by omega, q, hq, ?_⟩
    rw [Int.toNat_natCast]
    refine ⟨_, h.ext.cell hc0, _, h.ext.cell hc1, _, h.ext.cell hc2, tq, h.ext.cell hc3, ?_⟩
    refine h.alloc (fun w149 h ew149 nw149 => ?_)
    refine h.put 0 rfl rfl rfl (fun w150 h nw150 => ?_)
    generalize w143.heap.size = cb at *
    refine ⟨_, h.cell 0 rfl rfl, (c56 h (a := 1) (m := 2) (t := 3) (s := 4) rfl rfl rfl rfl (by omega)).mono ?_⟩
    rintro _ w153 ⟨rfl, h⟩
    have h : SH w w153 [aB cb ([.int .i64 x.Id, .int .i64 x.Readers, .int .i64 x.Writers, .slice tq.a tq.len tq.cap].map Ce.v), aB lb ([.int .i64 x.Id].map Ce.v), aB mc ([.map (some mb)].map Ce.v), aSet mb (insK ks x.Id), aB sb ((ipcV d.Next sp sc sq).map Ce.v)] := h
    refine ⟨_, rfl, ?_⟩
    refine join_or_ex x.Readers (h.cell 0 rfl rfl) ?_
    refine join_or_ex x.Readers (h.cell 0 rfl rfl) ?_
    refine join_or_ex x.Writers (h.cell 0 rfl rfl) ?_
    refine join_or_ex x.Writers (h.cell 0 rfl rfl) ?_
    refine join_or_ex2 x.Readers x.Writers (h.cell 0 rfl rfl) (h.cell 0 rfl rfl) ?_
    refine join_or_ex tq (h.cell 0 rfl rfl) ?_
    rw [hbl]
    have hiff : (((((((!okId last x.Id d.Next ks) || decide (x.Readers < 0)) || decide (x.Readers > 64)) || decide (x.Writers < 0)) || decide (x.Writers > 64)) || (IntKind.i64.wrap (x.Readers + x.Writers) == 0)) || decide (((x.Data.length : Nat) : Int) > 512)) = false ↔ PipeI d k3 x := by
      simp only [Bool.or_eq_false_iff, Bool.not_eq_false', decide_eq_false_iff_not, okId_iff, beq_eq_false_iff_ne]
      constructor
      · rintro ⟨⟨⟨⟨⟨⟨⟨a1, a2, a3, a4⟩, b1⟩, b2⟩, b3⟩, b4⟩, b5⟩, b6⟩
        rw [w64 (by omega) (by omega)] at b5
        exact ⟨a2, a3, (hlast.sorted hk3 a2).1 a1, fun c hc he => a4 ((hseen _).2 (.inl ⟨c, hc, he⟩)), fun c hc he => a4 ((hseen _).2 (.inr (.inl ⟨c, hc, he⟩))), by omega, by omega, by omega, by omega⟩
      · rintro ⟨a2, a3, a1, a5, a6, b6, b1, b2, b3⟩
        have hlt := (hlast.sorted hk3 a2).2 a1
        rw [w64 (by omega) (by omega)]
        refine ⟨⟨⟨⟨⟨⟨⟨hlt, a2, a3, fun hm => ?_⟩, by omega⟩, by omega⟩, by omega⟩, by omega⟩, by omega⟩, by omega⟩
        rcases (hseen _).1 hm with ⟨c, hc, he⟩ | ⟨c, hc, he⟩ | ⟨j, y, hj, hy, he⟩
        · exact a5 c hc he
        · exact a6 c hc he
        · have := hlast.le j y hj hy; omega
    refine BIf.of (fun hb => kb_f (fun hok => ?_) h.ext) (fun hb => ?_)
    · rw [hiff.2 (pipeI_of hok k3 x hx)] at hb; cases hb
    have hpi := hiff.1 hb
    have hseen' : Seen (insK ks x.Id) (SeenQ d (k3 + 1)) := seen_ins hseen (fun y => by
      constructor
      · rintro (hh | hh | ⟨j, z, hj, hz, he⟩)
        · exact .inl (.inl hh)
        · exact .inl (.inr (.inl hh))
        · by_cases hjk : j = k3
          · subst hjk; rw [hx] at hz; cases hz; exact .inr he.symm
          · exact .inl (.inr (.inr ⟨j, z, by omega, hz, he⟩))
      · rintro ((hh | hh | ⟨j, z, hj, hz, he⟩) | rfl)
        · exact .inl hh
        · exact .inr (.inl hh)
        · exact .inr (.inr ⟨j, z, by omega, hz, he⟩)
        · exact .inr (.inr ⟨k3, x, by omega, hx, rfl⟩))
    rw [w64 (by omega) (by omega)]
    exact hJ _ _ ⟨k3 + 1, x.Id, _, by omega, by omega, hlast.step hx ((hlast.sorted hk3 hpi.id1).2 hpi.sorted), hseen', all_snoc hall3 hx hpi, h.drop⟩ (by omega)
  exact kb_t (IOk_of g1 g2 g3 g4 hcaps hports (fun j y hy => hall3 j y (by have := (List.getElem?_eq_some_iff.1 hy).1; omega) hy)) h.ext
end Go.Proofs.Ytbimoajgofcmbaa

/- Capabilities of a holder, capabilities below another, both sides. Conditions: none. -/
set_option linter.unusedVariables false
set_option linter.unusedSimpArgs false
namespace Go.Proofs.Ytbimoajgofcmbaa
open Go Go.Den
structure PipeWf (d : DIpc) : Prop where
  pipes : ∀ x, x ∈ d.Pipes → (Lit.int .i64 x.Readers).wf = true ∧ (Lit.int .i64 x.Writers).wf = true
open Classical in
noncomputable def capsOfF (d : DIpc) (hl : Int) : List DCap := if IOk d then d.Caps.filter (fun c => c.Holder == hl) else []
def CapsR (l : List DCap) (w : World) (v : Value) (w' : World) : Prop := ∃ t : Sl, v = .slice t.a t.len t.cap ∧ SH w w' [aRow t 5 (recs DCap.cells l)]
theorem capsR_nil {w w' : World} {F : List Asr} (a : Option Addr) (h : SH w w' F) : CapsR [] w (.slice a 0 0) w' := ⟨⟨a, 0, 0⟩, rfl, ((SH.start w).to h.ext).nil a 5⟩
theorem filter_snoc {α : Type} {p : α → Bool} {l : List α} {k : Nat} {x : α} (hx : l[k]? = some x) : (l.take (k + 1)).filter p = (l.take k).filter p ++ (if p x = true then [x] else []) := by
  rw [List.take_add_one, hx, List.filter_append]
  simp only [Option.toList, List.filter_cons, List.filter_nil]
theorem filter_len {α : Type} {p : α → Bool} {l : List α} {k : Nat} : ((l.take k).filter p).length ≤ k := by
  have := List.length_filter_le p (l.take k)
  rw [List.length_take] at this; omega
theorem plain_cap (x : DCap) : ∀ v, v ∈ x.cells → plainB v = true := by
  intro v hv
  simp only [DCap.cells, List.mem_cons, List.not_mem_nil, or_false] at hv
  rcases hv with rfl | rfl | rfl | rfl | rfl <;> rfl
theorem c15 {sp sc sq : Sl} {d : DIpc} {hl : Int} {w : World} (hd : IpcAt w sp sc sq d) (hwf : PipeWf d) : CallW Try.prog 15 #[.agg #[.int .i64 d.Next, .slice sp.a sp.len sp.cap, .slice sc.a sc.len sc.cap, .slice sq.a sq.len sq.cap], .int .i64 hl] w (CapsR (capsOfF d hl) w) := by
  refine go15 ?_
  unfold W15
  have h := SH.start w
  have hcl := hd.caps.len
  have hcf := hd.caps.few
  refine h.alloc (fun w1 h ew1 nw1 => ?_)
  refine ⟨_, h.cell 0 rfl rfl, sp, h.cell 0 rfl rfl, sc, h.cell 0 rfl rfl, sq, h.cell 0 rfl rfl, (c12 (hd.ext h.ext) hwf.pipes).mono ?_⟩
  rintro _ w7 ⟨b, rfl, hiff, e⟩
  have h := h.to e
  refine ⟨_, rfl, BIf.of (fun hb => ?_) (fun hb => ?_)⟩
  · have : capsOfF d hl = [] := by unfold capsOfF; rw [if_neg (fun hok => by rw [hiff.2 hok] at hb; cases hb)]
    rw [this]; exact capsR_nil _ h
  have hok : IOk d := hiff.1 (by simpa using hb)
  have hF : capsOfF d hl = d.Caps.filter (fun c => c.Holder == hl) := by unfold capsOfF; rw [if_pos hok]
  rw [hF]
  refine ⟨sc, h.cell 0 rfl rfl, ?_⟩
  refine LoopW.m2 (fun (s : Sl) (i : Int) w' => ∃ k : Nat, i = k ∧ k ≤ d.Caps.length ∧ SH w w' [aRow s 5 (recs DCap.cells ((d.Caps.take k).filter (fun c => c.Holder == hl)))]) (fun (s : Sl) (i : Int) _ => ((d.Caps.length : Int) - i).toNat) ⟨0, rfl, by omega, h.drop.nil none 5⟩ ?_
  rintro (s : Sl) (i : Int) w13 ⟨k, rfl, hk, h⟩ J hJ
  rw [hcl]
  refine BIf.dec (fun hlt => ?_) (fun hge => ?_)
  · obtain ⟨x, hx⟩ : ∃ x, d.Caps[k]? = some x := ⟨_, List.getElem?_eq_getElem (by omega)⟩
    obtain ⟨q, hq, hc⟩ := hd.caps.get (by omega) hx
    refine ⟨by omega, by omega, q, hq, ?_⟩
    rw [Int.toNat_natCast]
    refine ⟨_, h.ext.cell (hc 0 _ rfl), _, h.ext.cell (hc 1 _ rfl), _, h.ext.cell (hc 2 _ rfl), _, h.ext.cell (hc 3 _ rfl), _, h.ext.cell (hc 4 _ rfl), ?_⟩
    refine h.alloc (fun w20 h ew20 nw20 => ?_)
    refine h.put 0 rfl rfl rfl (fun w21 h nw21 => ?_)
    generalize w13.heap.size = cb at *
    rw [w64 (by omega) (by omega)]
    refine ⟨_, h.cell 0 rfl rfl, BIf.of (fun he => ?_) (fun he => ?_)⟩
    · refine ⟨_, h.cell 0 rfl rfl, _, h.cell 0 rfl rfl, _, h.cell 0 rfl rfl, _, h.cell 0 rfl rfl, _, h.cell 0 rfl rfl, ?_⟩
      have hfl := filter_len (p := fun c : DCap => c.Holder == hl) (l := d.Caps) (k := k)
      refine LetW_iff.2 (SH.appendR1 (f := DCap.cells) (x := x) h.p1 rfl rfl rfl (by decide) (by show _ * 40 ≤ _; omega) (plain_cap x) (fun s' w30 h hl' _ => ?_))
      refine hJ _ _ _ ⟨k + 1, by omega, by omega, ?_⟩ (by omega)
      rw [filter_snoc hx, if_pos he]; exact h.one
    · refine hJ _ _ _ ⟨k + 1, by omega, by omega, ?_⟩ (by omega)
      rw [filter_snoc hx, if_neg (by simp only [he]; decide), List.append_nil]; exact h.p1.one
  · rw [List.take_of_length_le (by omega)] at h
    exact ⟨s, rfl, h⟩
theorem c14 {sp sc sq : Sl} {d : DIpc} {hl : Int} {w : World} (hd : IpcAt w sp sc sq d) (hwf : PipeWf d) : CallW Try.prog 14 #[.agg #[.int .i64 d.Next, .slice sp.a sp.len sp.cap, .slice sc.a sc.len sc.cap, .slice sq.a sq.len sq.cap], .int .i64 hl] w (CapsR (capsOfF d hl) w) := by
  refine go14 ?_
  unfold W14
  have h := SH.start w
  have hcl := hd.caps.len
  have hcf := hd.caps.few
  refine h.alloc (fun w1 h ew1 nw1 => ?_)
  refine h.alloc (fun w2 h ew2 nw2 => ?_)
  have h := h.drop
  refine ⟨_, h.cell 0 rfl rfl, sp, h.cell 0 rfl rfl, sc, h.cell 0 rfl rfl, sq, h.cell 0 rfl rfl, (c10 (hd.ext h.ext) hwf.pipes).mono ?_⟩
  rintro _ w7 ⟨b, rfl, hiff, e⟩
  have h := h.to e
  refine ⟨_, rfl, BIf.of (fun hb => ?_) (fun hb => ?_)⟩
  · have : capsOfF d hl = [] := by unfold capsOfF; rw [if_neg (fun hok => by rw [hiff.2 hok] at hb; cases hb)]
    rw [this]; exact capsR_nil _ h
  have hok : IOk d := hiff.1 (by simpa using hb)
  have hF : capsOfF d hl = d.Caps.filter (fun c => c.Holder == hl) := by unfold capsOfF; rw [if_pos hok]
  rw [hF]
  refine LoopW.m2 (fun (s : Sl) (i : Int) w' => ∃ k : Nat, i = k ∧ k ≤ d.Caps.length ∧ SH w w' [aRow s 5 (recs DCap.cells ((d.Caps.take k).filter (fun c => c.Holder == hl))), aB w.heap.size ((ipcV d.Next sp sc sq).map Ce.v)]) (fun (s : Sl) (i : Int) _ => ((d.Caps.length : Int) - i).toNat) ⟨0, rfl, by omega, h.nil _ 5⟩ ?_
  rintro (s : Sl) (i : Int) w13 ⟨k, rfl, hk, h⟩ J hJ
  refine ⟨sc, h.cell 1 rfl rfl, ?_⟩
  rw [hcl]
  refine BIf.dec (fun hlt => ?_) (fun hge => ?_)
  · obtain ⟨x, hx⟩ : ∃ x, d.Caps[k]? = some x := ⟨_, List.getElem?_eq_getElem (by omega)⟩
    obtain ⟨q, hq, hc⟩ := hd.caps.get (by omega) hx
    rw [Int.toNat_natCast]
    refine ⟨sc, h.cell 1 rfl rfl, by omega, by omega, q, hq, _, h.ext.cell (hc 1 _ rfl), ?_⟩
    rw [w64 (by omega) (by omega)]
    refine BIf.of (fun he => ?_) (fun he => ?_)
    · refine ⟨sc, h.cell 1 rfl rfl, by omega, by omega, q, hq, _, h.ext.cell (hc 0 _ rfl), _, h.ext.cell (hc 1 _ rfl), _, h.ext.cell (hc 2 _ rfl), _, h.ext.cell (hc 3 _ rfl), _, h.ext.cell (hc 4 _ rfl), ?_⟩
      have hfl := filter_len (p := fun c : DCap => c.Holder == hl) (l := d.Caps) (k := k)
      refine LetW_iff.2 (SH.appendR1 (f := DCap.cells) (x := x) h rfl rfl rfl (by decide) (by show _ * 40 ≤ _; omega) (plain_cap x) (fun s' w30 h hl' _ => ?_))
      refine hJ _ _ _ ⟨k + 1, by omega, by omega, ?_⟩ (by omega)
      rw [filter_snoc hx, if_pos he]; exact h
    · refine hJ _ _ _ ⟨k + 1, by omega, by omega, ?_⟩ (by omega)
      rw [filter_snoc hx, if_neg (by simp only [he]; decide), List.append_nil]; exact h
  · rw [List.take_of_length_le (by omega)] at h
    exact ⟨s, rfl, h.one⟩
end Go.Proofs.Ytbimoajgofcmbaa

/- Capabilities below another, both sides. Conditions: none. -/
set_option linter.unusedVariables false
set_option linter.unusedSimpArgs false
namespace Go.Proofs.Ytbimoajgofcmbaa
open Go Go.Den
/-- A number of a capability that is below another one. -/
inductive Und (d : DIpc) (top : Int) : Int → Prop where
  | base {k : Nat} {c : DCap} : d.Caps[k]? = some c → c.Parent ≠ 0 → c.Parent = top → Und d top c.Id
  | step {k : Nat} {c : DCap} : d.Caps[k]? = some c → c.Parent ≠ 0 → Und d top c.Parent → Und d top c.Id
theorem cap_lt {d : DIpc} (h : IOk d) : ∀ (n i j : Nat) (a b : DCap), j = i + n + 1 → d.Caps[i]? = some a → d.Caps[j]? = some b → a.Id < b.Id
  | 0, i, j, a, b, hj, ha, hb => (h.cap j b hb).sorted a (by omega) (by rw [show j - 1 = i by omega]; exact ha)
  | n + 1, i, j, a, b, hj, ha, hb => by
    have hjl := (List.getElem?_eq_some_iff.1 hb).1
    obtain ⟨c, hc⟩ : ∃ c, d.Caps[j - 1]? = some c := ⟨_, List.getElem?_eq_getElem (by omega)⟩
    have h1 := cap_lt h n i (j - 1) a c (by omega) ha hc
    have h2 := (h.cap j b hb).sorted c (by omega) hc
    omega
theorem cap_mono {d : DIpc} (h : IOk d) {i j : Nat} {a b : DCap} (ha : d.Caps[i]? = some a) (hb : d.Caps[j]? = some b) : (a.Id < b.Id ↔ i < j) ∧ (a.Id = b.Id ↔ i = j) := by
  rcases Nat.lt_trichotomy i j with hlt | rfl | hgt
  · have := cap_lt h (j - i - 1) i j a b (by omega) ha hb; constructor <;> constructor <;> intro _ <;> omega
  · rw [ha] at hb; cases hb; simp
  · have := cap_lt h (i - j - 1) j i b a (by omega) hb ha; constructor <;> constructor <;> intro _ <;> omega
theorem par_at {d : DIpc} (h : IOk d) {i : Nat} {c : DCap} (hc : d.Caps[i]? = some c) (h0 : c.Parent ≠ 0) : ∃ (k : Nat) (p : DCap), capIx d c.Parent = k ∧ d.Caps[k]? = some p ∧ p.Id = c.Parent ∧ k < i := by
  rcases (h.cap i c hc).par with h1 | ⟨k, p, hp⟩
  · exact absurd h1 h0
  · have hid := ix_id hp.ix hp.at_
    exact ⟨k, p, hp.ix, hp.at_, hid, (cap_mono h hp.at_ hc).1.1 (by rw [hid]; exact hp.lt)⟩
theorem und_iff {d : DIpc} (h : IOk d) {top : Int} {i : Nat} {c : DCap} (hc : d.Caps[i]? = some c) : Und d top c.Id ↔ c.Parent ≠ 0 ∧ (c.Parent = top ∨ Und d top c.Parent) := by
  constructor
  · intro hu
    generalize hx : c.Id = x at hu
    cases hu with
    | base hk h0 ht =>
      have := (cap_mono h hc hk).2.1 hx
      subst this; rw [hc] at hk; cases hk; exact ⟨h0, .inl ht⟩
    | step hk h0 ht =>
      have := (cap_mono h hc hk).2.1 hx
      subst this; rw [hc] at hk; cases hk; exact ⟨h0, .inr ht⟩
  · rintro ⟨h0, h1 | h1⟩
    · exact .base hc h0 h1
    · exact .step hc h0 h1
theorem und_gt {d : DIpc} (h : IOk d) {top x : Int} (hu : Und d top x) : top < x := by
  induction hu with
  | base hk h0 ht =>
    obtain ⟨j, p, _, hp, hid, hj⟩ := par_at h hk h0
    have := (cap_mono h hp hk).1.2 hj
    omega
  | step hk h0 _ ih =>
    obtain ⟨j, p, _, hp, hid, hj⟩ := par_at h hk h0
    have := (cap_mono h hp hk).1.2 hj
    omega
theorem und_cap {d : DIpc} (h : IOk d) {top x : Int} (hu : Und d top x) : ∃ c, c ∈ d.Caps ∧ c.Id = top := by
  induction hu with
  | base hk h0 ht =>
    obtain ⟨j, p, _, hp, hid, hj⟩ := par_at h hk h0
    exact ⟨p, List.mem_of_getElem? hp, by omega⟩
  | step _ _ _ ih => exact ih
open Classical in
noncomputable def belowF (d : DIpc) (top : Int) : List Int := if IOk d then (d.Caps.filter (fun c => decide (Und d top c.Id))).map DCap.Id else []
theorem c65 {n : Int} {sp sc sq : Sl} {d : DIpc} {top : Int} {i : Nat} {c : DCap} {w : World} (hd : IpcAt w sp sc sq d) (hok : IOk d) (hc : d.Caps[i]? = some c) : CallW Try.prog 65 #[.agg #[.int .i64 n, .slice sp.a sp.len sp.cap, .slice sc.a sc.len sc.cap, .slice sq.a sq.len sq.cap], .int .i64 c.Id, .int .i64 top] w (KB (Und d top c.Id) w) := by
  refine go65 ?_
  unfold W65
  have h := SH.start w
  have hcl := hd.caps.len
  have hcf := hok.caps
  have hil := (List.getElem?_eq_some_iff.1 hc).1
  refine h.alloc (fun w1 h ew1 nw1 => ?_)
  refine LoopW.m2 (fun (x m : Int) w' => ∃ (k j : Nat) (y : DCap), m = k ∧ k + j ≤ i ∧ d.Caps[j]? = some y ∧ x = y.Id ∧ (Und d top c.Id ↔ Und d top x) ∧ SH w w' [aB w.heap.size ((ipcV n sp sc sq).map Ce.v)]) (fun (x m : Int) _ => ((i : Int) + 1 - m).toNat) ⟨0, i, c, rfl, by omega, hc, rfl, Iff.rfl, h⟩ ?_
  rintro (x : Int) (m : Int) w5 ⟨k, j, y, rfl, hkj, hy, rfl, hiff, h⟩ J hJ
  refine ⟨sc, h.cell 0 rfl rfl, ?_⟩
  rw [hcl]
  refine BIf.t (decide_eq_true (by omega)) ?_
  refine ⟨_, h.cell 0 rfl rfl, sp, h.cell 0 rfl rfl, sc, h.cell 0 rfl rfl, sq, h.cell 0 rfl rfl, (c86 (hd.ext h.ext)).mono ?_⟩
  rintro _ w12 ⟨rfl, e⟩
  have h := h.to e
  have hix : capIx d y.Id = j := by
    obtain ⟨k', y', h1, h2, h3⟩ := idx_get (p := fun c : DCap => c.Id == y.Id) (l := d.Caps) (by
      rcases idx_cases (fun c : DCap => c.Id == y.Id) d.Caps with ⟨_, hn⟩ | ⟨k', x', h1, _⟩
      · have := hn y (List.mem_of_getElem? hy); simp at this
      · rw [h1]; omega)
    have h3 : y'.Id = y.Id := by simpa using h3
    have := (cap_mono hok h2 hy).2.1 h3
    show idxFrom _ _ _ = _
    rw [h1, this]
  rw [hix]
  obtain ⟨q, hq, hcc⟩ := hd.caps.get (by omega) hy
  have hjl := (List.getElem?_eq_some_iff.1 hy).1
  refine ⟨_, rfl, ?_⟩
  refine JoinW.cut1 (fun (b : Bool) w' => b = (y.Parent == 0) ∧ w' = w12) ?_ ?_
  · refine BIf.f (decide_eq_false (by omega)) ?_
    exact ⟨sc, h.cell 0 rfl rfl, by omega, by omega, q, hq, _, h.ext.cell (hcc 4 _ rfl), rfl, rfl⟩
  rintro (b : Bool) w16 ⟨rfl, rfl⟩
  refine BIf.of (fun h0 => kb_f (fun hu => ?_) h.ext) (fun h0 => ?_)
  · have := ((und_iff hok hy).1 (hiff.1 hu)).1
    exact this (by simpa using h0)
  have h0 : y.Parent ≠ 0 := by simpa using h0
  refine ⟨sc, h.cell 0 rfl rfl, by omega, by omega, q, hq, _, h.ext.cell (hcc 4 _ rfl), ?_⟩
  refine BIf.eq (fun he => kb_t (hiff.2 ((und_iff hok hy).2 ⟨h0, .inl he⟩)) h.ext) (fun he => ?_)
  obtain ⟨j', p, _, hp, hid, hj'⟩ := par_at hok hy h0
  rw [w64 (by omega) (by omega)]
  refine hJ _ _ _ ⟨k + 1, j', p, by omega, by omega, hp, hid.symm, ?_, h⟩ (by omega)
  rw [hiff, und_iff hok hy]
  exact ⟨fun hh => by rcases hh.2 with h1 | h1; exact absurd h1 he; exact h1, fun hh => ⟨h0, .inr hh⟩⟩
def IdsR (l : List Int) (w : World) (v : Value) (w' : World) : Prop := ∃ t : Sl, v = .slice t.a t.len t.cap ∧ SH w w' [aRow t 1 (nums .i64 l)]
theorem idsR_nil {w w' : World} {F : List Asr} (a : Option Addr) (h : SH w w' F) : IdsR [] w (.slice a 0 0) w' := ⟨⟨a, 0, 0⟩, rfl, ((SH.start w).to h.ext).nil a 1⟩
open Classical in
theorem c20 {sp sc sq : Sl} {d : DIpc} {top : Int} {w : World} (hd : IpcAt w sp sc sq d) (hwf : PipeWf d) : CallW Try.prog 20 #[.agg #[.int .i64 d.Next, .slice sp.a sp.len sp.cap, .slice sc.a sc.len sc.cap, .slice sq.a sq.len sq.cap], .int .i64 top] w (IdsR (belowF d top) w) := by
  refine go20 ?_
  unfold W20
  have h := SH.start w
  have hcl := hd.caps.len
  have hcf := hd.caps.few
  refine h.alloc (fun w1 h ew1 nw1 => ?_)
  refine h.alloc (fun w2 h ew2 nw2 => ?_)
  have h := h.drop
  refine ⟨_, h.cell 0 rfl rfl, sp, h.cell 0 rfl rfl, sc, h.cell 0 rfl rfl, sq, h.cell 0 rfl rfl, (c10 (hd.ext h.ext) hwf.pipes).mono ?_⟩
  rintro _ w7 ⟨b, rfl, hiff, e⟩
  have h := h.to e
  refine ⟨_, rfl, BIf.of (fun hb => ?_) (fun hb => ?_)⟩
  · have : belowF d top = [] := by unfold belowF; rw [if_neg (fun hok => by rw [hiff.2 hok] at hb; cases hb)]
    rw [this]; exact idsR_nil _ h
  have hok : IOk d := hiff.1 (by simpa using hb)
  have hF : belowF d top = (d.Caps.filter (fun c => decide (Und d top c.Id))).map DCap.Id := by unfold belowF; rw [if_pos hok]
  rw [hF]
  refine LoopW.m2 (fun (s : Sl) (i : Int) w' => ∃ k : Nat, i = k ∧ k ≤ d.Caps.length ∧ SH w w' [aRow s 1 (nums .i64 (((d.Caps.take k).filter (fun c => decide (Und d top c.Id))).map DCap.Id)), aB w.heap.size ((ipcV d.Next sp sc sq).map Ce.v)]) (fun (s : Sl) (i : Int) _ => ((d.Caps.length : Int) - i).toNat) ⟨0, rfl, by omega, h.nil _ 1⟩ ?_
  rintro (s : Sl) (i : Int) w13 ⟨k, rfl, hk, h⟩ J hJ
  refine ⟨sc, h.cell 1 rfl rfl, ?_⟩
  rw [hcl]
  refine BIf.dec (fun hlt => ?_) (fun hge => ?_)
  · obtain ⟨x, hx⟩ : ∃ x, d.Caps[k]? = some x := ⟨_, List.getElem?_eq_getElem (by omega)⟩
    obtain ⟨q, hq, hc⟩ := hd.caps.get (by omega) hx
    rw [Int.toNat_natCast]
    have h := h.drew
    refine ⟨_, h.cell 1 rfl rfl, sp, h.cell 1 rfl rfl, sc, h.cell 1 rfl rfl, sq, h.cell 1 rfl rfl, sc, h.cell 1 rfl rfl, by omega, by omega, q, hq, _, h.ext.cell (hc 0 _ rfl), ?_⟩
    refine (c65 (hd.ext h.ext) hok hx).mono ?_
    rintro _ w23 ⟨b, rfl, hb, e⟩
    have h := h.to e
    refine ⟨_, rfl, ?_⟩
    rw [w64 (by omega) (by omega)]
    have hfl := filter_len (p := fun c : DCap => decide (Und d top c.Id)) (l := d.Caps) (k := k)
    refine BIf.of (fun he => ?_) (fun he => ?_)
    · refine ⟨sc, h.cell 1 rfl rfl, by omega, by omega, q, hq, _, h.ext.cell (hc 0 _ rfl), ?_⟩
      refine LetW_iff.2 (SH.appendN1 h rfl rfl (by decide) (by rw [List.length_map]; show _ * 8 ≤ _; omega) (fun s' w30 h hl' _ => ?_))
      refine hJ _ _ _ ⟨k + 1, by omega, by omega, ?_⟩ (by omega)
      rw [filter_snoc hx, if_pos (decide_eq_true (hb.1 he)), List.map_append]; exact h
    · refine hJ _ _ _ ⟨k + 1, by omega, by omega, ?_⟩ (by omega)
      rw [filter_snoc hx, if_neg (fun hh => by rw [hb.2 (of_decide_eq_true hh)] at he; cases he), List.append_nil]; exact h
  · rw [List.take_of_length_le (by omega)] at h
    exact ⟨s, rfl, h.one⟩
/-- What the program's pass over the capabilities has marked. -/
structure Marks (d : DIpc) (top : Int) (k : Nat) (ks : List Int) : Prop where
  pos : ∀ x, x ∈ ks → 1 ≤ x
  of : ∀ x, x ∈ ks → x = top ∨ ∃ j y, j < k ∧ d.Caps[j]? = some y ∧ y.Id = x
  iff : ∀ j y, j < k → d.Caps[j]? = some y → (y.Id ∈ ks ↔ y.Id = top ∨ Und d top y.Id)
  top_ : top ∈ ks
  nd : ks.Nodup
theorem insK_nd {ks : List Int} {n : Int} (h : ks.Nodup) : (insK ks n).Nodup := by
  unfold insK
  split
  · exact h
  · rename_i hn
    rw [List.nodup_append]
    exact ⟨h, by simp, fun a ha b hb hab => by rw [List.mem_singleton.1 hb] at hab; exact hn (hab ▸ ha)⟩
theorem c66 {b : Nat} {top : Int} {sp sc sq : Sl} {d : DIpc} {w : World} (hc2 : w.cell? ⟨b, 2, none⟩ = some (.slice sc.a sc.len sc.cap)) (hd : IpcAt w sp sc sq d) (hok : IOk d) (htop : ∃ c, c ∈ d.Caps ∧ c.Id = top) :
    CallW Try.prog 66 #[.pointer (some ⟨b, 0, none⟩), .int .i64 top] w (fun v w' => ∃ (m : Nat) (ks : List Int), v = .map (some m) ∧ (∀ (j : Nat) (y : DCap), d.Caps[j]? = some y → (y.Id ∈ ks ↔ Und d top y.Id)) ∧ ks.Nodup ∧ (∀ x, x ∈ ks → ∃ c, c ∈ d.Caps ∧ c.Id = x) ∧ SH w w' [aSet m ks]) := by
  refine go66 ?_
  unfold W66
  have h := SH.start w
  have hcl := hd.caps.len
  have hcf := hd.caps.few
  obtain ⟨ct, hct, rfl⟩ := htop
  obtain ⟨it, hit, rfl⟩ := List.getElem_of_mem hct
  have htc := List.getElem?_eq_getElem hit
  have ht1 := (hok.cap it _ htc).id1
  generalize d.Caps[it] = ct at *
  refine h.newMap (fun w1 h nw1 => ?_)
  generalize w.heap.size = m at *
  refine h.putSet 0 rfl ct.Id (fun w2 h nw2 => ?_)
  refine ⟨_, rfl, sc, h.ext.cell hc2, ?_⟩
  refine LoopW.m1 (fun (i : Int) w' => ∃ (k : Nat) (ks : List Int), i = k ∧ k ≤ d.Caps.length ∧ Marks d ct.Id k ks ∧ SH w w' [aSet m ks]) (fun (i : Int) _ => ((d.Caps.length : Int) - i).toNat) ⟨0, _, rfl, by omega, ⟨fun x hx => ?_, fun x hx => .inl (by simpa [insK] using hx), (fun j y hj => by omega), by simp [insK], by simp [insK]⟩, h⟩ ?_
  · have : x = ct.Id := by simpa [insK] using hx
    omega
  rintro (i : Int) w7 ⟨k, ks, rfl, hk, hm, h⟩ J hJ
  rw [hcl]
  refine BIf.dec (fun hlt => ?_) (fun hge => ?_)
  · obtain ⟨x, hx⟩ : ∃ x, d.Caps[k]? = some x := ⟨_, List.getElem?_eq_getElem (by omega)⟩
    obtain ⟨q, hq, hc⟩ := hd.caps.get (by omega) hx
    refine ⟨by omega, by omega, q, hq, ?_⟩
    rw [Int.toNat_natCast]
    refine ⟨_, h.ext.cell (hc 0 _ rfl), _, h.ext.cell (hc 1 _ rfl), _, h.ext.cell (hc 2 _ rfl), _, h.ext.cell (hc 3 _ rfl), _, h.ext.cell (hc 4 _ rfl), ?_⟩
    refine h.alloc (fun w14 h ew14 nw14 => ?_)
    refine h.put 0 rfl rfl rfl (fun w15 h nw15 => ?_)
    generalize w7.heap.size = cb at *
    have h : SH w w15 [aB cb (x.cells.map Ce.v), aSet m ks] := h
    rw [w64 (by omega) (by omega)]
    have hpar : x.Parent ∈ ks ↔ x.Parent ≠ 0 ∧ (x.Parent = ct.Id ∨ Und d ct.Id x.Parent) := by
      by_cases h0 : x.Parent = 0
      · constructor
        · intro hh; have := hm.pos _ hh; omega
        · intro hh; exact absurd h0 hh.1
      · obtain ⟨j, p, _, hp, hid, hj⟩ := par_at hok hx h0
        have := hm.iff j p hj hp
        rw [hid] at this
        rw [this]
        exact ⟨fun hh => ⟨h0, hh⟩, fun hh => hh.2⟩
    have hnot : x.Id ∈ ks → x.Id = ct.Id := fun hh => by
      rcases hm.of _ hh with h1 | ⟨j, y, hj, hy, he⟩
      · exact h1
      · have := (cap_mono hok hy hx).2.1 he; omega
    refine ⟨_, h.cell 0 rfl rfl, h.getSet 1 rfl _ (fun o ho => ⟨_, ho, ?_⟩)⟩
    refine BIf.dec (fun hin => ?_) (fun hin => ?_)
    · refine ⟨_, h.cell 0 rfl rfl, h.putSet 1 rfl _ (fun w20 h nw20 => ?_)⟩
      refine hJ _ _ ⟨k + 1, _, by omega, by omega, ⟨fun y hy => ?_, fun y hy => ?_, fun j y hj hy => ?_, mem_insK.2 (.inl hm.top_), insK_nd hm.nd⟩, h.drop⟩ (by omega)
      · rcases mem_insK.1 hy with hy | rfl
        · exact hm.pos y hy
        · exact (hok.cap k x hx).id1
      · rcases mem_insK.1 hy with hy | rfl
        · rcases hm.of y hy with h1 | ⟨j, z, hj, hz⟩
          · exact .inl h1
          · exact .inr ⟨j, z, by omega, hz⟩
        · exact .inr ⟨k, x, by omega, hx, rfl⟩
      · rw [mem_insK]
        by_cases hjk : j = k
        · subst hjk; rw [hx] at hy; cases hy
          exact ⟨fun _ => .inr ((und_iff hok hx).2 (hpar.1 hin)), fun _ => .inr rfl⟩
        · rw [← hm.iff j y (by omega) hy]
          exact ⟨fun hh => by
            rcases hh with hh | hh
            · exact hh
            · have := (cap_mono hok hy hx).2.1 hh; omega, .inl⟩
    · refine hJ _ _ ⟨k + 1, ks, by omega, by omega, ⟨hm.pos, fun y hy => ?_, fun j y hj hy => ?_, hm.top_, hm.nd⟩, h.drop⟩ (by omega)
      · rcases hm.of y hy with h1 | ⟨j, z, hj, hz⟩
        · exact .inl h1
        · exact .inr ⟨j, z, by omega, hz⟩
      · by_cases hjk : j = k
        · subst hjk; rw [hx] at hy; cases hy
          constructor
          · intro hh; exact .inl (hnot hh)
          · rintro (hh | hh)
            · rw [hh]; exact hm.top_
            · exact absurd (hpar.2 ((und_iff hok hx).1 hh)) hin
        · exact hm.iff j y (by omega) hy
  · obtain rfl : k = d.Caps.length := by omega
    refine h.delSet 0 rfl _ (fun w21 h nw21 => ?_)
    refine ⟨m, _, rfl, fun j y hy => ?_, hm.nd.erase _, fun x hx => ?_, h⟩
    · rw [hm.nd.mem_erase_iff, hm.iff j y (List.getElem?_eq_some_iff.1 hy).1 hy]
      constructor
      · rintro ⟨h1, h2 | h2⟩
        · exact absurd h2 h1
        · exact h2
      · intro hu
        exact ⟨fun he => by have := und_gt hok hu; omega, .inr hu⟩
    · rcases hm.of x (List.mem_of_mem_erase hx) with h1 | ⟨j, y, _, hy, he⟩
      · exact ⟨ct, List.mem_of_getElem? htc, h1.symm⟩
      · exact ⟨y, List.mem_of_getElem? hy, he⟩
open Classical in
theorem c21 {sp sc sq : Sl} {d : DIpc} {top : Int} {w : World} (hd : IpcAt w sp sc sq d) (hwf : PipeWf d) : CallW Try.prog 21 #[.agg #[.int .i64 d.Next, .slice sp.a sp.len sp.cap, .slice sc.a sc.len sc.cap, .slice sq.a sq.len sq.cap], .int .i64 top] w (IdsR (belowF d top) w) := by
  refine go21 ?_
  unfold W21
  have h := SH.start w
  have hcl := hd.caps.len
  have hcf := hd.caps.few
  refine h.alloc (fun w1 h ew1 nw1 => ?_)
  refine ⟨_, h.cell 0 rfl rfl, sp, h.cell 0 rfl rfl, sc, h.cell 0 rfl rfl, sq, h.cell 0 rfl rfl, (c12 (hd.ext h.ext) hwf.pipes).mono ?_⟩
  rintro _ w7 ⟨b, rfl, hiff, e⟩
  have h : SH w w7 [aB w.heap.size ((ipcV d.Next sp sc sq).map Ce.v)] := h.to e
  refine ⟨_, rfl, ?_⟩
  refine JoinW.cut1 (fun (r : Bool) w' => r = ((!b) || decide (capIx d top < 0)) ∧ w' = w7) ?_ ?_
  · refine BIf.of (fun hb => ⟨by rw [hb]; rfl, rfl⟩) (fun hb => ?_)
    refine (c59 (h.cell 0 rfl rfl) (hd.ext h.ext)).mono ?_
    rintro _ w36 ⟨rfl, rfl⟩
    exact ⟨_, rfl, by rw [cap_some hd, hb]; rfl, rfl⟩
  rintro (r : Bool) w11 ⟨rfl, rfl⟩
  refine BIf.of (fun hb => ?_) (fun hb => ?_)
  · have : belowF d top = [] := by
      unfold belowF
      split
      · rename_i hok
        have hb' : capIx d top < 0 := by
          rw [hiff.2 hok] at hb; simpa using hb
        rw [List.map_eq_nil_iff, List.filter_eq_nil_iff]
        intro c hc hu
        obtain ⟨c', hc', he⟩ := und_cap hok (of_decide_eq_true hu)
        exact capIx_neg.1 hb' c' hc' he
      · rfl
    rw [this]; exact idsR_nil _ h
  simp only [Bool.or_eq_false_iff, Bool.not_eq_false', decide_eq_false_iff_not] at hb
  have hok : IOk d := hiff.1 hb.1
  have hF : belowF d top = (d.Caps.filter (fun c => decide (Und d top c.Id))).map DCap.Id := by unfold belowF; rw [if_pos hok]
  rw [hF]
  have htop : ∃ c, c ∈ d.Caps ∧ c.Id = top := by
    obtain ⟨k', y', _, h2, h3⟩ := idx_get (p := fun c : DCap => c.Id == top) (l := d.Caps) (show 0 ≤ capIx d top by omega)
    exact ⟨y', List.mem_of_getElem? h2, by simpa using h3⟩
  refine (c66 (h.cell 0 rfl rfl) (hd.ext h.ext) hok htop).mono ?_
  rintro _ w13 ⟨m, ks, rfl, hks, _, _, g⟩
  have h : SH w w13 [aSet m ks, aB w.heap.size ((ipcV d.Next sp sc sq).map Ce.v)] := h.seq g
  refine ⟨some m, rfl, sc, h.cell 1 rfl rfl, ?_⟩
  refine LoopW.m2 (fun (s : Sl) (i : Int) w' => ∃ k : Nat, i = k ∧ k ≤ d.Caps.length ∧ SH w w' [aRow s 1 (nums .i64 (((d.Caps.take k).filter (fun c => decide (Und d top c.Id))).map DCap.Id)), aSet m ks]) (fun (s : Sl) (i : Int) _ => ((d.Caps.length : Int) - i).toNat) ⟨0, rfl, by omega, h.one.nil _ 1⟩ ?_
  rintro (s : Sl) (i : Int) w19 ⟨k, rfl, hk, h⟩ J hJ
  rw [hcl]
  refine BIf.dec (fun hlt => ?_) (fun hge => ?_)
  · obtain ⟨x, hx⟩ : ∃ x, d.Caps[k]? = some x := ⟨_, List.getElem?_eq_getElem (by omega)⟩
    obtain ⟨q, hq, hc⟩ := hd.caps.get (by omega) hx
    refine ⟨by omega, by omega, q, hq, ?_⟩
    rw [Int.toNat_natCast]
    refine ⟨_, h.ext.cell (hc 0 _ rfl), _, h.ext.cell (hc 1 _ rfl), _, h.ext.cell (hc 2 _ rfl), _, h.ext.cell (hc 3 _ rfl), _, h.ext.cell (hc 4 _ rfl), ?_⟩
    refine h.alloc (fun w26 h ew26 nw26 => ?_)
    refine h.put 0 rfl rfl rfl (fun w27 h nw27 => ?_)
    generalize w19.heap.size = cb at *
    rw [w64 (by omega) (by omega)]
    have hfl := filter_len (p := fun c : DCap => decide (Und d top c.Id)) (l := d.Caps) (k := k)
    refine ⟨_, h.cell 0 rfl rfl, h.getSet 2 rfl _ (fun o ho => ⟨_, ho, ?_⟩)⟩
    refine BIf.dec (fun he => ?_) (fun he => ?_)
    · refine ⟨_, h.cell 0 rfl rfl, ?_⟩
      refine LetW_iff.2 (SH.appendN1 h.p1 rfl rfl (by decide) (by rw [List.length_map]; show _ * 8 ≤ _; omega) (fun s' w30 h hl' _ => ?_))
      refine hJ _ _ _ ⟨k + 1, by omega, by omega, ?_⟩ (by omega)
      rw [filter_snoc hx, if_pos (decide_eq_true ((hks k x hx).1 he)), List.map_append]; exact h.p1.drop
    · refine hJ _ _ _ ⟨k + 1, by omega, by omega, ?_⟩ (by omega)
      rw [filter_snoc hx, if_neg (fun hh => he ((hks k x hx).2 (of_decide_eq_true hh))), List.append_nil]; exact h.drop
  · rw [List.take_of_length_le (by omega)] at h
    exact ⟨s, rfl, h.one⟩
end Go.Proofs.Ytbimoajgofcmbaa

/- The laws IpcOk, CapsOf, CapsBelow: both sides in one form. Conditions: none. -/
set_option linter.unusedVariables false
set_option linter.unusedSimpArgs false
namespace Go.Proofs.Ytbimoajgofcmbaa
open Go Go.Den
theorem szs_mem {l : List Dat} {d : Dat} (h : d ∈ l) : d.sz ≤ Dat.szs l := by
  obtain ⟨i, hi, rfl⟩ := List.getElem_of_mem h
  have := szs_get (l := l) (i := i) (d := l[i]) (List.getElem?_eq_getElem hi)
  omega
theorem msgs_of {w : World} {s : Sl} {ms : List DMsg} (h : IsD w (.sl 3 (ms.map DMsg.dat)) [.slice s.a s.len s.cap]) (hs : (Dat.sl 3 (ms.map DMsg.dat)).sz ≤ 1048576) : MsgsAt w s ms := by
  refine ⟨(isD_len h).1, fun i x hx => ?_⟩
  obtain ⟨p, es, hp, hl, hc, his⟩ := isD_elem h hx
  obtain ⟨t, rfl, _, hd, _⟩ := cells_Msg (show IsD w (.st [.int .i64 x.From, .sl 1 (x.Data.map (Dat.int .u8)), .int .i64 x.Cap]) es from his)
  have h1 : x.dat.sz ≤ Dat.szs (ms.map DMsg.dat) := szs_mem (List.mem_map.2 ⟨x, List.mem_of_getElem? hx, rfl⟩)
  have h2 : x.dat.sz = 0 + ((Dat.sl 1 (x.Data.map (Dat.int .u8))).sz + (0 + 0)) := rfl
  rw [sz_nums] at h2
  have h3 : (Dat.sl 3 (ms.map DMsg.dat)).sz = (ms.map DMsg.dat).length + Dat.szs (ms.map DMsg.dat) := rfl
  exact ⟨p, t, hp, hc 0 _ rfl, hc 1 _ rfl, hc 2 _ rfl, byAt_of hd (by omega)⟩
theorem ports_of {w : World} {s : Sl} {ps : List DPort} (h : IsD w (.sl 2 (ps.map DPort.dat)) [.slice s.a s.len s.cap]) (hs : (Dat.sl 2 (ps.map DPort.dat)).sz ≤ 1048576) : PortsAt w s ps := by
  refine ⟨(isD_len h).1, fun i x hx => ?_⟩
  obtain ⟨p, es, hp, hl, hc, his⟩ := isD_elem h hx
  obtain ⟨t, rfl, _, hd⟩ := cells_Port (show IsD w (.st [.int .i64 x.Id, .sl 3 (x.Queue.map DMsg.dat)]) es from his)
  have h1 : x.dat.sz ≤ Dat.szs (ps.map DPort.dat) := szs_mem (List.mem_map.2 ⟨x, List.mem_of_getElem? hx, rfl⟩)
  have h2 : x.dat.sz = 0 + ((Dat.sl 3 (x.Queue.map DMsg.dat)).sz + 0) := rfl
  have h3 : (Dat.sl 2 (ps.map DPort.dat)).sz = (ps.map DPort.dat).length + Dat.szs (ps.map DPort.dat) := rfl
  exact ⟨p, t, hp, hc 0 _ rfl, hc 1 _ rfl, msgs_of hd (by omega)⟩
theorem pipes_of {w : World} {s : Sl} {ps : List DPipe} (h : IsD w (.sl 4 (ps.map DPipe.dat)) [.slice s.a s.len s.cap]) (hs : (Dat.sl 4 (ps.map DPipe.dat)).sz ≤ 1048576) : PipesAt w s ps ∧ ∀ x, x ∈ ps → (Lit.int .i64 x.Readers).wf = true ∧ (Lit.int .i64 x.Writers).wf = true := by
  have key : ∀ i x, ps[i]? = some x → (∃ (q : Addr) (t : Sl), s.a = some q ∧ w.cell? ((q.add (i * 4)).add 0) = some (.int .i64 x.Id) ∧ w.cell? ((q.add (i * 4)).add 1) = some (.int .i64 x.Readers) ∧ w.cell? ((q.add (i * 4)).add 2) = some (.int .i64 x.Writers) ∧ w.cell? ((q.add (i * 4)).add 3) = some (.slice t.a t.len t.cap) ∧ ByAt w t x.Data) ∧ (Lit.int .i64 x.Readers).wf = true ∧ (Lit.int .i64 x.Writers).wf = true := fun i x hx => by
    obtain ⟨p, es, hp, hl, hc, his⟩ := isD_elem h hx
    obtain ⟨t, rfl, _, w1, w2, hd⟩ := cells_Pipe (show IsD w (.st [.int .i64 x.Id, .int .i64 x.Readers, .int .i64 x.Writers, .sl 1 (x.Data.map (Dat.int .u8))]) es from his)
    have h1 : x.dat.sz ≤ Dat.szs (ps.map DPipe.dat) := szs_mem (List.mem_map.2 ⟨x, List.mem_of_getElem? hx, rfl⟩)
    have h2 : x.dat.sz = 0 + (0 + (0 + ((Dat.sl 1 (x.Data.map (Dat.int .u8))).sz + 0))) := rfl
    rw [sz_nums] at h2
    have h3 : (Dat.sl 4 (ps.map DPipe.dat)).sz = (ps.map DPipe.dat).length + Dat.szs (ps.map DPipe.dat) := rfl
    exact ⟨⟨p, t, hp, hc 0 _ rfl, hc 1 _ rfl, hc 2 _ rfl, hc 3 _ rfl, byAt_of hd (by omega)⟩, w1, w2⟩
  refine ⟨⟨(isD_len h).1, fun i x hx => (key i x hx).1⟩, fun x hx => ?_⟩
  obtain ⟨i, hi, rfl⟩ := List.getElem_of_mem hx
  exact (key i _ (List.getElem?_eq_getElem hi)).2
theorem caps_of {w : World} {s : Sl} {cs : List DCap} (h : IsD w (.sl 5 (cs.map DCap.dat)) [.slice s.a s.len s.cap]) (hs : cs.length ≤ 1048576) : RecsAt w s 5 DCap.cells cs :=
  ⟨(isD_len h).1, isD_row h (fun _ => rfl) (fun es x hx => DCap.is_cells hx), by omega, fun _ => rfl⟩
theorem caps_wf {w : World} {s : Sl} {cs : List DCap} (h : IsD w (.sl 5 (cs.map DCap.dat)) [.slice s.a s.len s.cap]) : ∀ c, c ∈ cs → c.wf := fun c hc => by
  obtain ⟨i, hi, rfl⟩ := List.getElem_of_mem hc
  obtain ⟨p, es, _, _, _, his⟩ := isD_elem h (List.getElem?_eq_getElem hi)
  have q := isD_st his
  obtain ⟨_, _, rfl, i0, q⟩ := isF_cons q
  obtain ⟨_, _, rfl, i1, q⟩ := isF_cons q
  obtain ⟨_, _, rfl, i2, q⟩ := isF_cons q
  obtain ⟨_, _, rfl, i3, q⟩ := isF_cons q
  obtain ⟨_, _, rfl, i4, q⟩ := isF_cons q
  exact ⟨(isD_int i0).2, (isD_int i1).2, (isD_int i2).2, (isD_int i3).2, (isD_int i4).2⟩
theorem ipc_of {w : World} {cs : List Value} {d : DIpc} (h : IsD w d.dat cs) (hs : d.dat.sz ≤ 1048576) : ∃ sp sc sq : Sl, cs = [.int .i64 d.Next, .slice sp.a sp.len sp.cap, .slice sc.a sc.len sc.cap, .slice sq.a sq.len sq.cap] ∧ IpcAt w sp sc sq d ∧ PipeWf d ∧ (∀ c, c ∈ d.Caps → c.wf) ∧ d.Caps.length ≤ 1048576 := by
  obtain ⟨sp, sc, sq, rfl, _, hp, hc, hq⟩ := cells_Ipc (show IsD w (.st [.int .i64 d.Next, .sl 2 (d.Ports.map DPort.dat), .sl 5 (d.Caps.map DCap.dat), .sl 4 (d.Pipes.map DPipe.dat)]) cs from h)
  have h1 : d.dat.sz = 0 + ((Dat.sl 2 (d.Ports.map DPort.dat)).sz + ((Dat.sl 5 (d.Caps.map DCap.dat)).sz + ((Dat.sl 4 (d.Pipes.map DPipe.dat)).sz + 0))) := rfl
  have h2 : (Dat.sl 5 (d.Caps.map DCap.dat)).sz = (d.Caps.map DCap.dat).length + Dat.szs (d.Caps.map DCap.dat) := rfl
  have h3 : (Dat.sl 2 (d.Ports.map DPort.dat)).sz = (d.Ports.map DPort.dat).length + Dat.szs (d.Ports.map DPort.dat) := rfl
  have h4 : (Dat.sl 4 (d.Pipes.map DPipe.dat)).sz = (d.Pipes.map DPipe.dat).length + Dat.szs (d.Pipes.map DPipe.dat) := rfl
  rw [List.length_map] at h2 h3 h4
  have hpp := pipes_of hq (by omega)
  exact ⟨sp, sc, sq, rfl, ⟨caps_of hc (by omega), ports_of hp (by omega), hpp.1, by omega⟩, ⟨hpp.2⟩, caps_wf hc, by omega⟩
/-! ## IpcOk -/
open Classical in
noncomputable def okF (d : DIpc) : Bool := decide (IOk d)
open Classical in
theorem kb_ok {d : DIpc} {w w' : World} {v : Value} (h : KB (IOk d) w v w') : v = .bool (okF d) ∧ Ext w w' := by
  obtain ⟨b, rfl, hiff, e⟩ := h
  refine ⟨?_, e⟩
  congr 1
  unfold okF
  by_cases hb : b = true
  · rw [hb]; exact (decide_eq_true (hiff.1 hb)).symm
  · have : b = false := by simpa using hb
    rw [this]; exact (decide_eq_false (fun h => hb (hiff.2 h))).symm
theorem specIpcOk {x : DIpc} {w : World} {cs : List Value} (h : IsD w x.dat cs) (hs : x.dat.sz ≤ 1048576) : CallW Try.prog 10 #[.agg ⟨cs⟩] w (fun v w' => v = .bool (okF x) ∧ Ext w w') := by
  obtain ⟨sp, sc, sq, rfl, hd, hwf, _⟩ := ipc_of h hs
  exact (c10 hd hwf.pipes).mono (fun v w' hv => kb_ok hv)
theorem implIpcOk {x : DIpc} {w : World} {cs : List Value} (h : IsD w x.dat cs) (hs : x.dat.sz ≤ 1048576) : CallW Try.prog 12 #[.agg ⟨cs⟩] w (fun v w' => v = .bool (okF x) ∧ Ext w w') := by
  obtain ⟨sp, sc, sq, rfl, hd, hwf, _⟩ := ipc_of h hs
  exact (c12 hd hwf.pipes).mono (fun v w' hv => kb_ok hv)
/-! ## How many marks -/
theorem nums_cnts {k : IntKind} : ∀ l : List Int, Dat.cnts (l.map (Dat.int k)) = l.length
  | [] => rfl
  | a :: r => by simp only [List.map_cons, Dat.cnts, Dat.cnt, nums_cnts r, List.length_cons]; omega
theorem msg_cnts : ∀ l : List DMsg, Dat.cnts (l.map DMsg.dat) ≤ 2 * (l.map DMsg.dat).length + Dat.szs (l.map DMsg.dat)
  | [] => by simp [Dat.cnts]
  | x :: r => by
    have ih := msg_cnts r
    have h1 : x.dat.cnt = 1 + (Dat.cnts (x.Data.map (Dat.int .u8)) + (1 + 0)) := rfl
    have h2 : x.dat.sz = 0 + ((Dat.sl 1 (x.Data.map (Dat.int .u8))).sz + (0 + 0)) := rfl
    rw [sz_nums] at h2
    rw [nums_cnts] at h1
    simp only [List.map_cons, Dat.cnts, Dat.szs, List.length_cons, h1]; omega
theorem port_cnts : ∀ l : List DPort, Dat.cnts (l.map DPort.dat) ≤ (l.map DPort.dat).length + 2 * Dat.szs (l.map DPort.dat)
  | [] => by simp [Dat.cnts]
  | x :: r => by
    have ih := port_cnts r
    have hm := msg_cnts x.Queue
    have h1 : x.dat.cnt = 1 + (Dat.cnts (x.Queue.map DMsg.dat) + 0) := rfl
    have h2 : x.dat.sz = 0 + (((x.Queue.map DMsg.dat).length + Dat.szs (x.Queue.map DMsg.dat)) + 0) := rfl
    simp only [List.map_cons, Dat.cnts, Dat.szs, List.length_cons, h1]; omega
theorem cap_cnts : ∀ l : List DCap, Dat.cnts (l.map DCap.dat) = 5 * l.length
  | [] => rfl
  | x :: r => by
    have ih := cap_cnts r
    have h1 : x.dat.cnt = 5 := rfl
    simp only [List.map_cons, Dat.cnts, List.length_cons, h1]; omega
theorem pipe_cnts : ∀ l : List DPipe, Dat.cnts (l.map DPipe.dat) ≤ 3 * (l.map DPipe.dat).length + Dat.szs (l.map DPipe.dat)
  | [] => by simp [Dat.cnts]
  | x :: r => by
    have ih := pipe_cnts r
    have h1 : x.dat.cnt = 1 + (1 + (1 + (Dat.cnts (x.Data.map (Dat.int .u8)) + 0))) := rfl
    have h2 : x.dat.sz = 0 + (0 + (0 + ((Dat.sl 1 (x.Data.map (Dat.int .u8))).sz + 0))) := rfl
    rw [sz_nums] at h2
    rw [nums_cnts] at h1
    simp only [List.map_cons, Dat.cnts, Dat.szs, List.length_cons, h1]; omega
theorem ipc_cnt {d : DIpc} (hs : d.dat.sz ≤ 1048576) : d.dat.cntT ≤ 8388608 := by
  have h1 : d.dat.sz = 0 + (((d.Ports.map DPort.dat).length + Dat.szs (d.Ports.map DPort.dat)) + (((d.Caps.map DCap.dat).length + Dat.szs (d.Caps.map DCap.dat)) + (((d.Pipes.map DPipe.dat).length + Dat.szs (d.Pipes.map DPipe.dat)) + 0))) := rfl
  have h2 : d.dat.cntT = 0 + (Dat.cnts (d.Ports.map DPort.dat) + (Dat.cnts (d.Caps.map DCap.dat) + (Dat.cnts (d.Pipes.map DPipe.dat) + 0))) := rfl
  have h3 := port_cnts d.Ports
  have h4 := cap_cnts d.Caps
  have h5 := pipe_cnts d.Pipes
  rw [List.length_map] at h1 h3 h5
  rw [List.length_map, List.length_map] at h1
  omega
/-! ## CapsOf, CapsBelow -/
theorem cap_ce (x : DCap) : x.dat.ce = x.cells.map Ce.v := by simp [DCap.dat, DCap.cells, Dat.ce, Dat.ces]
theorem caps_ceE (l : List DCap) : Dat.ceE (l.map DCap.dat) = recs DCap.cells l := by
  rw [ceE_map]; unfold recs; congr 1
theorem capsOf_sub {d : DIpc} {hl : Int} : (∀ c, c ∈ capsOfF d hl → c ∈ d.Caps) ∧ (capsOfF d hl).length ≤ d.Caps.length := by
  unfold capsOfF
  split
  · exact ⟨fun c hc => (List.mem_filter.1 hc).1, List.length_filter_le _ _⟩
  · exact ⟨(fun c hc => by cases hc), Nat.zero_le _⟩
def CapsS (n : Nat) : Prop := ∀ {x : DIpc} {hl : Int} {w : World} {cs : List Value} (h : IsD w x.dat cs) (hs : x.dat.sz ≤ 1048576), CallW Try.prog n #[.agg ⟨cs⟩, .int .i64 hl] w (fun v w' => ∃ y : Sl, v = .slice y.a y.len y.cap ∧ Fr w.heap.size w'.heap.size w' (.sl 5 ((capsOfF x hl).map DCap.dat)) [.slice y.a y.len y.cap] ∧ Ext w w')
theorem caps_post {x : DIpc} {hl : Int} {w w' : World} {v : Value} (hw : ∀ c, c ∈ x.Caps → c.wf) (hlen : x.Caps.length ≤ 1048576) (h : CapsR (capsOfF x hl) w v w') : ∃ y : Sl, v = .slice y.a y.len y.cap ∧ Fr w.heap.size w'.heap.size w' (.sl 5 ((capsOfF x hl).map DCap.dat)) [.slice y.a y.len y.cap] ∧ Ext w w' := by
  obtain ⟨t, rfl, h⟩ := h
  refine ⟨t, rfl, SH.frRow (F := []) (by rw [caps_ceE]; exact h) ?_, h.ext⟩
  have hm : maxLen = 9223372036854775807 := rfl
  have hsub := capsOf_sub (d := x) (hl := hl)
  simp only [Dat.fit, List.length_map, fits_iff, List.mem_map]
  refine ⟨by omega, ?_⟩
  rintro d ⟨c, hc, rfl⟩
  obtain ⟨w1, w2, w3, w4, w5⟩ := hw c (hsub.1 c hc)
  simp only [DCap.dat, Dat.fit, Dat.fits]
  exact ⟨w1, w2, w3, w4, w5, trivial⟩
theorem specCapsOf : CapsS 14 := fun h hs => by
  obtain ⟨sp, sc, sq, rfl, hd, hwf, hw, hl⟩ := ipc_of h hs
  exact (c14 hd hwf).mono (fun v w' hv => caps_post hw hl hv)
theorem implCapsOf : CapsS 15 := fun h hs => by
  obtain ⟨sp, sc, sq, rfl, hd, hwf, hw, hl⟩ := ipc_of h hs
  exact (c15 hd hwf).mono (fun v w' hv => caps_post hw hl hv)
theorem capsOf_has (x : DIpc) (hl : Int) : ∀ e, e ∈ (capsOfF x hl).map DCap.dat → Has TyCap e := fun e he => by obtain ⟨y, _, rfl⟩ := List.mem_map.1 he; exact DCap.has _
theorem capsOf_cnt {x : DIpc} {hl : Int} (hs : x.dat.sz ≤ 1048576) : Dat.cnts ((capsOfF x hl).map DCap.dat) ≤ 5242880 := by
  have h1 : x.dat.sz = 0 + (((x.Ports.map DPort.dat).length + Dat.szs (x.Ports.map DPort.dat)) + (((x.Caps.map DCap.dat).length + Dat.szs (x.Caps.map DCap.dat)) + (((x.Pipes.map DPipe.dat).length + Dat.szs (x.Pipes.map DPipe.dat)) + 0))) := rfl
  have := (capsOf_sub (d := x) (hl := hl)).2
  rw [cap_cnts]; rw [List.length_map, List.length_map, List.length_map] at h1; omega
theorem below_sub {d : DIpc} {top : Int} : (∀ n, n ∈ belowF d top → ∃ c, c ∈ d.Caps ∧ c.Id = n) ∧ (belowF d top).length ≤ d.Caps.length := by
  unfold belowF
  split
  · refine ⟨fun n hn => ?_, by rw [List.length_map]; exact List.length_filter_le _ _⟩
    obtain ⟨c, hc, rfl⟩ := List.mem_map.1 hn
    exact ⟨c, (List.mem_filter.1 hc).1, rfl⟩
  · exact ⟨(fun c hc => by cases hc), Nat.zero_le _⟩
def BelowS (n : Nat) : Prop := ∀ {x : DIpc} {top : Int} {w : World} {cs : List Value} (h : IsD w x.dat cs) (hs : x.dat.sz ≤ 1048576), CallW Try.prog n #[.agg ⟨cs⟩, .int .i64 top] w (fun v w' => ∃ y : Sl, v = .slice y.a y.len y.cap ∧ Fr w.heap.size w'.heap.size w' (.sl 1 ((belowF x top).map (Dat.int .i64))) [.slice y.a y.len y.cap] ∧ Ext w w')
theorem below_post {x : DIpc} {top : Int} {w w' : World} {v : Value} (hw : ∀ c, c ∈ x.Caps → c.wf) (hlen : x.Caps.length ≤ 1048576) (h : IdsR (belowF x top) w v w') : ∃ y : Sl, v = .slice y.a y.len y.cap ∧ Fr w.heap.size w'.heap.size w' (.sl 1 ((belowF x top).map (Dat.int .i64))) [.slice y.a y.len y.cap] ∧ Ext w w' := by
  obtain ⟨t, rfl, h⟩ := h
  refine ⟨t, rfl, SH.frRow (F := []) (by rw [ceE_nums]; exact h) ?_, h.ext⟩
  have hm : maxLen = 9223372036854775807 := rfl
  have hsub := below_sub (d := x) (top := top)
  simp only [Dat.fit, List.length_map, fits_iff, List.mem_map]
  refine ⟨by omega, ?_⟩
  rintro d ⟨n, hn, rfl⟩
  obtain ⟨c, hc, rfl⟩ := hsub.1 n hn
  exact (hw c hc).1
theorem specCapsBelow : BelowS 20 := fun h hs => by
  obtain ⟨sp, sc, sq, rfl, hd, hwf, hw, hl⟩ := ipc_of h hs
  exact (c20 hd hwf).mono (fun v w' hv => below_post hw hl hv)
theorem implCapsBelow : BelowS 21 := fun h hs => by
  obtain ⟨sp, sc, sq, rfl, hd, hwf, hw, hl⟩ := ipc_of h hs
  exact (c21 hd hwf).mono (fun v w' hv => below_post hw hl hv)
theorem below_has (x : DIpc) (top : Int) : ∀ e, e ∈ (belowF x top).map (Dat.int .i64) → Has (.int .i64) e := fun e he => by obtain ⟨y, _, rfl⟩ := List.mem_map.1 he; exact mk_int
theorem below_cnt {x : DIpc} {top : Int} (hs : x.dat.sz ≤ 1048576) : Dat.cnts ((belowF x top).map (Dat.int .i64)) ≤ 1048576 := by
  have h1 : x.dat.sz = 0 + (((x.Ports.map DPort.dat).length + Dat.szs (x.Ports.map DPort.dat)) + (((x.Caps.map DCap.dat).length + Dat.szs (x.Caps.map DCap.dat)) + (((x.Pipes.map DPipe.dat).length + Dat.szs (x.Pipes.map DPipe.dat)) + 0))) := rfl
  have := (below_sub (d := x) (top := top)).2
  rw [nums_cnts]; rw [List.length_map, List.length_map, List.length_map] at h1; omega
end Go.Proofs.Ytbimoajgofcmbaa

/- The walk of a law: copies, both sides, comparisons; printed by a program. Conditions: none. -/
set_option linter.unusedVariables false
set_option linter.unusedSimpArgs false
set_option maxRecDepth 4000
namespace Go.Proofs.Ytbimoajgofcmbaa
open Go Go.Den
theorem goc3 {a0_0 : Int} {a0_1 : Sl} {a0_2 : Sl} {a0_3 : Sl} {w : World} {K : Value → World → Prop} (h : W3 a0_0 a0_1 a0_2 a0_3 w K) : Calls Try.prog 3 #[.agg #[.int .i64 a0_0, .slice a0_1.a a0_1.len a0_1.cap, .slice a0_2.a a0_2.len a0_2.cap, .slice a0_3.a a0_3.len a0_3.cap]] w (fun e w' => ∃ v, e = .returned v ∧ K v w') :=
  denFn_sound tt_ok mix Try.func3 (by kernel_rfl) (eq3 a0_0 a0_1 a0_2 a0_3 w K ▸ h)
theorem walk3 {w : World} {x : DIpc} {cs0 : List Value} (h0 : IsD w (x.dat) cs0) : Calls Try.prog 3 #[.agg ⟨cs0⟩] w (fun e w' => ∃ v, e = .returned v ∧ (v = .bool true ∧ Ext w w')) := by
  obtain ⟨p0_1, p0_2, p0_3, rfl, _, _, _, _⟩ := cells_Ipc h0
  refine goc3 ?_
  unfold W3
  refine alloc_step (fun w1 ew1 hbw1 nw1 => ?_)
  have e := ew1
  have zw1 := ew1.size
  refine ⟨_, hbw1.cell 0, ?_⟩
  refine ⟨p0_1, hbw1.cell 1, ?_⟩
  refine ⟨p0_2, hbw1.cell 2, ?_⟩
  refine ⟨p0_3, hbw1.cell 3, ?_⟩
  refine (c9 (DIpc.has _) (IsD.ext e _ _ h0) (by omega) (by omega)).mono ?_
  rintro _ w7 ⟨⟨rw7, rfl, hrw7⟩, ew7⟩
  have hbw1 := hbw1.ext ew7
  have e := Only.trans e ew7
  have zw7 := ew7.size
  refine ⟨_, rfl, ?_⟩
  refine BIf.dec (fun hn => ⟨rfl, e⟩) (fun hpw7 => ?_)
  have sz0 : (x.dat).sz ≤ 1048576 := by omega
  refine ⟨_, hbw1.cell 0, ?_⟩
  refine ⟨p0_1, hbw1.cell 1, ?_⟩
  refine ⟨p0_2, hbw1.cell 2, ?_⟩
  refine ⟨p0_3, hbw1.cell 3, ?_⟩
  refine (c11 (DIpc.has _) (IsD.ext e _ _ h0) (by have := sz0; omega)).mono ?_
  rintro _ w14 ⟨yw14, rfl, fw14, ew14⟩
  have hbw1 := hbw1.ext ew14
  have e := Only.trans e ew14
  have zw14 := ew14.size
  have hiyw14 := fw14.is
  obtain ⟨ryw14_1, ryw14_2, ryw14_3, rfl, _, _, _, _⟩ := cells_Ipc hiyw14
  refine ⟨_, ryw14_1, ryw14_2, ryw14_3, rfl, ?_⟩
  refine (specIpcOk fw14.is sz0).mono ?_
  rintro _ w20 ⟨rfl, ew20⟩
  have hbw1 := hbw1.ext ew20
  have fw14 := fw14.ext ew20
  have e := Only.trans e ew20
  have zw20 := ew20.size
  refine ⟨_, rfl, ?_⟩
  refine ⟨_, hbw1.cell 0, ?_⟩
  refine ⟨p0_1, hbw1.cell 1, ?_⟩
  refine ⟨p0_2, hbw1.cell 2, ?_⟩
  refine ⟨p0_3, hbw1.cell 3, ?_⟩
  refine (c11 (DIpc.has _) (IsD.ext e _ _ h0) (by have := sz0; omega)).mono ?_
  rintro _ w27 ⟨yw27, rfl, fw27, ew27⟩
  have hbw1 := hbw1.ext ew27
  have fw14 := fw14.ext ew27
  have e := Only.trans e ew27
  have zw27 := ew27.size
  have hiyw27 := fw27.is
  obtain ⟨ryw27_1, ryw27_2, ryw27_3, rfl, _, _, _, _⟩ := cells_Ipc hiyw27
  refine ⟨_, ryw27_1, ryw27_2, ryw27_3, rfl, ?_⟩
  refine alloc_step (fun w32 ew32 hbw32 nw32 => ?_)
  have hbw1 := hbw1.ext ew32
  have fw14 := fw14.ext ew32
  have fw27 := fw27.ext ew32
  have e := Only.trans e ew32
  have zw32 := ew32.size
  refine put_step hbw32 rfl rfl (fun w33 ow33 hbw32q nw33 => ?_)
  have hbw1 := hbw1.only ow33 (by omega)
  have fw14 := fw14.only ow33 (fun k h1 h2 => by omega)
  have fw27 := fw27.only ow33 (fun k h1 h2 => by omega)
  have e := Ext.own e ow33 (fun k hk => by omega)
  have hbw32 := hbw32q
  refine ⟨_, hbw32.cell 0, ?_⟩
  refine ⟨ryw27_1, hbw32.cell 1, ?_⟩
  refine ⟨ryw27_2, hbw32.cell 2, ?_⟩
  refine ⟨ryw27_3, hbw32.cell 3, ?_⟩
  refine (implIpcOk fw27.is sz0).mono ?_
  rintro _ w39 ⟨rfl, ew39⟩
  have hbw1 := hbw1.ext ew39
  have hbw32 := hbw32.ext ew39
  have fw14 := fw14.ext ew39
  have fw27 := fw27.ext ew39
  have e := Only.trans e ew39
  have zw39 := ew39.size
  refine ⟨_, rfl, ?_⟩
  refine BIf.f (by first | (simp; done) | (simp; omega)) ?_
  have ed := ext_drew w39
  have hbw1 := hbw1.ext ed
  have hbw32 := hbw32.ext ed
  have fw14 := fw14.ext ed
  have fw27 := fw27.ext ed
  have e := Only.trans e ed
  have zw39_drew := ed.size
  refine ⟨_, hbw32.cell 0, ?_⟩
  refine ⟨ryw27_1, hbw32.cell 1, ?_⟩
  refine ⟨ryw27_2, hbw32.cell 2, ?_⟩
  refine ⟨ryw27_3, hbw32.cell 3, ?_⟩
  refine ⟨_, hbw1.cell 0, ?_⟩
  refine ⟨p0_1, hbw1.cell 1, ?_⟩
  refine ⟨p0_2, hbw1.cell 2, ?_⟩
  refine ⟨p0_3, hbw1.cell 3, ?_⟩
  refine (c11 (DIpc.has _) (IsD.ext e _ _ h0) (by have := sz0; omega)).mono ?_
  rintro _ w50 ⟨yw50, rfl, fw50, ew50⟩
  have hbw1 := hbw1.ext ew50
  have hbw32 := hbw32.ext ew50
  have fw14 := fw14.ext ew50
  have fw27 := fw27.ext ew50
  have e := Only.trans e ew50
  have zw50 := ew50.size
  have hiyw50 := fw50.is
  obtain ⟨ryw50_1, ryw50_2, ryw50_3, rfl, _, _, _, _⟩ := cells_Ipc hiyw50
  refine ⟨_, ryw50_1, ryw50_2, ryw50_3, rfl, ?_⟩
  refine ⟨⟨_, hbw32.cell 0, ryw27_1, hbw32.cell 1, ryw27_2, hbw32.cell 2, ryw27_3, hbw32.cell 3, rfl⟩, ?_⟩
  refine (c13 (DIpc.has _) fw27.is fw50.is).mono ?_
  rintro _ w60 ⟨rfl, ew60⟩
  have hbw1 := hbw1.ext ew60
  have hbw32 := hbw32.ext ew60
  have fw14 := fw14.ext ew60
  have fw27 := fw27.ext ew60
  have fw50 := fw50.ext ew60
  have e := Only.trans e ew60
  have zw60 := ew60.size
  refine ⟨_, rfl, ?_⟩
  refine BIf.f rfl ?_
  exact ⟨by trivial, e⟩
open Go.RowKit in
theorem law_calls3 {w : World} {c0 : Array Value} {x : DIpc} (h0 : cDIpc.is w c0.toList x) : Calls Try.prog 3 #[.agg c0] w (fun e w' => e = .returned (.bool true) ∧ Below w.heap.size w w') :=
  (walk3 (cDIpc_dat h0)).mono (by rintro e w' ⟨v, rfl, rfl, he⟩; exact ⟨rfl, he.below⟩)
end Go.Proofs.Ytbimoajgofcmbaa

/- The row of the law FnExactIpcOk: what its walk shows is what the statement says. Conditions: none. -/
namespace Go.Proofs.Ytbimoajgofcmbaa.fnExactIpcOk
open Go.ChangeShapes Go.WideShapes Go.ChangeAt Go.RowKit
open Go.ChangeMaps (open_string shut_string)
set_option linter.unusedVariables false
theorem own : ownKnob Try.prog.godebug = none := by kernel_rfl
theorem laidOut : laidOutB Try.prog = true := by kernel_rfl
set_option maxRecDepth 100000 in
theorem lifted (os : Os) (started : os.Started) (H : Type) (enc : TypeId × Value → H) :
    ReturnsInHanded {} Try.checked os 3 .any (Rows.fnExactIpcOkSpec.pre6 enc Try.prog Try.f3 Rows.fnExactIpcOkRow.domain false) (Rows.fnExactIpcOkSpec.post enc Try.prog Try.f3 false true false false) := by
  refine returnsInHanded_of_change_sized (C := Try.checked) own started (by kernel_rfl) Try.func3
    (ChangeSpec.witness6 (enc := enc) (C := Try.checked) false ⟨#[], #[.agg #[.int .i64 0, .slice none 0 0, .slice none 0 0, .slice none 0 0]], []⟩ 8 (by kernel_rfl) (by kernel_rfl) (by kernel_rfl) (by kernel_rfl)) ?_
  intro W base args ds gs before hval0 hW hcnd hsz0 _
  have hsz : (DataW.weightsEach Try.prog (Try.f3.params.toList ++ Rows.fnExactIpcOkSpec.plain.varTypes Try.prog) (ds ++ gs)).all (· ≤ reachBytes) = true := hsz0
  have hval : ∀ (j : Nat) t v, Try.f3.params[j]? = some t → args[j]? = some v → Value.okWide Try.prog W .any base t v := hval0
  have hW' := hW
  obtain ⟨p, q, hA0, hV, rfl, hfz, hnd⟩ := hW
  have hA : DataW.TrodAll enc Try.prog W 0 (fun _ => true) true Try.f3.params.toList args.toList ds p := hA0
  rw [Try.params3] at hA hval hsz
  obtain ⟨v0, vs0, d0, ds0, p0, q0, hargs, rfl, rfl, h0, r0⟩ := trodAll_cons hA
  obtain ⟨rfl, rfl, rfl⟩ := trodAll_nil r0
  obtain rfl : args = #[v0] := by cases args; simp_all
  obtain ⟨rfl, rfl⟩ := trodVars_none hV
  have k0 := h0
  have lt0 : ∀ x ∈ p0, x.block < W.heap.size := by obtain ⟨m, hm⟩ := k0; exact DataW.trod_lt m _ _ _ hm
  obtain ⟨c0, rfl⟩ : ∃ cs, v0 = .agg cs := by have hv := (hval 0 26 v0 rfl rfl); unfold Value.okWide at hv; rw [Try.underlying26] at hv; exact ⟨hv.choose, hv.choose_spec.1⟩
  obtain ⟨x0, w0⟩ : ∃ x, (cDIpc).is W c0.toList x := by obtain ⟨fuel, hf⟩ := h0; exact ((o26).at_ enc W fuel _ _ hf).2
  clear hA0 hval0 hsz0 hsz
  refine (law_calls3 w0).mono fun e W' ⟨he, bel⟩ => ?_
  subst he
  exact ⟨_, rfl, _, _, _, [], _, [], hW', trodAll_mk1 (shut_bool Try.underlying4 _), (trodAll_cons_mk (Below.trod laidOut (by kernel_rfl) (of_decide_eq_true (by kernel_rfl)) k0 bel lt0) trodAll_mk0), rfl, bel.frame _, fun h => by cases h⟩
theorem over : Rows.fnExactIpcOkRow.holds Try.pinned (OpenSpec.ofChange Rows.fnExactIpcOkSpec) :=
  OpenClaim.holds_of_wide 3 Try.f3 rfl rfl rfl rfl rfl rfl rfl ⟨rfl, rfl, rfl, rfl, rfl⟩ rfl rfl rfl rfl rfl (by kernel_rfl) Try.func3 (by kernel_rfl)
    (of_decide_eq_true (by kernel_rfl)) (by unfold Func.isWrapper; first | (rw [if_pos (by decide +kernel)]; kernel_rfl) | (rw [if_neg (by decide +kernel)]; exact ⟨rfl, rfl⟩))
    (fun os started H enc _ => lifted os started H enc)
theorem proved : Rows.FnExactIpcOkSaid := over
#print axioms proved
end Go.Proofs.Ytbimoajgofcmbaa.fnExactIpcOk
namespace Go.Proofs.Ytbimoajgofcmbaa
/-- The row, under a short name, for the claim. -/
theorem fnExactIpcOk_holds : Rows.FnExactIpcOkSaid := fnExactIpcOk.proved
end Go.Proofs.Ytbimoajgofcmbaa
