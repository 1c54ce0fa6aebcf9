/- Part 6 of 6: plain readings of code, rules for them, and a proof over them, joined by a program. Conditions: none. -/
import Derived.Test.YteigefjiifihpaaPtld5
import Derived.Test.YteigefjiifihpaaRows
import Derived.WalkKit
import Derived.ProofKit
import Derived.OpenShut
import Derived.ShutString
import Derived.ChangeOld
import Derived.Below
import Derived.Carry
import Derived.SizedLaws
/- FnProcTold: what an operation tells; the law's walk (two regions printed by a program). Conditions: none. -/
set_option linter.unusedVariables false
set_option linter.unusedSimpArgs false
namespace Go.Proofs.Yteigefjiifihpaa
open Go Go.Den
theorem sendF_len (l : List DProc) (i sig : Nat) : (sendF l i sig).length = l.length := by
  unfold sendF; split
  · exact List.length_set ..
  · rfl
theorem endA_len (l : List DProc) (id : Int) : (endA l id).length = l.length := by
  unfold endA; split
  · rw [sendF_len, List.length_map]
  · rw [List.length_map]
theorem filter_id_len {l : List DProc} (h : PInv l) {i : Nat} {x : DProc} (hx : l[i]? = some x) : (l.filter (fun y => y.Id != x.Id)).length + 1 = l.length := by
  have hi := (List.getElem?_eq_some_iff.1 hx).1
  rw [← h.srt.erase hx, List.length_append, List.length_take, List.length_drop]
  omega
theorem endF_len {l : List DProc} (h : PInv l) {x : DProc} (hx : x ∈ l) (h1 : x.Id ≠ 1) (status : Int) : (endF l x.Id status).length = l.length ∨ (endF l x.Id status).length + 1 = l.length := by
  have hid := (h.ok x hx).id
  obtain ⟨g1, g2, g3⟩ := h.endA (id := x.Id) (by omega)
  obtain ⟨i, hi⟩ := List.getElem?_of_mem hx
  obtain ⟨y, hy, hyid⟩ := g3 i x hi
  have hl := endA_len l x.Id
  unfold endF endB
  obtain ⟨e1, e2⟩ := g1.ix hy
  rw [hyid] at e1 e2
  rw [e2]
  dsimp only
  obtain ⟨j, u, hj, f1, f2, f3, f4⟩ := g1.up (List.mem_of_getElem? hy) (by omega)
  rw [f4]
  dsimp only
  split
  · right
    have := filter_id_len g1 hy
    rw [hyid] at this
    omega
  · left
    rw [sendF_len, List.length_set]; exact hl
structure ToldP (l : List DProc) (k id : Int) (r : PRes) : Prop where
  one : k = 1 → r.1.length = l.length + 1
  three : k = 3 → r.1.length + 1 = l.length ∧ ∃ x, x ∈ l ∧ x.Id = r.2.2.1 ∧ x.State = 3 ∧ x.Status = r.2.2.2 ∧ x.Parent = id
  end_ : k = 2 ∨ k = 7 → r.1.length = l.length ∨ r.1.length + 1 = l.length
  other : k ≠ 1 → k ≠ 2 → k ≠ 3 → k ≠ 7 → r.1.length = l.length
theorem stepP_told {l : List DProc} (hv : PInv l) {k id to_ n : Int} (h0 : (stepP l k id to_ n).2.1 = 0) : ToldP l k id (stepP l k id to_ n) := by
  have same : ∀ (a : List DProc) (b c d : Int), a.length = l.length → k ≠ 1 → k ≠ 3 → ToldP l k id (a, b, c, d) := fun a b c d ha h1 h3 => ⟨fun e => absurd e h1, fun e => absurd e h3, fun _ => .inl ha, fun _ _ _ _ => ha⟩
  have no : ∀ (b : Int) (P : Prop), b ≠ 0 → (((l, b, 0, 0) : PRes).2.1 = 0) → P := fun b P hb e => absurd e hb
  by_cases hb : k < 1 ∨ k > 9
  · rw [stepP_bad hb] at h0; exact no 1 _ (by decide) h0
  rcases ixP_find l id with ⟨g1, g2⟩ | ⟨i, x, g1, g2, g3⟩
  · rw [stepP_none hv hb g1] at h0; exact no 3 _ (by decide) h0
  rw [stepP_some hb g1 g2] at h0 ⊢
  have hxm := List.mem_of_getElem? g2
  have hxid := (prOf_some g3).2
  by_cases hz : x.State = 3
  · rw [if_pos hz] at h0; exact no 21 _ (by decide) h0
  rw [if_neg hz] at h0 ⊢
  unfold prR at h0 ⊢
  by_cases k1 : k = 1
  · rw [if_pos k1] at h0 ⊢
    by_cases hl : l.length = 32
    · rw [if_pos hl] at h0; exact no 18 _ (by decide) h0
    · rw [if_neg hl]
      obtain ⟨_, q1, _, _⟩ := hv.gap
      have : (forkF l x).length = l.length + 1 := by
        unfold forkF
        rw [List.length_append, List.length_cons, List.length_take, List.length_drop]
        omega
      exact ⟨fun _ => this, fun e => by omega, fun e => by omega, fun e => absurd k1 e⟩
  rw [if_neg k1] at h0 ⊢
  by_cases k2 : k = 2
  · rw [if_pos k2] at h0 ⊢
    by_cases hn : n < 0 ∨ n > 255
    · rw [if_pos hn] at h0; exact no 1 _ (by decide) h0
    rw [if_neg hn] at h0 ⊢
    by_cases hi1 : id = 1
    · rw [if_pos hi1] at h0; exact no 2 _ (by decide) h0
    rw [if_neg hi1]
    have := endF_len hv hxm (by omega) n
    rw [hxid] at this
    exact ⟨fun e => absurd e k1, fun e => by omega, fun _ => this, fun _ e => absurd k2 e⟩
  rw [if_neg k2] at h0 ⊢
  by_cases k3 : k = 3
  · rw [if_pos k3] at h0 ⊢
    unfold waitR at h0 ⊢
    rcases hf : l.find? (fun y => y.Parent == x.Id && meant x to_ y && y.State == 3) with _ | z
    · rw [hf] at h0
      dsimp only at h0
      split at h0
      · exact no 9 _ (by decide) h0
      · exact no 11 _ (by decide) h0
    · rw [hf]
      dsimp only
      have hzm := List.mem_of_find?_eq_some hf
      have hzp := List.find?_some hf
      simp only [Bool.and_eq_true, beq_iff_eq] at hzp
      obtain ⟨j, hj⟩ := List.getElem?_of_mem hzm
      have := filter_id_len hv hj
      exact ⟨fun e => absurd e k1, fun _ => ⟨this, z, hzm, rfl, hzp.2, rfl, by rw [hzp.1.1]; exact hxid⟩, fun e => by omega, fun _ _ e => absurd k3 e⟩
  rw [if_neg k3] at h0 ⊢
  by_cases k4 : k = 4
  · rw [if_pos k4]
    unfold killR
    split
    · exact same _ _ _ _ rfl k1 k3
    split
    · exact same _ _ _ _ rfl k1 k3
    split
    · exact same _ _ _ _ rfl k1 k3
    · refine same _ _ _ _ ?_ k1 k3
      split
      · exact List.length_map ..
      · rfl
  rw [if_neg k4] at h0 ⊢
  by_cases k5 : k = 5
  · rw [if_pos k5]
    unfold maskR
    split
    · exact same _ _ _ _ (List.length_set ..) k1 k3
    · exact same _ _ _ _ rfl k1 k3
  rw [if_neg k5] at h0 ⊢
  by_cases k6 : k = 6
  · rw [if_pos k6]
    unfold actR
    split
    · exact same _ _ _ _ rfl k1 k3
    · exact same _ _ _ _ (List.length_set ..) k1 k3
  rw [if_neg k6] at h0 ⊢
  by_cases k7 : k = 7
  · rw [if_pos k7]
    unfold takeR
    split
    · exact same _ _ _ _ rfl k1 k3
    split
    · exact same _ _ _ _ (List.length_set ..) k1 k3
    split
    · exact same _ _ _ _ (List.length_set ..) k1 k3
    split
    · exact same _ _ _ _ (List.length_set ..) k1 k3
    · rename_i h3
      have hil := (List.getElem?_eq_some_iff.1 g2).1
      have ho := hv.ok x hxm
      have hv1 := hv.sim (hv.turn g2 hz ho.grp ho.usr (ho.alive hz) (VS.less ho.pend (i := sigOf x) (by have := (sigOf_le x).1; omega)) ho.mask ho.ign ho.cau ho.apart)
      have := endF_len hv1 (x := ⟨x.Id, x.Parent, x.Group, x.User, x.State, x.Status, lessS x.Pending (sigOf x), x.Mask, x.Ignored, x.Caught⟩) (List.mem_of_getElem? (List.getElem?_set_self hil)) (fun e => h3 (.inr (.inr e))) (128 + (sigOf x : Nat))
      rw [List.length_set] at this
      exact ⟨fun e => absurd e k1, fun e => absurd e k3, fun _ => this, fun _ _ _ e => absurd k7 e⟩
  rw [if_neg k7] at h0 ⊢
  by_cases k8 : k = 8
  · rw [if_pos k8]
    unfold grpR
    split
    · exact same _ _ _ _ rfl k1 k3
    split
    · exact same _ _ _ _ rfl k1 k3
    split
    · exact same _ _ _ _ rfl k1 k3
    split
    · exact same _ _ _ _ (List.length_set ..) k1 k3
    · exact same _ _ _ _ rfl k1 k3
  rw [if_neg k8]
  unfold usrR
  split
  · exact same _ _ _ _ rfl k1 k3
  split
  · exact same _ _ _ _ rfl k1 k3
  · exact same _ _ _ _ (List.length_set ..) k1 k3
theorem goc9 {a0 : Sl} {w : World} {K : Value → World → Prop} (h : W9 a0 w K) : Calls Try.prog 9 #[.slice a0.a a0.len a0.cap] w (fun e w' => ∃ v, e = .returned v ∧ K v w') :=
  denFn_sound tt_ok mix Try.func9 (by kernel_rfl) (eq9 a0 w K ▸ h)
set_option maxHeartbeats 1000000 in
theorem walk9 {w : World} {bs : List Int} {p0 : Sl} (h0 : IsD w (.sl 1 (bs.map (Dat.int .u8))) [.slice p0.a p0.len p0.cap]) : Calls Try.prog 9 #[.slice p0.a p0.len p0.cap] w (fun e w' => ∃ v, e = .returned v ∧ (v = .bool true ∧ Ext w w')) := by
  refine goc9 ?_
  unfold W9
  refine c29.mono ?_
  rintro _ w2 ⟨rfl, rfl⟩
  refine ⟨_, rfl, BIf.dec (fun _ => ⟨rfl, Only.refl _ _⟩) (fun hbig => ?_)⟩
  have hb := curb_of h0 (by omega)
  refine (s56 (SH.start w2)).mono ?_
  rintro _ w5 ⟨t0, rfl, h⟩
  refine ⟨t0, rfl, ?_⟩
  refine h.alloc (fun w7 h e7 n7 => ?_)
  refine h.setV 0 rfl rfl (fun w8 h n8 => ?_)
  refine ⟨t0, h.cell 0 rfl rfl, (c57 (qatOf h 1 rfl (by decide))).mono ?_⟩
  rintro _ w11 ⟨b12, rfl, hb12, e11⟩
  have h := h.to e11
  refine ⟨b12, rfl, BIf.f (by rw [hb12.2 new_inv]; rfl) ((s58 h hb).mono ?_)⟩
  rintro _ w14 ⟨o, ops, rfl, hops, hto, h⟩
  have hol := h.len 0 rfl
  rw [recs_len] at hol
  have h : SH w2 w14 [RO4 o ops, RP t0 [proc1], BS w5.heap.size t0] := (h.front (n := 2) rfl).front (n := 1) rfl
  refine ⟨o, rfl, ?_⟩
  refine LoopW.m1 (fun (i : Int) w' => ∃ (k : Nat) (l : List DProc) (t : Sl), i = k ∧ k ≤ 60 ∧ PInv l ∧ SH w2 w' [RO4 o ops, RP t l, BS w5.heap.size t]) (fun (i : Int) _ => (60 - i).toNat) ⟨0, _, t0, rfl, by omega, new_inv, h⟩ ?_
  clear h
  rintro (i : Int) w18 ⟨k, l, t, rfl, hk, hv, h⟩ J hJ
  refine join_and.2 ?_
  refine BIf.of (fun hc => ?_) (fun hc => ⟨rfl, h.ext⟩)
  simp only [Bool.and_eq_true, decide_eq_true_eq] at hc
  have hget : ops[k]? = some ops[k] := List.getElem?_eq_getElem (by omega)
  have hop := hto _ (List.mem_of_getElem? hget)
  generalize ops[k] = op at *
  obtain ⟨q, hqa⟩ := h.rowQ 0 rfl hget
  have hlen := hv.len
  have hrng : ∀ x, x ∈ l → Rng x := fun x hx => (hv.ok x hx).rng
  have hres : pstepR l op.Kind op.Id op.To op.N = stepP l op.Kind op.Id op.To op.N := by unfold pstepR; rw [if_pos hv]
  have hv2 := hv.step op.Kind op.Id op.To op.N
  have hkept := stepP_kept l op.Kind op.Id op.To op.N
  have htold := stepP_told (k := op.Kind) (id := op.Id) (to_ := op.To) (n := op.N) hv
  generalize stepP l op.Kind op.Id op.To op.N = r at *
  simp only [Int.toNat_natCast]
  rw [w64 (n := (k : Int) + 1) (by omega) (by omega)]
  refine JoinW.cut2 (fun (p22 p23 : Option Addr) w' => ∃ (b c : Nat) (t' : Sl), p22 = some ⟨b, 0, none⟩ ∧ p23 = some ⟨c, 0, none⟩ ∧ SH w2 w' [BS b t', RP t' r.1, aB c ((rs3 r.2.1 r.2.2.1 r.2.2.2).map Ce.v), RO4 o ops, RP t l, BS w5.heap.size t]) ?_ ?_
  · have h := h.drew
    refine ⟨t, h.cell 2 rfl rfl, by omega, by omega, q, hqa, _, h.rdR 0 rfl hqa hget rfl, _, h.rdR 0 rfl hqa hget rfl, _, h.rdR 0 rfl hqa hget rfl, _, h.rdR 0 rfl hqa hget rfl, ?_⟩
    refine ⟨?_, ?_⟩
    · skip
      refine (s51 (qatOf h 1 rfl (by omega)) hrng hop).mono ?_
      rintro _ w276 ⟨tw276, rfl, g⟩
      rw [hres] at g ⊢
      have h := h.seq g
      refine ⟨tw276, _, _, _, rfl, ?_⟩
      refine ⟨?_, ?_⟩
      · skip
        refine h.alloc (fun w295 h ew295 nw295 => ?_)
        refine ⟨⟨_, h.rdR 2 rfl hqa hget rfl, _, h.rdR 2 rfl hqa hget rfl, _, h.rdR 2 rfl hqa hget rfl, _, h.rdR 2 rfl hqa hget rfl, rfl⟩, ?_⟩
        refine ⟨⟨t, h.cell 4 rfl rfl, rfl⟩, ?_⟩
        refine ⟨?_, trivial⟩
        refine h.alloc (fun w301 h ew301 nw301 => ?_)
        refine ⟨⟨_, h.rdR 3 rfl hqa hget rfl, _, h.rdR 3 rfl hqa hget rfl, _, h.rdR 3 rfl hqa hget rfl, _, h.rdR 3 rfl hqa hget rfl, rfl⟩, ?_⟩
        refine ⟨⟨t, h.cell 5 rfl rfl, rfl⟩, ?_⟩
        refine ⟨?_, trivial⟩
        refine h.setV 1 rfl rfl (fun w307 h nw307 => ?_)
        refine ⟨?_, trivial⟩
        refine h.put 0 rfl rfl rfl (fun w308 h nw308 => ?_)
        exact ⟨_, _, tw276, rfl, rfl, ((((((h.front (n := 5) rfl).front (n := 5) rfl).front (n := 5) rfl).front (n := 3) rfl).front (n := 5) rfl).front (n := 5) rfl)⟩
      · skip
        refine ⟨?_, trivial⟩
        refine h.alloc (fun w281 h ew281 nw281 => ?_)
        refine ⟨⟨_, h.rdR 2 rfl hqa hget rfl, _, h.rdR 2 rfl hqa hget rfl, _, h.rdR 2 rfl hqa hget rfl, _, h.rdR 2 rfl hqa hget rfl, rfl⟩, ?_⟩
        refine ⟨⟨t, h.cell 4 rfl rfl, rfl⟩, ?_⟩
        refine ⟨?_, trivial⟩
        refine h.alloc (fun w287 h ew287 nw287 => ?_)
        refine ⟨⟨_, h.rdR 3 rfl hqa hget rfl, _, h.rdR 3 rfl hqa hget rfl, _, h.rdR 3 rfl hqa hget rfl, _, h.rdR 3 rfl hqa hget rfl, rfl⟩, ?_⟩
        refine ⟨⟨t, h.cell 5 rfl rfl, rfl⟩, ?_⟩
        refine ⟨?_, trivial⟩
        refine h.setV 0 rfl rfl (fun w293 h nw293 => ?_)
        refine ⟨?_, trivial⟩
        refine h.put 1 rfl rfl rfl (fun w294 h nw294 => ?_)
        exact ⟨_, _, tw276, rfl, rfl, ((((((h.front (n := 5) rfl).front (n := 5) rfl).front (n := 5) rfl).front (n := 4) rfl).front (n := 5) rfl).front (n := 5) rfl)⟩
    · skip
      refine ⟨?_, ?_⟩
      · skip
        refine h.alloc (fun w241 h ew241 nw241 => ?_)
        refine ⟨⟨_, h.rdR 1 rfl hqa hget rfl, _, h.rdR 1 rfl hqa hget rfl, _, h.rdR 1 rfl hqa hget rfl, _, h.rdR 1 rfl hqa hget rfl, rfl⟩, ?_⟩
        refine ⟨⟨t, h.cell 3 rfl rfl, rfl⟩, ?_⟩
        refine ⟨?_, ?_⟩
        · skip
          refine (s51 (qatOf h 2 rfl (by omega)) hrng hop).mono ?_
          rintro _ w262 ⟨tw262, rfl, g⟩
          rw [hres] at g ⊢
          have h := h.seq g
          refine ⟨tw262, _, _, _, rfl, ?_⟩
          refine ⟨?_, trivial⟩
          refine h.alloc (fun w267 h ew267 nw267 => ?_)
          refine ⟨⟨_, h.rdR 3 rfl hqa hget rfl, _, h.rdR 3 rfl hqa hget rfl, _, h.rdR 3 rfl hqa hget rfl, _, h.rdR 3 rfl hqa hget rfl, rfl⟩, ?_⟩
          refine ⟨⟨t, h.cell 5 rfl rfl, rfl⟩, ?_⟩
          refine ⟨?_, trivial⟩
          refine h.setV 2 rfl rfl (fun w273 h nw273 => ?_)
          refine ⟨?_, trivial⟩
          refine h.put 0 rfl rfl rfl (fun w274 h nw274 => ?_)
          exact ⟨_, _, tw262, rfl, rfl, ((((((h.front (n := 5) rfl).front (n := 5) rfl).front (n := 5) rfl).front (n := 3) rfl).front (n := 4) rfl).front (n := 5) rfl)⟩
        · skip
          refine ⟨?_, trivial⟩
          refine h.alloc (fun w247 h ew247 nw247 => ?_)
          refine ⟨⟨_, h.rdR 2 rfl hqa hget rfl, _, h.rdR 2 rfl hqa hget rfl, _, h.rdR 2 rfl hqa hget rfl, _, h.rdR 2 rfl hqa hget rfl, rfl⟩, ?_⟩
          refine ⟨⟨t, h.cell 4 rfl rfl, rfl⟩, ?_⟩
          refine ⟨?_, trivial⟩
          refine (s51 (qatOf h 3 rfl (by omega)) hrng hop).mono ?_
          rintro _ w254 ⟨tw254, rfl, g⟩
          rw [hres] at g ⊢
          have h := h.seq g
          refine ⟨tw254, _, _, _, rfl, ?_⟩
          refine ⟨?_, trivial⟩
          refine h.setV 2 rfl rfl (fun w259 h nw259 => ?_)
          refine ⟨?_, trivial⟩
          refine h.put 1 rfl rfl rfl (fun w260 h nw260 => ?_)
          exact ⟨_, _, tw254, rfl, rfl, ((((((h.front (n := 5) rfl).front (n := 5) rfl).front (n := 5) rfl).front (n := 4) rfl).front (n := 4) rfl).front (n := 5) rfl)⟩
      · skip
        refine ⟨?_, trivial⟩
        refine h.alloc (fun w207 h ew207 nw207 => ?_)
        refine ⟨⟨_, h.rdR 1 rfl hqa hget rfl, _, h.rdR 1 rfl hqa hget rfl, _, h.rdR 1 rfl hqa hget rfl, _, h.rdR 1 rfl hqa hget rfl, rfl⟩, ?_⟩
        refine ⟨⟨t, h.cell 3 rfl rfl, rfl⟩, ?_⟩
        refine ⟨?_, ?_⟩
        · skip
          refine (s51 (qatOf h 2 rfl (by omega)) hrng hop).mono ?_
          rintro _ w228 ⟨tw228, rfl, g⟩
          rw [hres] at g ⊢
          have h := h.seq g
          refine ⟨tw228, _, _, _, rfl, ?_⟩
          refine ⟨?_, trivial⟩
          refine h.alloc (fun w233 h ew233 nw233 => ?_)
          refine ⟨⟨_, h.rdR 3 rfl hqa hget rfl, _, h.rdR 3 rfl hqa hget rfl, _, h.rdR 3 rfl hqa hget rfl, _, h.rdR 3 rfl hqa hget rfl, rfl⟩, ?_⟩
          refine ⟨⟨t, h.cell 5 rfl rfl, rfl⟩, ?_⟩
          refine ⟨?_, trivial⟩
          refine h.setV 0 rfl rfl (fun w239 h nw239 => ?_)
          refine ⟨?_, trivial⟩
          refine h.put 2 rfl rfl rfl (fun w240 h nw240 => ?_)
          exact ⟨_, _, tw228, rfl, rfl, h⟩
        · skip
          refine ⟨?_, trivial⟩
          refine h.alloc (fun w213 h ew213 nw213 => ?_)
          refine ⟨⟨_, h.rdR 2 rfl hqa hget rfl, _, h.rdR 2 rfl hqa hget rfl, _, h.rdR 2 rfl hqa hget rfl, _, h.rdR 2 rfl hqa hget rfl, rfl⟩, ?_⟩
          refine ⟨⟨t, h.cell 4 rfl rfl, rfl⟩, ?_⟩
          refine ⟨?_, trivial⟩
          refine (s51 (qatOf h 3 rfl (by omega)) hrng hop).mono ?_
          rintro _ w220 ⟨tw220, rfl, g⟩
          rw [hres] at g ⊢
          have h := h.seq g
          refine ⟨tw220, _, _, _, rfl, ?_⟩
          refine ⟨?_, trivial⟩
          refine h.setV 1 rfl rfl (fun w225 h nw225 => ?_)
          refine ⟨?_, trivial⟩
          refine h.put 2 rfl rfl rfl (fun w226 h nw226 => ?_)
          exact ⟨_, _, tw220, rfl, rfl, ((((((h.front (n := 5) rfl).front (n := 5) rfl).front (n := 5) rfl).front (n := 5) rfl).front (n := 4) rfl).front (n := 5) rfl)⟩
  clear h
  rintro (p22 : Option Addr) (p23 : Option Addr) w25 ⟨b1, c1, t1, rfl, rfl, h⟩
  have hl1 := h.len 1 rfl
  have hl0 := h.len 4 rfl
  rw [recs_len] at hl1 hl0
  have hlen2 := hv2.len
  refine addrOf_mk ⟨t1, h.cellP 0 rfl rfl, t, h.cell 5 rfl rfl, ?_⟩
  refine JoinW.cut1 (fun (p29 : Option Addr) w' => ∃ (c : Nat), p29 = some ⟨c, 0, none⟩ ∧ SH w2 w' [aB c ((rs3 r.2.1 r.2.2.1 r.2.2.2).map Ce.v), BS b1 t1, RP t1 r.1, aB c1 ((rs3 r.2.1 r.2.2.1 r.2.2.2).map Ce.v), RO4 o ops, RP t l, BS w5.heap.size t]) ?_ ?_
  · have h := h.drew
    refine ⟨t, h.cell 5 rfl rfl, by omega, by omega, q, hqa, _, h.rdR 3 rfl hqa hget rfl, _, h.rdR 3 rfl hqa hget rfl, _, h.rdR 3 rfl hqa hget rfl, _, h.rdR 3 rfl hqa hget rfl, ?_⟩
    refine ⟨?_, ?_⟩
    · skip
      refine (s48 (qatOf h 4 rfl (by omega))).mono ?_
      rintro _ w168 ⟨tw168, rfl, g⟩
      rw [hres] at g ⊢
      have h := h.seq g
      refine ⟨tw168, _, _, _, rfl, ?_⟩
      refine ⟨?_, ?_⟩
      · skip
        refine h.alloc (fun w187 h ew187 nw187 => ?_)
        refine ⟨⟨_, h.rdR 5 rfl hqa hget rfl, _, h.rdR 5 rfl hqa hget rfl, _, h.rdR 5 rfl hqa hget rfl, _, h.rdR 5 rfl hqa hget rfl, rfl⟩, ?_⟩
        refine ⟨⟨t, h.cell 7 rfl rfl, rfl⟩, ?_⟩
        refine ⟨?_, trivial⟩
        refine h.alloc (fun w193 h ew193 nw193 => ?_)
        refine ⟨⟨_, h.rdR 6 rfl hqa hget rfl, _, h.rdR 6 rfl hqa hget rfl, _, h.rdR 6 rfl hqa hget rfl, _, h.rdR 6 rfl hqa hget rfl, rfl⟩, ?_⟩
        refine ⟨⟨t, h.cell 8 rfl rfl, rfl⟩, ?_⟩
        refine ⟨?_, trivial⟩
        refine h.setV 1 rfl rfl (fun w199 h nw199 => ?_)
        refine ⟨?_, trivial⟩
        refine h.put 0 rfl rfl rfl (fun w200 h nw200 => ?_)
        exact ⟨_, rfl, ((h.dropAt 2).dropAt 1)⟩
      · skip
        refine ⟨?_, trivial⟩
        refine h.alloc (fun w173 h ew173 nw173 => ?_)
        refine ⟨⟨_, h.rdR 5 rfl hqa hget rfl, _, h.rdR 5 rfl hqa hget rfl, _, h.rdR 5 rfl hqa hget rfl, _, h.rdR 5 rfl hqa hget rfl, rfl⟩, ?_⟩
        refine ⟨⟨t, h.cell 7 rfl rfl, rfl⟩, ?_⟩
        refine ⟨?_, trivial⟩
        refine h.alloc (fun w179 h ew179 nw179 => ?_)
        refine ⟨⟨_, h.rdR 6 rfl hqa hget rfl, _, h.rdR 6 rfl hqa hget rfl, _, h.rdR 6 rfl hqa hget rfl, _, h.rdR 6 rfl hqa hget rfl, rfl⟩, ?_⟩
        refine ⟨⟨t, h.cell 8 rfl rfl, rfl⟩, ?_⟩
        refine ⟨?_, trivial⟩
        refine h.setV 0 rfl rfl (fun w185 h nw185 => ?_)
        refine ⟨?_, trivial⟩
        refine h.put 1 rfl rfl rfl (fun w186 h nw186 => ?_)
        exact ⟨_, rfl, ((h.dropAt 2).dropAt 0)⟩
    · skip
      refine ⟨?_, ?_⟩
      · skip
        refine h.alloc (fun w133 h ew133 nw133 => ?_)
        refine ⟨⟨_, h.rdR 4 rfl hqa hget rfl, _, h.rdR 4 rfl hqa hget rfl, _, h.rdR 4 rfl hqa hget rfl, _, h.rdR 4 rfl hqa hget rfl, rfl⟩, ?_⟩
        refine ⟨⟨t, h.cell 6 rfl rfl, rfl⟩, ?_⟩
        refine ⟨?_, ?_⟩
        · skip
          refine (s48 (qatOf h 5 rfl (by omega))).mono ?_
          rintro _ w154 ⟨tw154, rfl, g⟩
          rw [hres] at g ⊢
          have h := h.seq g
          refine ⟨tw154, _, _, _, rfl, ?_⟩
          refine ⟨?_, trivial⟩
          refine h.alloc (fun w159 h ew159 nw159 => ?_)
          refine ⟨⟨_, h.rdR 6 rfl hqa hget rfl, _, h.rdR 6 rfl hqa hget rfl, _, h.rdR 6 rfl hqa hget rfl, _, h.rdR 6 rfl hqa hget rfl, rfl⟩, ?_⟩
          refine ⟨⟨t, h.cell 8 rfl rfl, rfl⟩, ?_⟩
          refine ⟨?_, trivial⟩
          refine h.setV 2 rfl rfl (fun w165 h nw165 => ?_)
          refine ⟨?_, trivial⟩
          refine h.put 0 rfl rfl rfl (fun w166 h nw166 => ?_)
          exact ⟨_, rfl, ((h.dropAt 2).dropAt 1)⟩
        · skip
          refine ⟨?_, trivial⟩
          refine h.alloc (fun w139 h ew139 nw139 => ?_)
          refine ⟨⟨_, h.rdR 5 rfl hqa hget rfl, _, h.rdR 5 rfl hqa hget rfl, _, h.rdR 5 rfl hqa hget rfl, _, h.rdR 5 rfl hqa hget rfl, rfl⟩, ?_⟩
          refine ⟨⟨t, h.cell 7 rfl rfl, rfl⟩, ?_⟩
          refine ⟨?_, trivial⟩
          refine (s48 (qatOf h 6 rfl (by omega))).mono ?_
          rintro _ w146 ⟨tw146, rfl, g⟩
          rw [hres] at g ⊢
          have h := h.seq g
          refine ⟨tw146, _, _, _, rfl, ?_⟩
          refine ⟨?_, trivial⟩
          refine h.setV 2 rfl rfl (fun w151 h nw151 => ?_)
          refine ⟨?_, trivial⟩
          refine h.put 1 rfl rfl rfl (fun w152 h nw152 => ?_)
          exact ⟨_, rfl, ((h.dropAt 2).dropAt 0)⟩
      · skip
        refine ⟨?_, trivial⟩
        refine h.alloc (fun w99 h ew99 nw99 => ?_)
        refine ⟨⟨_, h.rdR 4 rfl hqa hget rfl, _, h.rdR 4 rfl hqa hget rfl, _, h.rdR 4 rfl hqa hget rfl, _, h.rdR 4 rfl hqa hget rfl, rfl⟩, ?_⟩
        refine ⟨⟨t, h.cell 6 rfl rfl, rfl⟩, ?_⟩
        refine ⟨?_, ?_⟩
        · skip
          refine (s48 (qatOf h 5 rfl (by omega))).mono ?_
          rintro _ w120 ⟨tw120, rfl, g⟩
          rw [hres] at g ⊢
          have h := h.seq g
          refine ⟨tw120, _, _, _, rfl, ?_⟩
          refine ⟨?_, trivial⟩
          refine h.alloc (fun w125 h ew125 nw125 => ?_)
          refine ⟨⟨_, h.rdR 6 rfl hqa hget rfl, _, h.rdR 6 rfl hqa hget rfl, _, h.rdR 6 rfl hqa hget rfl, _, h.rdR 6 rfl hqa hget rfl, rfl⟩, ?_⟩
          refine ⟨⟨t, h.cell 8 rfl rfl, rfl⟩, ?_⟩
          refine ⟨?_, trivial⟩
          refine h.setV 0 rfl rfl (fun w131 h nw131 => ?_)
          refine ⟨?_, trivial⟩
          refine h.put 2 rfl rfl rfl (fun w132 h nw132 => ?_)
          exact ⟨_, rfl, ((h.dropAt 1).dropAt 0)⟩
        · skip
          refine ⟨?_, trivial⟩
          refine h.alloc (fun w105 h ew105 nw105 => ?_)
          refine ⟨⟨_, h.rdR 5 rfl hqa hget rfl, _, h.rdR 5 rfl hqa hget rfl, _, h.rdR 5 rfl hqa hget rfl, _, h.rdR 5 rfl hqa hget rfl, rfl⟩, ?_⟩
          refine ⟨⟨t, h.cell 7 rfl rfl, rfl⟩, ?_⟩
          refine ⟨?_, trivial⟩
          refine (s48 (qatOf h 6 rfl (by omega))).mono ?_
          rintro _ w112 ⟨tw112, rfl, g⟩
          rw [hres] at g ⊢
          have h := h.seq g
          refine ⟨tw112, _, _, _, rfl, ?_⟩
          refine ⟨?_, trivial⟩
          refine h.setV 1 rfl rfl (fun w117 h nw117 => ?_)
          refine ⟨?_, trivial⟩
          refine h.put 2 rfl rfl rfl (fun w118 h nw118 => ?_)
          exact ⟨_, rfl, ((h.dropAt 1).dropAt 0)⟩
  clear h
  rintro (p29 : Option Addr) w31 ⟨c2, rfl, h⟩
  refine addrOf_mk ⟨_, h.cellP 3 rfl rfl, addrOf_mk ⟨_, h.cellP 0 rfl rfl, BIf.f (by simp) ?_⟩⟩
  refine addrOf_mk ⟨t1, h.cellP 1 rfl rfl, (c57 (qatOf h 2 rfl (by omega))).mono ?_⟩
  rintro _ w39 ⟨b40, rfl, hb40, e39⟩
  have h := h.to e39
  have hbt : b40 = true := hb40.2 hv2
  subst hbt
  rw [w64 (n := (t1.len : Int) - t.len) (by omega) (by omega)]
  refine ⟨_, rfl, JoinW.cut1 (fun (c : Bool) w' => c = false ∧ w' = w39) ?_ ?_⟩
  · refine BIf.f rfl (addrOf_mk ⟨_, h.cellP 3 rfl rfl, BIf.ne (fun hne => ⟨?_, rfl⟩) (fun _ => ⟨rfl, rfl⟩)⟩)
    have := (hkept hne).1
    rw [this] at hl1
    rw [bne_eq_false_iff_eq]; omega
  rintro (c : Bool) w43 ⟨rfl, rfl⟩
  refine BIf.f rfl ?_
  refine JoinW.cut0 (fun w' => SH w2 w' [aB c2 ((rs3 r.2.1 r.2.2.1 r.2.2.2).map Ce.v), BS b1 t1, RP t1 r.1, aB c1 ((rs3 r.2.1 r.2.2.1 r.2.2.2).map Ce.v), RO4 o ops, RP t l, BS w5.heap.size t]) ?_ ?_
  rotate_left
  · clear h
    intro w45 h
    refine addrOf_mk ⟨t1, h.cellP 1 rfl rfl, ?_⟩
    refine h.setV 6 rfl rfl (fun w48 h n48 => ?_)
    exact hJ _ _ ⟨k + 1, r.1, t1, by omega, by omega, hv2, ((((h.dropAt 5).dropAt 3).dropAt 1).dropAt 0).front (n := 1) rfl⟩ (by omega)
  refine addrOf_mk ⟨_, h.cellP 3 rfl rfl, BIf.eq (fun hz => ?_) (fun hz => h)⟩
  obtain ⟨o1, o3, oe, oo⟩ := htold hz
  refine ⟨by omega, by omega, q, hqa, _, h.rdR 4 rfl hqa hget rfl, BIf.eq (fun k1 => ?_) (fun k1 => ?_)⟩
  · have := o1 k1
    refine BIf.f ?_ h
    rw [bne_eq_false_iff_eq]; omega
  refine BIf.eq (fun k3 => ?_) (fun k3 => ?_)
  · obtain ⟨d1, x, hx, x1, x2, x3, x4⟩ := o3 k3
    refine LoopW.m2 (fun (bb : Bool) (i : Int) w' => ∃ m : Nat, i = m ∧ m ≤ l.length ∧ bb = (l.take m).any (fun y => y.Id == r.2.2.1 && y.State == 3 && y.Status == r.2.2.2 && y.Parent == op.Id) ∧ SH w2 w' [aB c2 ((rs3 r.2.1 r.2.2.1 r.2.2.2).map Ce.v), BS b1 t1, RP t1 r.1, aB c1 ((rs3 r.2.1 r.2.2.1 r.2.2.2).map Ce.v), RO4 o ops, RP t l, BS w5.heap.size t]) (fun _ (i : Int) _ => (l.length - i).toNat) ⟨0, rfl, by omega, rfl, h⟩ ?_
    clear h
    rintro (bb : Bool) (i : Int) w56 ⟨m, rfl, hm, rfl, h⟩ J2 hJ2
    refine ⟨t, h.cell 6 rfl rfl, BIf.dec (fun hlt => ?_) (fun hge => ?_)⟩
    · have hgy : l[m]? = some l[m] := List.getElem?_eq_getElem (by omega)
      have hstp := any_step (fun y : DProc => y.Id == r.2.2.1 && y.State == 3 && y.Status == r.2.2.2 && y.Parent == op.Id) hgy
      generalize l[m] = y at *
      obtain ⟨q2, hq2⟩ := h.rowQ 5 rfl hgy
      simp only [Int.toNat_natCast]
      rw [w64 (n := (m : Int) + 1) (by omega) (by omega)]
      refine ⟨t, h.cell 6 rfl rfl, by omega, by omega, q2, hq2, _, h.rdR 5 rfl hq2 hgy rfl, _, h.rdR 5 rfl hq2 hgy rfl, _, h.rdR 5 rfl hq2 hgy rfl, _, h.rdR 5 rfl hq2 hgy rfl, _, h.rdR 5 rfl hq2 hgy rfl, _, h.rdR 5 rfl hq2 hgy rfl, _, h.rdR 5 rfl hq2 hgy rfl, _, h.rdR 5 rfl hq2 hgy rfl, _, h.rdR 5 rfl hq2 hgy rfl, _, h.rdR 5 rfl hq2 hgy rfl, ?_⟩
      refine h.alloc (fun w70 h e70 n70 => ?_)
      refine h.put 0 rfl rfl rfl (fun w71 h n71 => ?_)
      have h := h.drew
      refine BIf.of (fun hb1 => hJ2 _ _ _ ⟨m + 1, by omega, by omega, by rw [hstp, hb1]; rfl, h.drop⟩ (by omega)) (fun hb1 => ?_)
      rw [hb1, Bool.false_or] at hstp
      refine ⟨_, h.cell 0 rfl rfl, addrOf_mk ⟨_, h.cellP 4 rfl rfl, BIf.of (fun a1 => ?_) (fun a1 => hJ2 _ _ _ ⟨m + 1, by omega, by omega, by rw [hstp, a1]; rfl, h.drop⟩ (by omega))⟩⟩
      refine ⟨_, h.cell 0 rfl rfl, BIf.of (fun a2 => ?_) (fun a2 => hJ2 _ _ _ ⟨m + 1, by omega, by omega, by rw [hstp, a1, a2]; rfl, h.drop⟩ (by omega))⟩
      refine ⟨_, h.cell 0 rfl rfl, addrOf_mk ⟨_, h.cellP 4 rfl rfl, BIf.of (fun a3 => ?_) (fun a3 => hJ2 _ _ _ ⟨m + 1, by omega, by omega, by rw [hstp, a1, a2, a3]; rfl, h.drop⟩ (by omega))⟩⟩
      refine ⟨_, h.cell 0 rfl rfl, by omega, by omega, q, hqa, _, h.rdR 5 rfl hqa hget rfl, ?_⟩
      exact hJ2 _ _ _ ⟨m + 1, by omega, by omega, by rw [hstp, a1, a2, a3]; rfl, h.drop⟩ (by omega)
    · rw [show m = l.length by omega, List.take_length]
      have hany : l.any (fun y => y.Id == r.2.2.1 && y.State == 3 && y.Status == r.2.2.2 && y.Parent == op.Id) = true := List.any_eq_true.2 ⟨x, hx, by simp [x1, x2, x3, x4]⟩
      rw [hany]
      refine JoinW.cut1 (fun (c : Bool) w' => c = false ∧ w' = w56) ?_ ?_
      · exact BIf.f (by rw [bne_eq_false_iff_eq]; omega) ⟨rfl, rfl⟩
      · rintro (c : Bool) w84 ⟨rfl, rfl⟩
        exact BIf.f rfl h
  refine JoinW.cut1 (fun (c : Bool) w' => c = decide (op.Kind = 2 ∨ op.Kind = 7) ∧ w' = w43) ?_ ?_
  · refine BIf.eq (fun k2 => ⟨?_, rfl⟩) (fun k2 => ⟨?_, rfl⟩)
    · rw [decide_eq_true (.inl k2)]; simpa using k2
    · by_cases k7 : op.Kind = 7
      · rw [decide_eq_true (.inr k7)]; simpa using k7
      · rw [decide_eq_false (by omega)]; simpa using k7
  rintro (c : Bool) w87 ⟨rfl, rfl⟩
  refine BIf.dec (fun k27 => ?_) (fun k27 => ?_)
  · have := oe k27
    refine JoinW.cut1 (fun (c : Bool) w' => c = false ∧ w' = w87) ?_ ?_
    · refine BIf.ne (fun hne => ⟨?_, rfl⟩) (fun _ => ⟨rfl, rfl⟩)
      rw [bne_eq_false_iff_eq]; omega
    · rintro (c : Bool) w90 ⟨rfl, rfl⟩
      exact BIf.f rfl h
  · have := oo k1 (by omega) k3 (by omega)
    exact BIf.f (by rw [bne_eq_false_iff_eq]; omega) h
open Go.RowKit in
theorem law_calls9 {w : World} {a0 : Option Addr} {len0 cap0 : Nat} {bs : List Int} (h0 : (cSlice (cInt .u8)).is w [.slice a0 len0 cap0] bs) : Calls Try.prog 9 #[.slice a0 len0 cap0] w (fun e w' => e = .returned (.bool true) ∧ Below w.heap.size w w') :=
  (walk9 (p0 := ⟨a0, len0, cap0⟩) (isD_mkSl (f := Dat.int .u8) h0 (fun es x hx => isD_mkInt hx))).mono (by rintro e w' ⟨v, rfl, rfl, he⟩; exact ⟨rfl, he.below⟩)
end Go.Proofs.Yteigefjiifihpaa

/- The row of the law FnProcTold: what its walk shows is what the statement says. Conditions: none. -/
namespace Go.Proofs.Yteigefjiifihpaa.fnProcTold
open Go.ChangeShapes Go.WideShapes Go.ChangeAt Go.RowKit
open Go.ChangeMaps (open_string shut_string)
set_option linter.unusedVariables false
theorem own : ownKnob Try.prog.godebug = none := by kernel_rfl
theorem laidOut : laidOutB Try.prog = true := by kernel_rfl
set_option maxRecDepth 100000 in
theorem lifted (os : Os) (started : os.Started) (H : Type) (enc : TypeId × Value → H) :
    ReturnsInHanded {} Try.checked os 9 .any (Rows.fnProcToldSpec.pre6 enc Try.prog Try.f9 Rows.fnProcToldRow.domain false) (Rows.fnProcToldSpec.post enc Try.prog Try.f9 false true false false) := by
  refine returnsInHanded_of_change_sized (C := Try.checked) own started (by kernel_rfl) Try.func9
    (ChangeSpec.witness6 (enc := enc) (C := Try.checked) false ⟨#[], #[.slice none 0 0], []⟩ 8 (by kernel_rfl) (by kernel_rfl) (by kernel_rfl) (by kernel_rfl)) ?_
  intro W base args ds gs before hval0 hW hcnd hsz0 _
  have hsz : (DataW.weightsEach Try.prog (Try.f9.params.toList ++ Rows.fnProcToldSpec.plain.varTypes Try.prog) (ds ++ gs)).all (· ≤ reachBytes) = true := hsz0
  have hval : ∀ (j : Nat) t v, Try.f9.params[j]? = some t → args[j]? = some v → Value.okWide Try.prog W .any base t v := hval0
  have hW' := hW
  obtain ⟨p, q, hA0, hV, rfl, hfz, hnd⟩ := hW
  have hA : DataW.TrodAll enc Try.prog W 0 (fun _ => true) true Try.f9.params.toList args.toList ds p := hA0
  rw [Try.params9] at hA hval hsz
  obtain ⟨v0, vs0, d0, ds0, p0, q0, hargs, rfl, rfl, h0, r0⟩ := trodAll_cons hA
  obtain ⟨rfl, rfl, rfl⟩ := trodAll_nil r0
  obtain rfl : args = #[v0] := by cases args; simp_all
  obtain ⟨rfl, rfl⟩ := trodVars_none hV
  have k0 := h0
  have lt0 : ∀ x ∈ p0, x.block < W.heap.size := by obtain ⟨m, hm⟩ := k0; exact DataW.trod_lt m _ _ _ hm
  obtain ⟨a0, len0, cap0, rfl⟩ := okWide_slice Try.underlying55 (hval 0 55 v0 rfl rfl)
  obtain ⟨x0, w0⟩ : ∃ x, (Go.Den.cSlice (Go.Den.cInt .u8)).is W [.slice a0 len0 cap0] x := by obtain ⟨fuel, hf⟩ := h0; exact ((o55).at_ enc W fuel _ _ hf).2
  clear hA0 hval0 hsz0 hsz
  refine (law_calls9 w0).mono fun e W' ⟨he, bel⟩ => ?_
  subst he
  exact ⟨_, rfl, _, _, _, [], _, [], hW', trodAll_mk1 (shut_bool Try.underlying4 _), (trodAll_cons_mk (Below.trod laidOut (by kernel_rfl) (of_decide_eq_true (by kernel_rfl)) k0 bel lt0) trodAll_mk0), rfl, bel.frame _, fun h => by cases h⟩
theorem over : Rows.fnProcToldRow.holds Try.pinned (OpenSpec.ofChange Rows.fnProcToldSpec) :=
  OpenClaim.holds_of_wide 9 Try.f9 rfl rfl rfl rfl rfl rfl rfl ⟨rfl, rfl, rfl, rfl, rfl⟩ rfl rfl rfl rfl rfl (by kernel_rfl) Try.func9 (by kernel_rfl)
    (of_decide_eq_true (by kernel_rfl)) (by unfold Func.isWrapper; first | (rw [if_pos (by decide +kernel)]; kernel_rfl) | (rw [if_neg (by decide +kernel)]; exact ⟨rfl, rfl⟩))
    (fun os started H enc _ => lifted os started H enc)
theorem proved : Rows.FnProcToldSaid := over
#print axioms proved
end Go.Proofs.Yteigefjiifihpaa.fnProcTold
namespace Go.Proofs.Yteigefjiifihpaa
/-- The row, under a short name, for the claim. -/
theorem fnProcTold_holds : Rows.FnProcToldSaid := fnProcTold.proved
end Go.Proofs.Yteigefjiifihpaa
