/- Part 4 of 4: plain readings of code, rules for them, and a proof over them, joined by a program. Conditions: none. -/
import Derived.Test.YtkgoanjemhbjgaaSpOk3
import Derived.Test.YtkgoanjemhbjgaaRows
import Derived.WalkKit
import Derived.ProofKit
import Derived.OpenShut
import Derived.ShutString
import Derived.ChangeOld
import Derived.Below
import Derived.Carry
import Derived.SizedLaws
/- Spaces: the tables of a space, on the program's side. Conditions: none. -/
set_option linter.unusedVariables false
set_option linter.unusedSimpArgs false
namespace Go.Proofs.Ytkgoanjemhbjgaa
open Go Go.Den
theorem map_step {w : World} {k : World → Prop} (h : ∀ w1, Ext w w1 → SetAt w1 w.heap.size [] → w1.heap.size = w.heap.size + 1 → k w1) : LetW (w.alloc (.map #[] 0)) k :=
  LetW_iff.2 (h _ (ext_alloc w _) (setAt_new w) (size_alloc w _))
/-- What the walk has captured: where each thing lies. -/
structure ICap where
  q0 : Nat
  q1 : Nat
  q2 : Nat
  q3 : Nat
  q4 : Nat
  bf : Nat
  bm : Nat
  bp : Nat
  b0 : Nat
def ICap.ptrs (c : ICap) : List Value := [.pointer (some ⟨c.q0, 0, none⟩), .pointer (some ⟨c.q1, 0, none⟩), .pointer (some ⟨c.q2, 0, none⟩), .pointer (some ⟨c.q3, 0, none⟩), .pointer (some ⟨c.q4, 0, none⟩)]
def ICap.S (c : ICap) (k : Nat) : Prop := k = c.bm ∨ k = c.q2 ∨ c.b0 ≤ k
structure ICtx (w : World) (c : ICap) (sm : Sl) (m : List Int) (free : List Bool) (x y : Value) : Prop where
  h0 : Blk w c.q0 [.slice (some ⟨c.bf, 0, none⟩) free.length free.length]
  hf : Blk w c.bf (bools free)
  h1 : Blk w c.q1 [.map (some c.bm)]
  h3 : Blk w c.q3 [.pointer (some ⟨c.bp, 0, none⟩)]
  h4 : Blk w c.q4 [.func (.func 157) ⟨[]⟩ ⟨c.ptrs⟩]
  hp : Blk w c.bp [.slice sm.a sm.len sm.cap, x, y]
  mem : Bytes w sm m
  mo : m ≠ [] → ∀ p, sm.a = some p → ¬ c.S p.block
  n0 : ¬ c.S c.q0
  nf : ¬ c.S c.bf
  n1 : ¬ c.S c.q1
  n3 : ¬ c.S c.q3
  n4 : ¬ c.S c.q4
  np : ¬ c.S c.bp
  nm : c.bm ≠ c.q2
  ml : m.length = 256 * free.length
  few : free.length ≤ 1024
  mlt : c.bm < c.b0
  qlt : c.q2 < c.b0
  bsz : c.b0 ≤ w.heap.size
theorem ICtx.only {w w' : World} {c : ICap} {sm : Sl} {m : List Int} {free : List Bool} {x y : Value} (h : ICtx w c sm m free x y) (o : Only c.S w w') : ICtx w' c sm m free x y :=
  ⟨h.h0.only o h.n0, h.hf.only o h.nf, h.h1.only o h.n1, h.h3.only o h.n3, h.h4.only o h.n4, h.hp.only o h.np, h.mem.only o (fun hm p hp _ => h.mo hm p hp), h.mo, h.n0, h.nf, h.n1, h.n3, h.n4, h.np, h.nm, h.ml, h.few, h.mlt, h.qlt, Nat.le_trans h.bsz o.size⟩
/-- What was seen so far, and listed. -/
structure ISeen (w : World) (c : ICap) (S : List Int) : Prop where
  set : SetAt w c.bm S
  out : ∃ l : Sl, Blk w c.q2 [.slice l.a l.len l.cap] ∧ OwnS w c.b0 l 1 (S.map (Value.int .i64))
def IV (c : ICap) (res : Option (List Int)) (w : World) (v : Value) (w' : World) : Prop := v = .bool res.isSome ∧ Only c.S w w' ∧ ∀ S', res = some S' → ISeen w' c S'
theorem ISeen.ext {w w' : World} {c : ICap} {S : List Int} (h : ISeen w c S) (e : Ext w w') : ISeen w' c S := by
  obtain ⟨h1, l, h2, h3⟩ := h
  exact ⟨h1.ext e, l, h2.ext e, h3.ext e⟩
theorem c157 {lvl : Nat} (hlv : lvl ≤ 2) {c : ICap} {sm : Sl} {m : List Int} {free : List Bool} {x0 y0 : Value} {rec : Int → List Int → Option (List Int)} {cc : Nat} (hadd : Adds cc rec) (hcc : cc ≤ 100)
    (hrec : lvl = 0 ∨ ∀ {w : World} {t : Int} {S : List Int}, ICtx w c sm m free x0 y0 → ISeen w c S → S.length + cc ≤ 8000 → CallW Try.prog 157 ⟨[.int .i64 t, .int .i64 ((lvl : Int) - 1)] ++ c.ptrs⟩ w (IV c (rec t S) w))
    {w : World} {t : Int} {S : List Int} (h : ICtx w c sm m free x0 y0) (hs : ISeen w c S) (hS : S.length + (32 * cc + 1) ≤ 8000) :
    CallW Try.prog 157 ⟨[.int .i64 t, .int .i64 (lvl : Int)] ++ c.ptrs⟩ w (IV c (tblStep m free lvl rec t S) w) := by
  refine go157 (a0 := t) (a1 := (lvl : Int)) (c0 := ⟨c.q0, 0, none⟩) (c1 := ⟨c.q1, 0, none⟩) (c2 := ⟨c.q2, 0, none⟩) (c3 := ⟨c.q3, 0, none⟩) (c4 := ⟨c.q4, 0, none⟩) ?_
  unfold W157
  have hfew := h.few
  have hml := h.ml
  have bad : ∀ w', Only c.S w w' → tblStep m free lvl rec t S = none → IV c (tblStep m free lvl rec t S) w (.bool false) w' := fun w' o hn => ⟨by rw [hn]; rfl, o, fun S' hS => by rw [hn] at hS; cases hS⟩
  obtain ⟨hset, l0, hl0, own0⟩ := hs
  refine JoinW.cut1 (fun (b : Bool) w' => (b = true ↔ t < 0 ∨ (free.length : Int) ≤ t) ∧ w' = w) ?_ ?_
  · refine BIf.dec (fun h1 => ⟨⟨fun _ => .inl h1, fun _ => rfl⟩, rfl⟩) (fun h1 => ⟨⟨_, _, _⟩, h.h0.cell 0, ?_, rfl⟩)
    rw [decide_eq_true_eq]
    exact ⟨fun hh => .inr hh, fun hh => by rcases hh with hh | hh; omega; exact hh⟩
  rintro (b : Bool) w ⟨hiff, rfl⟩
  refine JoinW.cut1 (fun (b : Bool) w' => (b = true ↔ t < 0 ∨ (free.length : Int) ≤ t ∨ free.getD t.toNat false = true) ∧ w' = w) ?_ ?_
  · refine BIf.of (fun h1 => ⟨?_, rfl⟩) (fun h1 => ?_)
    · have := hiff.1 h1
      exact ⟨fun _ => by omega, fun _ => rfl⟩
    · have h2 : ¬ (t < 0 ∨ (free.length : Int) ≤ t) := fun hh => by rw [hiff.2 hh] at h1; cases h1
      refine ⟨⟨_, _, _⟩, h.h0.cell 0, by omega, by show t < ((free.length : Nat) : Int); omega, _, rfl, free.getD t.toNat false, ?_, ?_, rfl⟩
      · rw [add_mk, h.hf.cell, Nat.zero_add, Nat.mul_one, bools_get (by omega)]
      · exact ⟨fun hh => .inr (.inr hh), fun hh => by rcases hh with hh | hh | hh; omega; omega; exact hh⟩
  clear hiff b
  rintro (b : Bool) w ⟨hiff, rfl⟩
  refine JoinW.cut1 (fun (b : Bool) w' => (b = true ↔ t < 0 ∨ (free.length : Int) ≤ t ∨ free.getD t.toNat false = true ∨ t ∈ S) ∧ w' = w) ?_ ?_
  · refine BIf.of (fun h1 => ⟨?_, rfl⟩) (fun h1 => ?_)
    · have := hiff.1 h1
      exact ⟨fun _ => by rcases this with h | h | h; exact .inl h; exact .inr (.inl h); exact .inr (.inr (.inl h)), fun _ => rfl⟩
    · have h2 : ¬ (t < 0 ∨ (free.length : Int) ≤ t ∨ free.getD t.toNat false = true) := fun hh => by rw [hiff.2 hh] at h1; cases h1
      refine ⟨_, h.h1.cell 0, hset.get t (fun o ho => ⟨decide (t ∈ S), ho, ?_, rfl⟩)⟩
      rw [decide_eq_true_eq]
      exact ⟨fun hh => .inr (.inr (.inr hh)), fun hh => by
        rcases hh with hh | hh | hh | hh
        · exact absurd (.inl hh) h2
        · exact absurd (.inr (.inl hh)) h2
        · exact absurd (.inr (.inr hh)) h2
        · exact hh⟩
  clear hiff b
  rintro (b : Bool) w ⟨hiff, rfl⟩
  refine BIf.of (fun hb => ?_) (fun hb => ?_)
  · refine bad _ (Only.refl _ _) ?_
    unfold tblStep
    rw [if_pos (hiff.1 hb)]
  have hok : ¬ (t < 0 ∨ (free.length : Int) ≤ t ∨ free.getD t.toNat false = true ∨ t ∈ S) := fun hh => by rw [hiff.2 hh] at hb; cases hb
  have hres : tblStep m free lvl rec t S = match scanT (entAt m t) lvl rec 32 (S ++ [t]) (decide (lvl = 2)) with | some (S', true) => some S' | _ => none := by
    unfold tblStep; rw [if_neg hok]; try rfl
  generalize hR : scanT (entAt m t) lvl rec 32 (S ++ [t]) (decide (lvl = 2)) = R at hres
  have ht0 : 0 ≤ t := by omega
  have ht1 : t < free.length := by omega
  have hnS : t ∉ S := fun hh => hok (.inr (.inr (.inr hh)))
  refine ⟨_, h.h1.cell 0, hset.put hnS (fun w11 hset11 o11 => ?_)⟩
  have hbsz := h.bsz
  have hmlt := h.mlt
  have hqlt := h.qlt
  have hl11 := hl0.only o11 (fun hh => h.nm hh.symm)
  have own11 := own0.only o11 (fun b _ hb0 _ hbb => by omega)
  have z11 := o11.size
  refine ⟨l0, hl11.cell 0, LetW_iff.2 ?_⟩
  have hll := own11.len
  rw [List.length_map, Nat.mul_one] at hll
  refine AppendW.one (b0 := c.b0) (z := 1) (x := [.int .i64 t]) own11 (by omega) rfl rfl rfl (by decide) (by show (l0.len + 1) * 8 ≤ _; omega) (fun v hv => by rw [List.mem_singleton.1 hv]; rfl) (fun s' w15 h1 h2 h3 h4 => ?_)
  have hl15 := hl11.only h3 (fun hh => by have := hh.1; omega)
  have hset15 := hset11.only h3 (fun hh => by have := hh.1; omega)
  have z15 := h3.size
  refine set_step hl15 (by simp) (fun w16 o16 hl16 n16 => ?_)
  have hset16 := hset15.only o16 h.nm
  have own16 : OwnS w16 c.b0 s' 1 ((S ++ [t]).map (Value.int .i64)) := by
    rw [List.map_append]
    exact h2.only o16 (fun b _ hb0 _ hbb => by omega)
  have oall : Only c.S w w16 := Only.step (Only.step (o11.mono (fun k _ hk => .inl hk)) h3 (fun i hi hh => .inr (.inr hh.1))) o16 (fun i hi hh => .inr (.inl hh))
  have hbase : ISeen w16 c (S ++ [t]) := ⟨hset16, s', hl16, own16⟩
  refine LoopW.m2 (fun (any : Bool) (i : Int) w' => ∃ (k : Nat) (S1 : List Int), k ≤ 32 ∧ i = 32 - (k : Int) ∧ scanT (entAt m t) lvl rec k S1 any = R ∧ S1.length ≤ S.length + 1 + (32 - k) * cc ∧ Only c.S w w' ∧ ISeen w' c S1) (fun _ (i : Int) _ => (32 - i).toNat)
    ⟨32, S ++ [t], by omega, by omega, by
      rw [← hR]
      congr 1
      apply Bool.eq_iff_iff.2
      rw [beq_iff_eq, decide_eq_true_eq]; omega, by simp, oall, hbase⟩ ?_
  rintro (any : Bool) (i : Int) w20 ⟨k, S1, hk, rfl, hsc, hal, o20, hs20⟩ J hJ
  have h20 := h.only o20
  refine BIf.dec (fun hlt => ?_) (fun hge => ?_)
  · obtain ⟨j, rfl⟩ : ∃ j, k = j + 1 := ⟨k - 1, by omega⟩
    have hidx : (32 : Int) - ((j + 1 : Nat) : Int) = 31 - (j : Int) := by omega
    rw [hidx]
    have hmul : (32 - (j + 1)) * cc + cc = (32 - j) * cc := by rw [← Nat.succ_mul]; congr 1; omega
    have hmul2 : (32 - j) * cc ≤ 32 * cc := Nat.mul_le_mul_right cc (by omega)
    refine ⟨_, h20.h3.cell 0, (c126 h20.hp h20.mem (by omega) (by omega) (by omega) (by omega)).mono ?_⟩
    rintro _ w20 ⟨rfl, rfl⟩
    have hw := word_rng h.mem.rng (t * 256 + 8 * (31 - (j : Int)))
    have hwe : word m (t * 256 + 8 * (31 - (j : Int))) = entAt m t (31 - (j : Int)) := rfl
    rw [hwe] at hw ⊢
    rw [w64 (n := 31 - (j : Int) + 1) (by omega) (by omega)]
    unfold scanT at hsc
    generalize entAt m t (31 - (j : Int)) = x at *
    refine ⟨x, rfl, BIf.eq (fun hx => ?_) (fun hx => ?_)⟩
    · rw [if_pos hx] at hsc
      exact hJ _ _ _ ⟨j, S1, by omega, by omega, hsc, by omega, o20, hs20⟩ (by omega)
    · rw [if_neg hx, cls_eq hlv] at hsc
      refine (c127 hw.1 hw.2).mono ?_
      rintro _ w26 ⟨rfl, e26⟩
      refine ⟨_, _, _, _, _, _, _, _, _, rfl, ?_⟩
      refine alloc_step (fun w36 e36 hz n36 => put_step hz rfl rfl (fun w37 o37 hz n37 => ?_))
      have e37 : Ext w20 w37 := Ext.own (Only.trans e26 e36) o37 (fun k hk => by have := e26.size; omega)
      have o37' : Only c.S w w37 := o20.step e37 (fun i hi hf => hf.elim)
      have h37 := h.only o37'
      have hs37 := hs20.ext e37
      have hno : R = none → ∀ w', Only c.S w w' → IV c (tblStep m free lvl rec t S) w (.bool false) w' := fun hn w' o => bad w' o (by rw [hres, hn])
      refine ⟨_, hz.cell 0, ?_⟩
      refine JoinW.cut1 (fun (b : Bool) w' => b = (!ebit x 0 || decide (1048576 ≤ x)) ∧ w' = w37) ?_ ?_
      · refine BIf.of (fun h1 => ⟨by rw [h1]; rfl, rfl⟩) (fun h1 => ⟨by omega, ?_, rfl⟩)
        rw [shr20 hw.1, h1]; rfl
      rintro (b : Bool) w37 ⟨rfl, rfl⟩
      refine BIf.of (fun h1 => ?_) (fun h1 => ?_)
      · rw [if_pos h1] at hsc
        exact hno hsc.symm _ o37'
      · rw [if_neg (by rw [h1]; simp)] at hsc
        refine ⟨_, hz.cell 1, join_or_ex _ (hz.cell 2) (join_or_ex _ (hz.cell 3) ?_)⟩
        refine BIf.of (fun h2 => ?_) (fun h2 => ?_)
        · rw [if_pos h2] at hsc
          refine JoinW.cut1 (fun (b : Bool) w' => b = ((lvl : Int) != 0 || (ebit x 2 && !ebit x 1)) ∧ w' = w37) ?_ ?_
          · refine BIf.of (fun h3 => ⟨by rw [h3]; rfl, rfl⟩) (fun h3 => ⟨_, hz.cell 2, BIf.of (fun h4 => ⟨_, hz.cell 1, by rw [h3, h4]; rfl, rfl⟩) (fun h4 => ⟨by rw [h3, h4]; rfl, rfl⟩)⟩)
          rintro (b : Bool) w37 ⟨rfl, rfl⟩
          refine BIf.of (fun h3 => ?_) (fun h3 => ?_)
          · rw [if_pos h3] at hsc
            exact hno hsc.symm _ o37'
          · rw [if_neg (by rw [h3]; simp)] at hsc
            exact hJ _ _ _ ⟨j, S1, by omega, by omega, hsc, by omega, o37', hs37⟩ (by omega)
        · rw [if_neg (by rw [h2]; simp)] at hsc
          refine join_or_ex _ (hz.cell 4) (join_or_ex _ (hz.cell 5) (join_or_ex _ (hz.cell 6) ?_))
          refine JoinW.each (BIf.of (fun h3 => ?_) (fun h3 => ?_))
          · rw [if_pos h3] at hsc
            exact BIf.t rfl (hno hsc.symm _ o37')
          · rw [if_neg (by rw [h3]; simp)] at hsc
            rcases hrec with hl0' | hrec
            · exfalso
              subst hl0'
              simp at h3
            refine ⟨⟨157, [], c.ptrs⟩, h37.h4.cell 0, _, hz.cell 8, ?_⟩
            rw [w64 (by omega) (by omega)]
            refine CallW.mono (K := IV c (rec (efr x) S1) w37) (hrec h37 hs37 (by omega)) ?_
            rintro _ w69 ⟨rfl, o69, hs69⟩
            have o69' : Only c.S w w69 := o37'.step o69 (fun i hi hf => hf)
            refine ⟨_, rfl, ?_⟩
            cases hr : rec (efr x) S1 with
            | none =>
              rw [hr] at hsc
              exact BIf.t rfl (hno hsc.symm _ o69')
            | some S2 =>
              rw [hr] at hsc
              obtain ⟨add, hS2, hlen2⟩ := hadd _ _ _ hr
              refine BIf.f rfl (hJ _ _ _ ⟨j, S2, by omega, by omega, hsc, ?_, o69', hs69 S2 hr⟩ (by omega))
              rw [hS2, List.length_append]; omega
  · have hk0 : k = 0 := by omega
    subst hk0
    unfold scanT at hsc
    refine ⟨?_, o20, fun S' hS => ?_⟩
    · rw [hres, ← hsc]
      cases any <;> rfl
    · rw [hres, ← hsc] at hS
      cases any with
      | false => cases hS
      | true => injection hS with hS; subst hS; exact hs20
theorem implTab {c : ICap} {sm : Sl} {m : List Int} {free : List Bool} {x0 y0 : Value} {w : World} {t : Int} {S : List Int} (h : ICtx w c sm m free x0 y0) (hs : ISeen w c S) (hS : S.length ≤ 4000) :
    CallW Try.prog 157 ⟨[.int .i64 t, .int .i64 2] ++ c.ptrs⟩ w (IV c (tblF m free 2 t S) w) := by
  have h0 : ∀ {w : World} {t : Int} {S : List Int}, ICtx w c sm m free x0 y0 → ISeen w c S → S.length + 1 ≤ 8000 → CallW Try.prog 157 ⟨[.int .i64 t, .int .i64 (((1 : Nat) : Int) - 1)] ++ c.ptrs⟩ w (IV c (tblF m free 0 t S) w) :=
    fun {w t S} h hs hl => c157 (lvl := 0) (by omega) (rec := fun _ _ => none) (cc := 0) adds0 (by omega) (.inl rfl) h hs (by omega)
  have h1 : ∀ {w : World} {t : Int} {S : List Int}, ICtx w c sm m free x0 y0 → ISeen w c S → S.length + 33 ≤ 8000 → CallW Try.prog 157 ⟨[.int .i64 t, .int .i64 (((2 : Nat) : Int) - 1)] ++ c.ptrs⟩ w (IV c (tblF m free 1 t S) w) :=
    fun {w t S} h hs hl => c157 (lvl := 1) (by omega) (rec := tblF m free 0) (cc := 1) tblF_adds.1 (by omega) (.inr h0) h hs (by omega)
  exact c157 (lvl := 2) (by omega) (rec := tblF m free 1) (cc := 33) tblF_adds.2.1 (by omega) (.inr h1) h hs (by omega)
/-- The tables that the program lists; nil: none. -/
def ITabs (res : Option (List Int)) (w : World) (v : Value) (w' : World) : Prop := ∃ l : Sl, v = .slice l.a l.len l.cap ∧ Ext w w' ∧ (res = none → l.a = none) ∧ ∀ S', res = some S' → l.a.isSome = true ∧ OwnS w' w.heap.size l 1 (S'.map (Value.int .i64))
theorem tblF_ne {m : List Int} {free : List Bool} {lvl : Nat} {t : Int} {S' : List Int} (h : tblF m free lvl t [] = some S') : S' ≠ [] := by
  have key : ∀ (lvl : Nat) (rec : Int → List Int → Option (List Int)), (∃ c, Adds c rec) → ∀ S', tblStep m free lvl rec t [] = some S' → S' ≠ [] := by
    intro lvl rec ⟨c, hc⟩ S' hS
    unfold tblStep at hS
    split at hS
    · cases hS
    · split at hS
      · rename_i S1 hS1
        injection hS with hS
        subst hS
        obtain ⟨add, h1, _⟩ := scanT_adds hc 32 _ _ _ _ hS1
        rw [h1]; simp
      · cases hS
  have adds : ∀ n, ∃ c, Adds c (tblF m free n) := by
    intro n
    induction n with
    | zero => exact ⟨_, tblStep_adds adds0⟩
    | succ n ih => obtain ⟨c, hc⟩ := ih; exact ⟨_, tblStep_adds hc⟩
  cases lvl with
  | zero => exact key 0 _ ⟨0, adds0⟩ S' h
  | succ n => exact key (n + 1) _ (adds n) S' h
theorem c96 {b : Nat} {sm sf : Sl} {m : List Int} {T : Int} {fr : List DBlock} {root : Int} {w : World} (hp : Blk w b [.slice sm.a sm.len sm.cap, .int .i64 T, .slice sf.a sf.len sf.cap]) (hm : Bytes w sm m) (hf : FrAt w sf fr) (hok : POk m T fr) :
    CallW Try.prog 96 #[.pointer (some ⟨b, 0, none⟩), .int .i64 root] w (ITabs (tblF m (freeL T fr) 2 root []) w) := by
  refine go96 ?_
  unfold W96
  have hT0 := hok.2.2.1.1
  have hT1 := hok.2.2.1.2.1
  have hpl := hp.lt
  refine alloc_step (fun w1 e1 hq3 n1 => ?_)
  have hp1 := hp.ext e1
  refine ⟨_, hq3.cell 0, _, rfl, _, hp1.cell 1, sf, hp1.cell 2, (c150 (hf.ext e1) hok.2.2.1).mono ?_⟩
  rintro _ w7 ⟨bf, rfl, hbf0, hbf, e7⟩
  have z7 := e7.size
  have hbl := hbf.lt
  have hq3 := hq3.ext e7
  refine ⟨⟨some ⟨bf, 0, none⟩, T.toNat, T.toNat⟩, rfl, ?_⟩
  refine alloc_step (fun w9 e9 hq0 n9 => set_step hq0 (by simp) (fun w10 o10 hq0 n10 => ?_))
  have e10 : Ext w7 w10 := Ext.own e9 o10 (fun k hk => by omega)
  refine map_step (fun w11 e11 hset n11 => ?_)
  refine alloc_step (fun w12 e12 hq1 n12 => set_step hq1 (by simp) (fun w13 o13 hq1 n13 => ?_))
  have e13 : Ext w11 w13 := Ext.own e12 o13 (fun k hk => by omega)
  refine alloc_step (fun w14 e14 hq2 n14 => ?_)
  refine alloc_step (fun w15 e15 hq4 n15 => set_step hq4 (by simp) (fun w16 o16 hq4 n16 => ?_))
  have e16 : Ext w14 w16 := Ext.own e15 o16 (fun k hk => by omega)
  have e7_16 : Ext w7 w16 := Only.trans e10 (Only.trans e11 (Only.trans e13 (Only.trans e14 e16)))
  have eall : Ext w w16 := Only.trans e1 (Only.trans e7 e7_16)
  have zall := eall.size
  let c : ICap := ⟨w7.heap.size, w11.heap.size, w13.heap.size, w.heap.size, w14.heap.size, bf, w10.heap.size, b, w16.heap.size⟩
  have hc : ∀ k, c.S k ↔ k = w10.heap.size ∨ k = w13.heap.size ∨ w16.heap.size ≤ k := fun k => Iff.rfl
  have nS : ∀ k, k ≠ w10.heap.size → k ≠ w13.heap.size → k < w16.heap.size → ¬ c.S k := fun k h1 h2 h3 hh => by
    rcases (hc k).1 hh with hh | hh | hh
    · exact h1 hh
    · exact h2 hh
    · omega
  have hctx : ICtx w16 c sm m (freeL T fr) (.int .i64 T) (.slice sf.a sf.len sf.cap) := by
    refine ⟨?_, hbf.ext e7_16, hq1.ext (Only.trans e14 e16), hq3.ext e7_16, hq4, hp.ext eall, hm.ext eall, fun hne p hpa => ?_, ?_, ?_, ?_, ?_, ?_, ?_, ?_, hok.len, by rw [freeL_len]; omega, ?_, ?_, Nat.le_refl _⟩
    · rw [freeL_len]; exact hq0.ext (Only.trans e11 (Only.trans e13 (Only.trans e14 e16)))
    · have := hm.old hne hpa
      rw [hc]; omega
    · exact nS w7.heap.size (by omega) (by omega) (by omega)
    · exact nS bf (by omega) (by omega) (by omega)
    · exact nS w11.heap.size (by omega) (by omega) (by omega)
    · exact nS w.heap.size (by omega) (by omega) (by omega)
    · exact nS w14.heap.size (by omega) (by omega) (by omega)
    · exact nS b (by omega) (by omega) (by omega)
    · show w10.heap.size ≠ w13.heap.size; omega
    · show w10.heap.size < w16.heap.size; omega
    · show w13.heap.size < w16.heap.size; omega
  have hseen : ISeen w16 c [] := ⟨hset.ext (Only.trans e13 (Only.trans e14 e16)), ⟨none, 0, 0⟩, hq2.ext e16, OwnS.none _ _ _ _⟩
  refine ⟨⟨157, [], c.ptrs⟩, hq4.cell 0, ?_⟩
  refine CallW.mono (K := IV c (tblF m (freeL T fr) 2 root []) w16) (implTab hctx hseen (by simp)) ?_
  rintro _ w19 ⟨rfl, o19, hs19⟩
  have e19 : Ext w w19 := eall.own o19 (fun i hi => by rw [hc] at hi; omega)
  refine ⟨_, rfl, ?_⟩
  cases hr : tblF m (freeL T fr) 2 root [] with
  | none => exact BIf.t rfl ⟨⟨none, 0, 0⟩, rfl, e19, fun _ => rfl, fun S' hS => by cases hS⟩
  | some S' =>
    obtain ⟨_, l, hl, own⟩ := hs19 S' hr
    refine BIf.f rfl ⟨l, hl.cell 0, l, rfl, e19, (fun hn => by cases hn), fun S2 hS => ?_⟩
    injection hS with hS
    subst hS
    refine ⟨?_, own.mono (by show w.heap.size ≤ w16.heap.size; omega)⟩
    have hll := own.len
    rw [List.length_map, Nat.mul_one] at hll
    have hne : 0 < S'.length := List.length_pos_iff.2 (tblF_ne hr)
    rcases own.2 with ⟨_, h0⟩ | ⟨q, cs, ha, _⟩
    · omega
    · rw [ha]; rfl
theorem c35 {sm sf : Sl} {m : List Int} {T : Int} {fr : List DBlock} {root : Int} {w : World} (hm : Bytes w sm m) (hf : FrAt w sf fr) : CallW Try.prog 35 #[.agg #[.slice sm.a sm.len sm.cap, .int .i64 T, .slice sf.a sf.len sf.cap], .int .i64 root] w (fun v w' => v = .bool (spaceT m T fr root).isSome ∧ Ext w w') := by
  refine go35 ?_
  unfold W35
  refine alloc_step (fun w1 e hb n1 => ?_)
  refine ⟨sm, hb.cell 0, _, hb.cell 1, sf, hb.cell 2, (c94 (hm.ext e) (hf.ext e)).mono ?_⟩
  rintro _ w6 ⟨b, rfl, hiff, e6⟩
  have e06 := Only.trans e e6
  have hb6 := hb.ext e6
  refine ⟨b, rfl, ?_⟩
  refine JoinW.each (BIf.of (fun hy => ?_) (fun hn => ?_))
  · have hok := hiff.1 hy
    refine ⟨sm, hb6.cell 0, _, hb6.cell 1, sf, hb6.cell 2, (c95 (hm.ext e06) (hf.ext e06)).mono ?_⟩
    rintro _ w15 ⟨bp, tm, tf, rfl, hpool, e15⟩
    have hfew := hf.few
    refine ⟨_, rfl, (c96 hpool.blk (own_bytes hpool.mem hm.rng hm.small) (own_fr hpool.frs hfew) hok).mono ?_⟩
    rintro _ w18 ⟨l, rfl, e18, hn18, hs18⟩
    refine ⟨l, rfl, ?_, Only.trans e06 (Only.trans e15 e18)⟩
    rw [spaceT_pos hok]
    cases hr : tblF m (freeL T fr) 2 root [] with
    | none => rw [hn18 hr]; rfl
    | some S' =>
      have := (hs18 S' hr).1
      cases hl : l.a with
      | none => rw [hl] at this; cases this
      | some p => rfl
  · have hno : ¬ POk m T fr := fun h => by rw [hiff.2 h] at hn; cases hn
    exact ⟨by rw [spaceT_neg hno]; rfl, e06⟩
end Go.Proofs.Ytkgoanjemhbjgaa

/- The law's own functions over trees: copies, sizes, comparisons, marks; printed by a program. Conditions: none. -/
set_option linter.unusedVariables false
set_option linter.unusedSimpArgs false
set_option maxRecDepth 4000
namespace Go.Proofs.Ytkgoanjemhbjgaa
open Go Go.Den

theorem has_Block {d : Dat} (h : Has TyBlock d) : ∃ x_0 : Int, ∃ x_1 : Int, d = .st [.int .i64 x_0, .int .i64 x_1] := by
  obtain ⟨_, rfl, g⟩ := has_st h
  obtain ⟨_, _, rfl, h_0, g⟩ := hasF_cons g
  obtain ⟨_, _, rfl, h_1, g⟩ := hasF_cons g
  obtain rfl := hasF_nil g
  obtain ⟨x_0, rfl⟩ := has_int h_0
  obtain ⟨x_1, rfl⟩ := has_int h_1
  exact ⟨x_0, x_1, rfl⟩
theorem cells_Block {w : World} {x_0 : Int} {x_1 : Int} {cs : List Value} (h : IsD w (.st [.int .i64 x_0, .int .i64 x_1]) cs) : cs = [.int .i64 x_0, .int .i64 x_1] ∧ ((Lit.int .i64 x_0).wf = true) ∧ ((Lit.int .i64 x_1).wf = true) := by
  have q := isD_st h
  obtain ⟨_, _, rfl, i_0, q⟩ := isF_cons q
  obtain ⟨_, _, rfl, i_1, q⟩ := isF_cons q
  obtain rfl := isF_nil q
  obtain ⟨rfl, ws_0⟩ := isD_int i_0
  obtain ⟨rfl, ws_1⟩ := isD_int i_1
  exact ⟨rfl, ws_0, ws_1⟩
theorem has_Frames {d : Dat} (h : Has TyFrames d) : ∃ x_0 : Int, ∃ l_1 : List Dat, d = .st [.int .i64 x_0, .sl 2 l_1] ∧ (∀ e, e ∈ l_1 → Has TyBlock e) := by
  obtain ⟨_, rfl, g⟩ := has_st h
  obtain ⟨_, _, rfl, h_0, g⟩ := hasF_cons g
  obtain ⟨_, _, rfl, h_1, g⟩ := hasF_cons g
  obtain rfl := hasF_nil g
  obtain ⟨x_0, rfl⟩ := has_int h_0
  obtain ⟨l_1, rfl, t_1⟩ := has_sl h_1
  exact ⟨x_0, l_1, rfl, t_1⟩
theorem cells_Frames {w : World} {x_0 : Int} {l_1 : List Dat} {cs : List Value} (h : IsD w (.st [.int .i64 x_0, .sl 2 l_1]) cs) : ∃ s_1 : Sl, cs = [.int .i64 x_0, .slice s_1.a s_1.len s_1.cap] ∧ ((Lit.int .i64 x_0).wf = true) ∧ (IsD w (.sl 2 l_1) [.slice s_1.a s_1.len s_1.cap]) := by
  have q := isD_st h
  obtain ⟨_, _, rfl, i_0, q⟩ := isF_cons q
  obtain ⟨_, _, rfl, i_1, q⟩ := isF_cons q
  obtain rfl := isF_nil q
  obtain ⟨rfl, ws_0⟩ := isD_int i_0
  obtain ⟨s_1, rfl⟩ := isD_sl_s i_1
  have is_1 := i_1
  exact ⟨s_1, rfl, ws_0, is_1⟩
theorem has_Pool {d : Dat} (h : Has TyPool d) : ∃ l_0 : List Dat, ∃ x_1_0 : Int, ∃ l_1_1 : List Dat, d = .st [.sl 1 l_0, .st [.int .i64 x_1_0, .sl 2 l_1_1]] ∧ (∀ e, e ∈ l_0 → Has (.int .u8) e) ∧ (Has TyFrames (.st [.int .i64 x_1_0, .sl 2 l_1_1])) ∧ (∀ e, e ∈ l_1_1 → Has TyBlock e) := by
  obtain ⟨_, rfl, g⟩ := has_st h
  obtain ⟨_, _, rfl, h_0, g⟩ := hasF_cons g
  obtain ⟨_, _, rfl, h_1, g⟩ := hasF_cons g
  obtain rfl := hasF_nil g
  obtain ⟨l_0, rfl, t_0⟩ := has_sl h_0
  have h_1k := h_1
  obtain ⟨x_1_0, l_1_1, rfl, t_1_1⟩ := has_Frames h_1
  exact ⟨l_0, x_1_0, l_1_1, rfl, t_0, h_1k, t_1_1⟩
theorem cells_Pool {w : World} {l_0 : List Dat} {x_1_0 : Int} {l_1_1 : List Dat} {cs : List Value} (h : IsD w (.st [.sl 1 l_0, .st [.int .i64 x_1_0, .sl 2 l_1_1]]) cs) : ∃ s_0 : Sl, ∃ s_1_1 : Sl, cs = [.slice s_0.a s_0.len s_0.cap, .int .i64 x_1_0, .slice s_1_1.a s_1_1.len s_1_1.cap] ∧ (IsD w (.sl 1 l_0) [.slice s_0.a s_0.len s_0.cap]) ∧ (IsD w (.st [.int .i64 x_1_0, .sl 2 l_1_1]) [.int .i64 x_1_0, .slice s_1_1.a s_1_1.len s_1_1.cap]) ∧ ((Lit.int .i64 x_1_0).wf = true) ∧ (IsD w (.sl 2 l_1_1) [.slice s_1_1.a s_1_1.len s_1_1.cap]) := by
  have q := isD_st h
  obtain ⟨_, _, rfl, i_0, q⟩ := isF_cons q
  obtain ⟨_, _, rfl, i_1, q⟩ := isF_cons q
  obtain rfl := isF_nil q
  obtain ⟨s_0, rfl⟩ := isD_sl_s i_0
  have is_0 := i_0
  have is_1 := i_1
  obtain ⟨s_1_1, rfl, ws_1_0, is_1_1⟩ := cells_Frames i_1
  exact ⟨s_0, s_1_1, rfl, is_0, is_1, ws_1_0, is_1_1⟩
/- toByteS -/
theorem c92 {l : List Dat} {a0 : Sl} {w : World} (ht : ∀ e, e ∈ l → Has (.int .u8) e) (h : IsD w (.sl 1 l) [.slice a0.a a0.len a0.cap]) (hs : (Dat.sl 1 l).sz ≤ 4194304) : CallW Try.prog 92 #[.slice a0.a a0.len a0.cap] w (fun v w' => ∃ s : Sl, v = .slice s.a s.len s.cap ∧ Fr w.heap.size w'.heap.size w' (.sl 1 l) [.slice s.a s.len s.cap] ∧ Ext w w') := by
  refine go92 ?_
  unfold W92
  obtain ⟨hlen, hmax, hel⟩ := isD_sl h
  simp only [Dat.sz] at hs
  rw [hlen]; simp only [Int.toNat_natCast]
  refine ⟨by omega, by omega, by omega, by omega, LetW_iff.2 ?_⟩
  have hs0 := ToInv.start (w := w) (z := 1) (zero := ti5.zero) (e := 5) l rfl
  generalize w.alloc (.cells ⟨zerosOf ti5.zero l.length⟩ 5) = w1 at *
  refine LoopW.m1 (fun (i : Int) w' => ∃ (k : Nat) (bs : List Nat) (vs : List Value), i = k ∧ ToInv w w' w.heap.size 1 l k bs vs) (fun (i : Int) _ => (l.length - i).toNat) ⟨0, [], _, rfl, hs0⟩ ?_
  rintro (i : Int) w4 ⟨k, bs, vs, rfl, hi⟩ J hJ
  refine BIf.dec (fun hlt => ?_) (fun hge => ?_)
  · obtain ⟨d, hd⟩ : ∃ d, l[k]? = some d := ⟨_, List.getElem?_eq_getElem (by omega)⟩
    have hsz := szs_get hd
    obtain ⟨p, es, hp, he, hc, his⟩ := isD_at (IsD.ext hi.ext _ _ h) hd
    have ht0 := ht d (mem_get hd)
    obtain ⟨x, rfl⟩ := has_int ht0
    obtain ⟨rfl, ws⟩ := isD_int his
    obtain ⟨b1, ho, hn, hb⟩ := fr_int (lo := w4.heap.size) (hi := w4.heap.size) (w := w4) ws
    obtain ⟨hm, hi2⟩ := hi.step hd (Only.refl _ _) ho hn (fun c hc => (hb c hc).1) rfl
    rw [puts_one] at hi2
    refine ⟨by omega, by omega, p, hp, _, hc 0 _ rfl, by omega, by omega, _, rfl, mayN_one hm, LetW_iff.2 ?_⟩
    rw [w64 (by omega) (by omega)]
    exact hJ _ _ ⟨k + 1, _, _, by omega, hi2⟩ (by omega)
  · exact ⟨⟨some ⟨w.heap.size, 0, none⟩, l.length, l.length⟩, rfl, (hi.done (by omega) hmax).fr, hi.ext⟩

/- toBlock -/
theorem c187 {d : Dat} {cs : List Value} {w : World} (ht : Has TyBlock d) (h : IsD w d cs) (hs : d.sz ≤ 4194304) : CallW Try.prog 187 #[.agg ⟨cs⟩] w (fun v w' => ∃ cs', v = .agg ⟨cs'⟩ ∧ Fr w.heap.size w'.heap.size w' d cs' ∧ Ext w w') := by
  obtain ⟨x_0, x_1, rfl⟩ := has_Block ht
  obtain ⟨rfl, ws_0, ws_1⟩ := cells_Block h
  show CallW Try.prog 187 #[.agg #[.int .i64 x_0, .int .i64 x_1]] w _
  refine go187 ?_
  unfold W187
  refine alloc_step (fun w1 e1 ha n1 => ?_)
  refine alloc_step (fun w2 e2 hc n2 => ?_)
  have ha := ha.ext e2
  refine alloc_step (fun w3 e3 hb n3 => ?_)
  have ha := ha.ext e3
  have hc := hc.ext e3
  have e := Only.trans e1 (Only.trans e2 e3)
  refine ⟨_, ha.cell 0, ?_⟩
  refine set_step hb (by simp) (fun w4 o4 hb n4 => ?_)
  have ha := ha.only o4 (by omega)
  have hc := hc.only o4 (by omega)
  have e := Ext.own e o4 (fun k hk => by omega)
  refine ⟨_, ha.cell 1, ?_⟩
  refine set_step hb (by simp) (fun w5 o5 hb n5 => ?_)
  have ha := ha.only o5 (by omega)
  have hc := hc.only o5 (by omega)
  have e := Ext.own e o5 (fun k hk => by omega)
  refine ⟨_, hb.cell 0, _, hb.cell 1, ?_⟩
  refine put_step hc rfl rfl (fun w6 o6 hc n6 => ?_)
  have e := Ext.own e o6 (fun k hk => by omega)
  refine ⟨_, hc.cell 0, _, hc.cell 1, ?_⟩
  exact ⟨[.int .i64 x_0, .int .i64 x_1], rfl, frF_st (frF_cons (m := w.heap.size) (fr_int ws_0) (frF_cons (m := w.heap.size) (fr_int ws_1) (frF_nil) (by omega) (by omega)) (by omega) (by omega)), e⟩

/- toBlockS -/
theorem c154 {l : List Dat} {a0 : Sl} {w : World} (ht : ∀ e, e ∈ l → Has TyBlock e) (h : IsD w (.sl 2 l) [.slice a0.a a0.len a0.cap]) (hs : (Dat.sl 2 l).sz ≤ 4194304) : CallW Try.prog 154 #[.slice a0.a a0.len a0.cap] w (fun v w' => ∃ s : Sl, v = .slice s.a s.len s.cap ∧ Fr w.heap.size w'.heap.size w' (.sl 2 l) [.slice s.a s.len s.cap] ∧ Ext w w') := by
  refine go154 ?_
  unfold W154
  obtain ⟨hlen, hmax, hel⟩ := isD_sl h
  simp only [Dat.sz] at hs
  rw [hlen]; simp only [Int.toNat_natCast]
  refine ⟨by omega, by omega, by omega, by omega, LetW_iff.2 ?_⟩
  have hs0 := ToInv.start (w := w) (z := 2) (zero := ti123.zero) (e := 123) l rfl
  generalize w.alloc (.cells ⟨zerosOf ti123.zero l.length⟩ 123) = w1 at *
  refine LoopW.m1 (fun (i : Int) w' => ∃ (k : Nat) (bs : List Nat) (vs : List Value), i = k ∧ ToInv w w' w.heap.size 2 l k bs vs) (fun (i : Int) _ => (l.length - i).toNat) ⟨0, [], _, rfl, hs0⟩ ?_
  rintro (i : Int) w4 ⟨k, bs, vs, rfl, hi⟩ J hJ
  refine BIf.dec (fun hlt => ?_) (fun hge => ?_)
  · obtain ⟨d, hd⟩ : ∃ d, l[k]? = some d := ⟨_, List.getElem?_eq_getElem (by omega)⟩
    have hsz := szs_get hd
    obtain ⟨p, es, hp, he, hc, his⟩ := isD_at (IsD.ext hi.ext _ _ h) hd
    have ht0 := ht d (mem_get hd)
    obtain ⟨x_0, x_1, rfl⟩ := has_Block ht0
    have his0 := his
    obtain ⟨rfl, ws_0, ws_1⟩ := cells_Block his
    refine ⟨by omega, by omega, p, hp, _, hc 0 _ rfl, _, hc 1 _ rfl, (c187 (cs := [.int .i64 x_0, .int .i64 x_1]) ht0 his0 (by omega)).mono ?_⟩
    rintro _ w9 ⟨r, rfl, f, e9⟩
    have hr := f.is
    obtain ⟨rfl, wr_0, wr_1⟩ := cells_Block hr
    obtain ⟨b1, ho, hn, hb⟩ := f
    obtain ⟨hm, hi2⟩ := hi.step hd e9 ho hn (fun c hc => (hb c hc).1) rfl
    refine ⟨_, _, rfl, by omega, by omega, _, rfl, hm, LetW_iff.2 ?_⟩
    rw [w64 (by omega) (by omega)]
    exact hJ _ _ ⟨k + 1, _, _, by omega, hi2⟩ (by omega)
  · exact ⟨⟨some ⟨w.heap.size, 0, none⟩, l.length, l.length⟩, rfl, (hi.done (by omega) hmax).fr, hi.ext⟩

/- toFrames -/
theorem c93 {d : Dat} {cs : List Value} {w : World} (ht : Has TyFrames d) (h : IsD w d cs) (hs : d.sz ≤ 4194304) : CallW Try.prog 93 #[.agg ⟨cs⟩] w (fun v w' => ∃ cs', v = .agg ⟨cs'⟩ ∧ Fr w.heap.size w'.heap.size w' d cs' ∧ Ext w w') := by
  obtain ⟨x_0, l_1, rfl, t_1⟩ := has_Frames ht
  obtain ⟨s_1, rfl, ws_0, is_1⟩ := cells_Frames h
  show CallW Try.prog 93 #[.agg #[.int .i64 x_0, .slice s_1.a s_1.len s_1.cap]] w _
  refine go93 ?_
  unfold W93
  refine alloc_step (fun w1 e1 ha n1 => ?_)
  refine alloc_step (fun w2 e2 hc n2 => ?_)
  have ha := ha.ext e2
  refine alloc_step (fun w3 e3 hb n3 => ?_)
  have ha := ha.ext e3
  have hc := hc.ext e3
  have e := Only.trans e1 (Only.trans e2 e3)
  refine ⟨_, ha.cell 0, ?_⟩
  refine set_step hb (by simp) (fun w4 o4 hb n4 => ?_)
  have ha := ha.only o4 (by omega)
  have hc := hc.only o4 (by omega)
  have e := Ext.own e o4 (fun k hk => by omega)
  refine ⟨s_1, ha.cell 1, ?_⟩
  refine (c154 t_1 (IsD.ext e _ _ is_1) (by simp only [Dat.sz, Dat.szs] at hs ⊢; omega)).mono ?_
  rintro _ w5 ⟨r_1, rfl, f_1, e5⟩
  refine ⟨r_1, rfl, ?_⟩
  have ha := ha.ext e5
  have hb := hb.ext e5
  have hc := hc.ext e5
  have e := Only.trans e e5
  have z5 := e5.size
  refine set_step hb (by simp) (fun w6 o6 hb n6 => ?_)
  have ha := ha.only o6 (by omega)
  have hc := hc.only o6 (by omega)
  have e := Ext.own e o6 (fun k hk => by omega)
  have f_1 := f_1.only o6 (fun k _ _ => by omega)
  refine ⟨_, hb.cell 0, r_1, hb.cell 1, ?_⟩
  refine put_step hc rfl rfl (fun w7 o7 hc n7 => ?_)
  have e := Ext.own e o7 (fun k hk => by omega)
  have f_1 := f_1.only o7 (fun k _ _ => by omega)
  refine ⟨_, hc.cell 0, r_1, hc.cell 1, ?_⟩
  exact ⟨[.int .i64 x_0, .slice r_1.a r_1.len r_1.cap], rfl, frF_st (frF_cons (m := w.heap.size) (fr_int ws_0) (frF_cons (m := w5.heap.size) (f_1.mono (by omega) (Nat.le_refl _)) (frF_nil) (by omega) (by omega)) (by omega) (by omega)), e⟩

/- toPool -/
theorem c34 {d : Dat} {cs : List Value} {w : World} (ht : Has TyPool d) (h : IsD w d cs) (hs : d.sz ≤ 4194304) : CallW Try.prog 34 #[.agg ⟨cs⟩] w (fun v w' => ∃ cs', v = .agg ⟨cs'⟩ ∧ Fr w.heap.size w'.heap.size w' d cs' ∧ Ext w w') := by
  obtain ⟨l_0, x_1_0, l_1_1, rfl, t_0, h_1k, t_1_1⟩ := has_Pool ht
  obtain ⟨s_0, s_1_1, rfl, is_0, is_1, ws_1_0, is_1_1⟩ := cells_Pool h
  show CallW Try.prog 34 #[.agg #[.slice s_0.a s_0.len s_0.cap, .int .i64 x_1_0, .slice s_1_1.a s_1_1.len s_1_1.cap]] w _
  refine go34 ?_
  unfold W34
  refine alloc_step (fun w1 e1 ha n1 => ?_)
  refine alloc_step (fun w2 e2 hc n2 => ?_)
  have ha := ha.ext e2
  refine alloc_step (fun w3 e3 hb n3 => ?_)
  have ha := ha.ext e3
  have hc := hc.ext e3
  have e := Only.trans e1 (Only.trans e2 e3)
  refine ⟨s_0, ha.cell 0, ?_⟩
  refine (c92 t_0 (IsD.ext e _ _ is_0) (by simp only [Dat.sz, Dat.szs] at hs ⊢; omega)).mono ?_
  rintro _ w4 ⟨r_0, rfl, f_0, e4⟩
  refine ⟨r_0, rfl, ?_⟩
  have ha := ha.ext e4
  have hb := hb.ext e4
  have hc := hc.ext e4
  have e := Only.trans e e4
  have z4 := e4.size
  refine set_step hb (by simp) (fun w5 o5 hb n5 => ?_)
  have ha := ha.only o5 (by omega)
  have hc := hc.only o5 (by omega)
  have e := Ext.own e o5 (fun k hk => by omega)
  have f_0 := f_0.only o5 (fun k _ _ => by omega)
  refine ⟨_, ha.cell 1, s_1_1, ha.cell 2, ?_⟩
  refine (c93 (cs := [.int .i64 x_1_0, .slice s_1_1.a s_1_1.len s_1_1.cap]) h_1k (IsD.ext e _ _ is_1) (by simp only [Dat.sz, Dat.szs] at hs ⊢; omega)).mono ?_
  rintro _ w6 ⟨r_1, rfl, f_1, e6⟩
  have hr_1 := f_1.is
  obtain ⟨r_1_1, rfl, wr_1_0, ir_1_1⟩ := cells_Frames hr_1
  refine ⟨_, r_1_1, rfl, ?_⟩
  have ha := ha.ext e6
  have hb := hb.ext e6
  have hc := hc.ext e6
  have e := Only.trans e e6
  have z6 := e6.size
  have f_0 := f_0.ext e6
  refine putAt_step hb rfl (by simp [setAll_length]) (fun w7 o7 hb n7 => ?_)
  have ha := ha.only o7 (by omega)
  have hc := hc.only o7 (by omega)
  have e := Ext.own e o7 (fun k hk => by omega)
  have f_0 := f_0.only o7 (fun k _ _ => by omega)
  have f_1 := f_1.only o7 (fun k _ _ => by omega)
  refine ⟨r_0, hb.cell 0, _, hb.cell 1, r_1_1, hb.cell 2, ?_⟩
  refine put_step hc rfl rfl (fun w8 o8 hc n8 => ?_)
  have e := Ext.own e o8 (fun k hk => by omega)
  have f_0 := f_0.only o8 (fun k _ _ => by omega)
  have f_1 := f_1.only o8 (fun k _ _ => by omega)
  refine ⟨r_0, hc.cell 0, _, hc.cell 1, r_1_1, hc.cell 2, ?_⟩
  exact ⟨[.slice r_0.a r_0.len r_0.cap, .int .i64 x_1_0, .slice r_1_1.a r_1_1.len r_1_1.cap], rfl, frF_st (frF_cons (m := w4.heap.size) (f_0.mono (by omega) (Nat.le_refl _)) (frF_cons (m := w6.heap.size) (f_1.mono (by omega) (Nat.le_refl _)) (frF_nil) (by omega) (by omega)) (by omega) (by omega)), e⟩

/- szByteS -/
theorem c89 {l : List Dat} {a0 : Sl} {left : Int} {w : World} (ht : ∀ e, e ∈ l → Has (.int .u8) e) (h : IsD w (.sl 1 l) [.slice a0.a a0.len a0.cap]) (h0 : 0 ≤ left) (hl : left ≤ 4611686018427387904) : CallW Try.prog 89 #[.slice a0.a a0.len a0.cap, .int .i64 left] w (fun v w' => SzPost (Dat.sl 1 l).sz left v ∧ Ext w w') := by
  refine go89 ?_
  unfold W89
  obtain ⟨hlen, hmax, hel⟩ := isD_sl h
  have hmx : maxLen = 9223372036854775807 := rfl
  rw [hlen, w64 (by omega) (by omega)]
  have hz : Dat.szs l = 0 := by
    refine szs_zero (fun d hd => ?_)
    have ht0 := ht d hd
    obtain ⟨x, rfl⟩ := has_int ht0
    rfl
  refine BIf.dec (fun hn => ⟨⟨_, rfl, .inr ⟨by omega, by simp only [Dat.sz]; omega⟩⟩, Only.refl _ _⟩) (fun hp => ⟨⟨_, rfl, .inl ⟨by simp only [Dat.sz]; omega, by omega⟩⟩, Only.refl _ _⟩)

/- szBlockS -/
theorem c151 {l : List Dat} {a0 : Sl} {left : Int} {w : World} (ht : ∀ e, e ∈ l → Has TyBlock e) (h : IsD w (.sl 2 l) [.slice a0.a a0.len a0.cap]) (h0 : 0 ≤ left) (hl : left ≤ 4611686018427387904) : CallW Try.prog 151 #[.slice a0.a a0.len a0.cap, .int .i64 left] w (fun v w' => SzPost (Dat.sl 2 l).sz left v ∧ Ext w w') := by
  refine go151 ?_
  unfold W151
  obtain ⟨hlen, hmax, hel⟩ := isD_sl h
  have hmx : maxLen = 9223372036854775807 := rfl
  rw [hlen, w64 (by omega) (by omega)]
  have hz : Dat.szs l = 0 := by
    refine szs_zero (fun d hd => ?_)
    have ht0 := ht d hd
    obtain ⟨x_0, x_1, rfl⟩ := has_Block ht0
    rfl
  refine BIf.dec (fun hn => ⟨⟨_, rfl, .inr ⟨by omega, by simp only [Dat.sz]; omega⟩⟩, Only.refl _ _⟩) (fun hp => ⟨⟨_, rfl, .inl ⟨by simp only [Dat.sz]; omega, by omega⟩⟩, Only.refl _ _⟩)

/- szFrames -/
theorem c90 {d : Dat} {cs : List Value} {left : Int} {w : World} (ht : Has TyFrames d) (h : IsD w d cs) (h0 : 0 ≤ left) (hl : left ≤ 4611686018427387904) : CallW Try.prog 90 #[.agg ⟨cs⟩, .int .i64 left] w (fun v w' => SzPost d.sz left v ∧ Ext w w') := by
  obtain ⟨x_0, l_1, rfl, t_1⟩ := has_Frames ht
  obtain ⟨s_1, rfl, ws_0, is_1⟩ := cells_Frames h
  show CallW Try.prog 90 #[.agg #[.int .i64 x_0, .slice s_1.a s_1.len s_1.cap], .int .i64 left] w _
  refine go90 ?_
  unfold W90
  refine alloc_step (fun w1 e ha n1 => ?_)
  have hmx : maxLen = 9223372036854775807 := rfl
  have hx : (0 : Int) ≤ left ∧ left ≤ left := ⟨h0, Int.le_refl _⟩
  have hd := Int.sub_zero left
  refine ⟨s_1, ha.cell 1, (c151 t_1 (IsD.ext e _ _ is_1) (by omega) (by omega)).mono ?_⟩
  rintro _ w2 ⟨⟨r2, rfl, hr2⟩, e2⟩
  have ha := ha.ext e2
  have e := Only.trans e e2
  refine ⟨r2, rfl, BIf.dec (fun hn => ⟨⟨_, rfl, .inr ⟨by omega, by simp only [Dat.sz, Dat.szs] at *; omega⟩⟩, e⟩) (fun hp2 => ?_)⟩
  exact ⟨⟨_, rfl, .inl ⟨by simp only [Dat.sz, Dat.szs] at *; omega, by omega⟩⟩, e⟩

/- szPool -/
theorem c32 {d : Dat} {cs : List Value} {left : Int} {w : World} (ht : Has TyPool d) (h : IsD w d cs) (h0 : 0 ≤ left) (hl : left ≤ 4611686018427387904) : CallW Try.prog 32 #[.agg ⟨cs⟩, .int .i64 left] w (fun v w' => SzPost d.sz left v ∧ Ext w w') := by
  obtain ⟨l_0, x_1_0, l_1_1, rfl, t_0, h_1k, t_1_1⟩ := has_Pool ht
  obtain ⟨s_0, s_1_1, rfl, is_0, is_1, ws_1_0, is_1_1⟩ := cells_Pool h
  show CallW Try.prog 32 #[.agg #[.slice s_0.a s_0.len s_0.cap, .int .i64 x_1_0, .slice s_1_1.a s_1_1.len s_1_1.cap], .int .i64 left] w _
  refine go32 ?_
  unfold W32
  refine alloc_step (fun w1 e ha n1 => ?_)
  have hmx : maxLen = 9223372036854775807 := rfl
  have hx : (0 : Int) ≤ left ∧ left ≤ left := ⟨h0, Int.le_refl _⟩
  have hd := Int.sub_zero left
  refine ⟨s_0, ha.cell 0, (c89 t_0 (IsD.ext e _ _ is_0) (by omega) (by omega)).mono ?_⟩
  rintro _ w2 ⟨⟨r2, rfl, hr2⟩, e2⟩
  have ha := ha.ext e2
  have e := Only.trans e e2
  refine ⟨r2, rfl, BIf.dec (fun hn => ⟨⟨_, rfl, .inr ⟨by omega, by simp only [Dat.sz, Dat.szs] at *; omega⟩⟩, e⟩) (fun hp2 => ?_)⟩
  refine ⟨_, ha.cell 1, s_1_1, ha.cell 2, (c90 (cs := [.int .i64 x_1_0, .slice s_1_1.a s_1_1.len s_1_1.cap]) h_1k (IsD.ext e _ _ is_1) (by omega) (by omega)).mono ?_⟩
  rintro _ w3 ⟨⟨r3, rfl, hr3⟩, e3⟩
  have ha := ha.ext e3
  have e := Only.trans e e3
  refine ⟨r3, rfl, BIf.dec (fun hn => ⟨⟨_, rfl, .inr ⟨by omega, by simp only [Dat.sz, Dat.szs] at *; omega⟩⟩, e⟩) (fun hp3 => ?_)⟩
  exact ⟨⟨_, rfl, .inl ⟨by simp only [Dat.sz, Dat.szs] at *; omega, by omega⟩⟩, e⟩

/- eqByteS -/
theorem c97 {l : List Dat} {a0 a1 : Sl} {w : World} (ht : ∀ e, e ∈ l → Has (.int .u8) e) (h : IsD w (.sl 1 l) [.slice a0.a a0.len a0.cap]) (h2 : IsD w (.sl 1 l) [.slice a1.a a1.len a1.cap]) : CallW Try.prog 97 #[.slice a0.a a0.len a0.cap, .slice a1.a a1.len a1.cap] w (fun v w' => v = .bool true ∧ Ext w w') := by
  refine go97 ?_
  unfold W97
  obtain ⟨hlen, hmax, hel⟩ := isD_sl h
  obtain ⟨hlen2, _, hel2⟩ := isD_sl h2
  have hmx : maxLen = 9223372036854775807 := rfl
  rw [hlen, hlen2]
  refine BIf.f (by simp) ?_
  refine LoopW.m1 (fun (i : Int) w' => ∃ k : Nat, i = k ∧ k ≤ l.length ∧ Ext w w') (fun (i : Int) _ => (l.length - i).toNat) ⟨0, rfl, by omega, Only.refl _ _⟩ ?_
  rintro (i : Int) w4 ⟨k, rfl, hk, e4⟩ J hJ
  refine BIf.dec (fun hlt => ?_) (fun hge => ⟨rfl, e4⟩)
  obtain ⟨d, hd⟩ : ∃ d, l[k]? = some d := ⟨_, List.getElem?_eq_getElem (by omega)⟩
  have e4 := Only.trans e4 (ext_drew w4)
  obtain ⟨p, es, hp, he, hc, his⟩ := isD_at (IsD.ext e4 _ _ h) hd
  obtain ⟨p2, es2, hp2, he2, hc2, his2⟩ := isD_at (IsD.ext e4 _ _ h2) hd
  have ht0 := ht d (mem_get hd)
  have ht1 := ht0
  obtain ⟨x, rfl⟩ := has_int ht1
  obtain ⟨rfl, ws⟩ := isD_int his
  obtain ⟨rfl, wu⟩ := isD_int his2
  refine ⟨by omega, by omega, p, hp, _, hc 0 _ rfl, by omega, by omega, p2, hp2, _, hc2 0 _ rfl, BIf.f (by simp) ?_⟩
  rw [w64 (by omega) (by omega)]
  exact hJ _ _ ⟨k + 1, by omega, by omega, e4⟩ (by omega)

/- eqBlock -/
theorem c188 {d : Dat} {cs1 cs2 : List Value} {w : World} (ht : Has TyBlock d) (h : IsD w d cs1) (h2 : IsD w d cs2) : CallW Try.prog 188 #[.agg ⟨cs1⟩, .agg ⟨cs2⟩] w (fun v w' => v = .bool true ∧ Ext w w') := by
  obtain ⟨x_0, x_1, rfl⟩ := has_Block ht
  obtain ⟨rfl, ws_0, ws_1⟩ := cells_Block h
  obtain ⟨rfl, wu_0, wu_1⟩ := cells_Block h2
  show CallW Try.prog 188 #[.agg #[.int .i64 x_0, .int .i64 x_1], .agg #[.int .i64 x_0, .int .i64 x_1]] w _
  refine go188 ?_
  unfold W188
  refine alloc_step (fun w1 e1 ha n1 => ?_)
  refine alloc_step (fun w2 e2 hb n2 => ?_)
  have ha := ha.ext e2
  have e := Only.trans e1 e2
  refine ⟨_, ha.cell 0, _, hb.cell 0, BIf.f (by simp) ?_⟩
  refine ⟨_, ha.cell 1, _, hb.cell 1, BIf.f (by simp) ?_⟩
  exact ⟨rfl, e⟩

/- eqBlockS -/
theorem c158 {l : List Dat} {a0 a1 : Sl} {w : World} (ht : ∀ e, e ∈ l → Has TyBlock e) (h : IsD w (.sl 2 l) [.slice a0.a a0.len a0.cap]) (h2 : IsD w (.sl 2 l) [.slice a1.a a1.len a1.cap]) : CallW Try.prog 158 #[.slice a0.a a0.len a0.cap, .slice a1.a a1.len a1.cap] w (fun v w' => v = .bool true ∧ Ext w w') := by
  refine go158 ?_
  unfold W158
  obtain ⟨hlen, hmax, hel⟩ := isD_sl h
  obtain ⟨hlen2, _, hel2⟩ := isD_sl h2
  have hmx : maxLen = 9223372036854775807 := rfl
  rw [hlen, hlen2]
  refine BIf.f (by simp) ?_
  refine LoopW.m1 (fun (i : Int) w' => ∃ k : Nat, i = k ∧ k ≤ l.length ∧ Ext w w') (fun (i : Int) _ => (l.length - i).toNat) ⟨0, rfl, by omega, Only.refl _ _⟩ ?_
  rintro (i : Int) w4 ⟨k, rfl, hk, e4⟩ J hJ
  refine BIf.dec (fun hlt => ?_) (fun hge => ⟨rfl, e4⟩)
  obtain ⟨d, hd⟩ : ∃ d, l[k]? = some d := ⟨_, List.getElem?_eq_getElem (by omega)⟩
  have e4 := Only.trans e4 (ext_drew w4)
  obtain ⟨p, es, hp, he, hc, his⟩ := isD_at (IsD.ext e4 _ _ h) hd
  obtain ⟨p2, es2, hp2, he2, hc2, his2⟩ := isD_at (IsD.ext e4 _ _ h2) hd
  have ht0 := ht d (mem_get hd)
  have ht1 := ht0
  obtain ⟨x_0, x_1, rfl⟩ := has_Block ht1
  have his0 := his
  have his20 := his2
  obtain ⟨rfl, ws_0, ws_1⟩ := cells_Block his
  obtain ⟨rfl, wu_0, wu_1⟩ := cells_Block his2
  refine ⟨by omega, by omega, p, hp, _, hc 0 _ rfl, _, hc 1 _ rfl, by omega, by omega, p2, hp2, _, hc2 0 _ rfl, _, hc2 1 _ rfl, (c188 (cs1 := [.int .i64 x_0, .int .i64 x_1]) (cs2 := [.int .i64 x_0, .int .i64 x_1]) ht0 his0 his20).mono ?_⟩
  rintro _ w9 ⟨rfl, e9⟩
  refine ⟨true, rfl, BIf.f rfl ?_⟩
  rw [w64 (by omega) (by omega)]
  exact hJ _ _ ⟨k + 1, by omega, by omega, Only.trans e4 e9⟩ (by omega)

/- eqFrames -/
theorem c98 {d : Dat} {cs1 cs2 : List Value} {w : World} (ht : Has TyFrames d) (h : IsD w d cs1) (h2 : IsD w d cs2) : CallW Try.prog 98 #[.agg ⟨cs1⟩, .agg ⟨cs2⟩] w (fun v w' => v = .bool true ∧ Ext w w') := by
  obtain ⟨x_0, l_1, rfl, t_1⟩ := has_Frames ht
  obtain ⟨s_1, rfl, ws_0, is_1⟩ := cells_Frames h
  obtain ⟨u_1, rfl, wu_0, iu_1⟩ := cells_Frames h2
  show CallW Try.prog 98 #[.agg #[.int .i64 x_0, .slice s_1.a s_1.len s_1.cap], .agg #[.int .i64 x_0, .slice u_1.a u_1.len u_1.cap]] w _
  refine go98 ?_
  unfold W98
  refine alloc_step (fun w1 e1 ha n1 => ?_)
  refine alloc_step (fun w2 e2 hb n2 => ?_)
  have ha := ha.ext e2
  have e := Only.trans e1 e2
  refine ⟨_, ha.cell 0, _, hb.cell 0, BIf.f (by simp) ?_⟩
  refine ⟨s_1, ha.cell 1, u_1, hb.cell 1, (c158 t_1 (IsD.ext e _ _ is_1) (IsD.ext e _ _ iu_1)).mono ?_⟩
  rintro _ w3 ⟨rfl, e3⟩
  have ha := ha.ext e3
  have hb := hb.ext e3
  have e := Only.trans e e3
  refine ⟨true, rfl, BIf.f rfl ?_⟩
  exact ⟨rfl, e⟩

/- eqPool -/
theorem c36 {d : Dat} {cs1 cs2 : List Value} {w : World} (ht : Has TyPool d) (h : IsD w d cs1) (h2 : IsD w d cs2) : CallW Try.prog 36 #[.agg ⟨cs1⟩, .agg ⟨cs2⟩] w (fun v w' => v = .bool true ∧ Ext w w') := by
  obtain ⟨l_0, x_1_0, l_1_1, rfl, t_0, h_1k, t_1_1⟩ := has_Pool ht
  obtain ⟨s_0, s_1_1, rfl, is_0, is_1, ws_1_0, is_1_1⟩ := cells_Pool h
  obtain ⟨u_0, u_1_1, rfl, iu_0, iu_1, wu_1_0, iu_1_1⟩ := cells_Pool h2
  show CallW Try.prog 36 #[.agg #[.slice s_0.a s_0.len s_0.cap, .int .i64 x_1_0, .slice s_1_1.a s_1_1.len s_1_1.cap], .agg #[.slice u_0.a u_0.len u_0.cap, .int .i64 x_1_0, .slice u_1_1.a u_1_1.len u_1_1.cap]] w _
  refine go36 ?_
  unfold W36
  refine alloc_step (fun w1 e1 ha n1 => ?_)
  refine alloc_step (fun w2 e2 hb n2 => ?_)
  have ha := ha.ext e2
  have e := Only.trans e1 e2
  refine ⟨s_0, ha.cell 0, u_0, hb.cell 0, (c97 t_0 (IsD.ext e _ _ is_0) (IsD.ext e _ _ iu_0)).mono ?_⟩
  rintro _ w3 ⟨rfl, e3⟩
  have ha := ha.ext e3
  have hb := hb.ext e3
  have e := Only.trans e e3
  refine ⟨true, rfl, BIf.f rfl ?_⟩
  refine ⟨_, ha.cell 1, s_1_1, ha.cell 2, _, hb.cell 1, u_1_1, hb.cell 2, (c98 (cs1 := [.int .i64 x_1_0, .slice s_1_1.a s_1_1.len s_1_1.cap]) (cs2 := [.int .i64 x_1_0, .slice u_1_1.a u_1_1.len u_1_1.cap]) h_1k (IsD.ext e _ _ is_1) (IsD.ext e _ _ iu_1)).mono ?_⟩
  rintro _ w4 ⟨rfl, e4⟩
  have ha := ha.ext e4
  have hb := hb.ext e4
  have e := Only.trans e e4
  refine ⟨true, rfl, BIf.f rfl ?_⟩
  exact ⟨rfl, e⟩

end Go.Proofs.Ytkgoanjemhbjgaa

/- FnExactSpaceOk: both sides, for the walk. Conditions: none. -/
set_option linter.unusedVariables false
set_option linter.unusedSimpArgs false
namespace Go.Proofs.Ytkgoanjemhbjgaa
open Go Go.Den
theorem pool_of {x : DPool} {w : World} {cs : List Value} (h : IsD w x.dat cs) (hs : x.dat.sz ≤ 1048576) : ∃ sm sf : Sl, cs = [.slice sm.a sm.len sm.cap, .int .i64 x.Free.Total, .slice sf.a sf.len sf.cap] ∧ Bytes w sm x.Mem ∧ FrAt w sf x.Free.Free := by
  obtain ⟨sm, sf, rfl, im, _, _, iff⟩ := cells_Pool h
  have hsz : x.dat.sz = (Dat.sl 1 (x.Mem.map (Dat.int .u8))).sz + ((0 + (((x.Free.Free.map DBlock.dat).length + Dat.szs (x.Free.Free.map DBlock.dat)) + 0)) + 0) := rfl
  rw [sz_nums, List.length_map] at hsz
  have hm := isD_len im
  have hf := isD_len iff
  exact ⟨sm, sf, rfl, ⟨hm.1, isD_cap im, isD_nums im, fun y hy => wf_u8_rng (isD_wf im y hy), by omega⟩, ⟨hf.1, isD_row iff (fun _ => rfl) (fun es y hy => DBlock.is_cells hy), by omega⟩⟩
theorem specSpaceOk {x : DPool} {root : Int} {w : World} {cs : List Value} (h : IsD w x.dat cs) (hs : x.dat.sz ≤ 1048576) : CallW Try.prog 33 #[.agg ⟨cs⟩, .int .i64 root] w (fun v w' => v = .bool (spaceT x.Mem x.Free.Total x.Free.Free root).isSome ∧ Ext w w') := by
  obtain ⟨sm, sf, rfl, hm, hf⟩ := pool_of h hs
  exact c33 hm hf
theorem implSpaceOk {x : DPool} {root : Int} {w : World} {cs : List Value} (h : IsD w x.dat cs) (hs : x.dat.sz ≤ 1048576) : CallW Try.prog 35 #[.agg ⟨cs⟩, .int .i64 root] w (fun v w' => v = .bool (spaceT x.Mem x.Free.Total x.Free.Free root).isSome ∧ Ext w w') := by
  obtain ⟨sm, sf, rfl, hm, hf⟩ := pool_of h hs
  exact c35 hm hf
end Go.Proofs.Ytkgoanjemhbjgaa

/- The walk of a law: copies, both sides, comparisons; printed by a program. Conditions: none. -/
set_option linter.unusedVariables false
set_option linter.unusedSimpArgs false
set_option maxRecDepth 4000
namespace Go.Proofs.Ytkgoanjemhbjgaa
open Go Go.Den
theorem goc5 {a0_0 : Sl} {a0_1 : Int} {a0_2 : Sl} {a1 : Int} {w : World} {K : Value → World → Prop} (h : W5 a0_0 a0_1 a0_2 a1 w K) : Calls Try.prog 5 #[.agg #[.slice a0_0.a a0_0.len a0_0.cap, .int .i64 a0_1, .slice a0_2.a a0_2.len a0_2.cap], .int .i64 a1] w (fun e w' => ∃ v, e = .returned v ∧ K v w') :=
  denFn_sound tt_ok mix Try.func5 (by kernel_rfl) (eq5 a0_0 a0_1 a0_2 a1 w K ▸ h)
theorem walk5 {w : World} {x : DPool} {cs0 : List Value} (h0 : IsD w (x.dat) cs0) {root : Int} (wf1 : (Lit.int .i64 root).wf = true) : Calls Try.prog 5 #[.agg ⟨cs0⟩, .int .i64 root] w (fun e w' => ∃ v, e = .returned v ∧ (v = .bool true ∧ Ext w w')) := by
  obtain ⟨p0_0, p0_1_1, rfl, _, _, _, _⟩ := cells_Pool h0
  refine goc5 ?_
  unfold W5
  refine alloc_step (fun w1 ew1 hbw1 nw1 => ?_)
  have e := ew1
  have zw1 := ew1.size
  refine ⟨p0_0, hbw1.cell 0, ?_⟩
  refine ⟨_, hbw1.cell 1, ?_⟩
  refine ⟨p0_1_1, hbw1.cell 2, ?_⟩
  refine (c32 (DPool.has _) (IsD.ext e _ _ h0) (by omega) (by omega)).mono ?_
  rintro _ w6 ⟨⟨rw6, rfl, hrw6⟩, ew6⟩
  have hbw1 := hbw1.ext ew6
  have e := Only.trans e ew6
  have zw6 := ew6.size
  refine ⟨_, rfl, ?_⟩
  refine BIf.dec (fun hn => ⟨rfl, e⟩) (fun hpw6 => ?_)
  have sz0 : (x.dat).sz ≤ 1048576 := by omega
  refine ⟨p0_0, hbw1.cell 0, ?_⟩
  refine ⟨_, hbw1.cell 1, ?_⟩
  refine ⟨p0_1_1, hbw1.cell 2, ?_⟩
  refine (c34 (DPool.has _) (IsD.ext e _ _ h0) (by have := sz0; omega)).mono ?_
  rintro _ w12 ⟨yw12, rfl, fw12, ew12⟩
  have hbw1 := hbw1.ext ew12
  have e := Only.trans e ew12
  have zw12 := ew12.size
  have hiyw12 := fw12.is
  obtain ⟨ryw12_0, ryw12_1_1, rfl, _, _, _, _⟩ := cells_Pool hiyw12
  refine ⟨ryw12_0, _, ryw12_1_1, rfl, ?_⟩
  refine (specSpaceOk fw12.is sz0).mono ?_
  rintro _ w17 ⟨rfl, ew17⟩
  have hbw1 := hbw1.ext ew17
  have fw12 := fw12.ext ew17
  have e := Only.trans e ew17
  have zw17 := ew17.size
  refine ⟨_, rfl, ?_⟩
  refine ⟨p0_0, hbw1.cell 0, ?_⟩
  refine ⟨_, hbw1.cell 1, ?_⟩
  refine ⟨p0_1_1, hbw1.cell 2, ?_⟩
  refine (c34 (DPool.has _) (IsD.ext e _ _ h0) (by have := sz0; omega)).mono ?_
  rintro _ w23 ⟨yw23, rfl, fw23, ew23⟩
  have hbw1 := hbw1.ext ew23
  have fw12 := fw12.ext ew23
  have e := Only.trans e ew23
  have zw23 := ew23.size
  have hiyw23 := fw23.is
  obtain ⟨ryw23_0, ryw23_1_1, rfl, _, _, _, _⟩ := cells_Pool hiyw23
  refine ⟨ryw23_0, _, ryw23_1_1, rfl, ?_⟩
  refine alloc_step (fun w27 ew27 hbw27 nw27 => ?_)
  have hbw1 := hbw1.ext ew27
  have fw12 := fw12.ext ew27
  have fw23 := fw23.ext ew27
  have e := Only.trans e ew27
  have zw27 := ew27.size
  refine put_step hbw27 rfl rfl (fun w28 ow28 hbw27q nw28 => ?_)
  have hbw1 := hbw1.only ow28 (by omega)
  have fw12 := fw12.only ow28 (fun k h1 h2 => by omega)
  have fw23 := fw23.only ow28 (fun k h1 h2 => by omega)
  have e := Ext.own e ow28 (fun k hk => by omega)
  have hbw27 := hbw27q
  refine ⟨ryw23_0, hbw27.cell 0, ?_⟩
  refine ⟨_, hbw27.cell 1, ?_⟩
  refine ⟨ryw23_1_1, hbw27.cell 2, ?_⟩
  refine (implSpaceOk fw23.is sz0).mono ?_
  rintro _ w33 ⟨rfl, ew33⟩
  have hbw1 := hbw1.ext ew33
  have hbw27 := hbw27.ext ew33
  have fw12 := fw12.ext ew33
  have fw23 := fw23.ext ew33
  have e := Only.trans e ew33
  have zw33 := ew33.size
  refine ⟨_, rfl, ?_⟩
  refine BIf.f (by simp) ?_
  have ed := ext_drew w33
  have hbw1 := hbw1.ext ed
  have hbw27 := hbw27.ext ed
  have fw12 := fw12.ext ed
  have fw23 := fw23.ext ed
  have e := Only.trans e ed
  have zw33_drew := ed.size
  refine ⟨ryw23_0, hbw27.cell 0, ?_⟩
  refine ⟨_, hbw27.cell 1, ?_⟩
  refine ⟨ryw23_1_1, hbw27.cell 2, ?_⟩
  refine ⟨p0_0, hbw1.cell 0, ?_⟩
  refine ⟨_, hbw1.cell 1, ?_⟩
  refine ⟨p0_1_1, hbw1.cell 2, ?_⟩
  refine (c34 (DPool.has _) (IsD.ext e _ _ h0) (by have := sz0; omega)).mono ?_
  rintro _ w42 ⟨yw42, rfl, fw42, ew42⟩
  have hbw1 := hbw1.ext ew42
  have hbw27 := hbw27.ext ew42
  have fw12 := fw12.ext ew42
  have fw23 := fw23.ext ew42
  have e := Only.trans e ew42
  have zw42 := ew42.size
  have hiyw42 := fw42.is
  obtain ⟨ryw42_0, ryw42_1_1, rfl, _, _, _, _⟩ := cells_Pool hiyw42
  refine ⟨ryw42_0, _, ryw42_1_1, rfl, ?_⟩
  refine ⟨⟨ryw23_0, hbw27.cell 0, _, hbw27.cell 1, ryw23_1_1, hbw27.cell 2, rfl⟩, ?_⟩
  refine (c36 (DPool.has _) fw23.is fw42.is).mono ?_
  rintro _ w50 ⟨rfl, ew50⟩
  have hbw1 := hbw1.ext ew50
  have hbw27 := hbw27.ext ew50
  have fw12 := fw12.ext ew50
  have fw23 := fw23.ext ew50
  have fw42 := fw42.ext ew50
  have e := Only.trans e ew50
  have zw50 := ew50.size
  refine ⟨_, rfl, ?_⟩
  refine BIf.f rfl ?_
  exact ⟨by trivial, e⟩
open Go.RowKit in
theorem law_calls5 {w : World} {c0 : Array Value} {x : DPool} (h0 : cDPool.is w c0.toList x) {root : Int} (wf1 : (Lit.int .i64 root).wf = true) : Calls Try.prog 5 #[.agg c0, .int .i64 root] w (fun e w' => e = .returned (.bool true) ∧ Below w.heap.size w w') :=
  (walk5 (cDPool_dat h0) (root := root) wf1).mono (by rintro e w' ⟨v, rfl, rfl, he⟩; exact ⟨rfl, he.below⟩)
end Go.Proofs.Ytkgoanjemhbjgaa

/- The row of the law FnExactSpaceOk: what its walk shows is what the statement says. Conditions: none. -/
namespace Go.Proofs.Ytkgoanjemhbjgaa.fnExactSpaceOk
open Go.ChangeShapes Go.WideShapes Go.ChangeAt Go.RowKit
open Go.ChangeMaps (open_string shut_string)
set_option linter.unusedVariables false
theorem own : ownKnob Try.prog.godebug = none := by kernel_rfl
theorem laidOut : laidOutB Try.prog = true := by kernel_rfl
set_option maxRecDepth 100000 in
theorem lifted (os : Os) (started : os.Started) (H : Type) (enc : TypeId × Value → H) :
    ReturnsInHanded {} Try.checked os 5 .any (Rows.fnExactSpaceOkSpec.pre6 enc Try.prog Try.f5 Rows.fnExactSpaceOkRow.domain false) (Rows.fnExactSpaceOkSpec.post enc Try.prog Try.f5 false true false false) := by
  refine returnsInHanded_of_change_sized (C := Try.checked) own started (by kernel_rfl) Try.func5
    (ChangeSpec.witness6 (enc := enc) (C := Try.checked) false ⟨#[], #[.agg #[.slice none 0 0, .int .i64 0, .slice none 0 0], .int .i64 0], []⟩ 8 (by kernel_rfl) (by kernel_rfl) (by kernel_rfl) (by kernel_rfl)) ?_
  intro W base args ds gs before hval0 hW hcnd hsz0 _
  have hsz : (DataW.weightsEach Try.prog (Try.f5.params.toList ++ Rows.fnExactSpaceOkSpec.plain.varTypes Try.prog) (ds ++ gs)).all (· ≤ reachBytes) = true := hsz0
  have hval : ∀ (j : Nat) t v, Try.f5.params[j]? = some t → args[j]? = some v → Value.okWide Try.prog W .any base t v := hval0
  have hW' := hW
  obtain ⟨p, q, hA0, hV, rfl, hfz, hnd⟩ := hW
  have hA : DataW.TrodAll enc Try.prog W 0 (fun _ => true) true Try.f5.params.toList args.toList ds p := hA0
  rw [Try.params5] at hA hval hsz
  obtain ⟨v0, vs0, d0, ds0, p0, q0, hargs, rfl, rfl, h0, r0⟩ := trodAll_cons hA
  obtain ⟨v1, vs1, d1, ds1, p1, q1, rfl, rfl, rfl, h1, r1⟩ := trodAll_cons r0
  obtain ⟨rfl, rfl, rfl⟩ := trodAll_nil r1
  obtain rfl : args = #[v0, v1] := by cases args; simp_all
  obtain ⟨rfl, rfl⟩ := trodVars_none hV
  have k0 := h0
  have lt0 : ∀ x ∈ p0, x.block < W.heap.size := by obtain ⟨m, hm⟩ := k0; exact DataW.trod_lt m _ _ _ hm
  obtain ⟨c0, rfl⟩ : ∃ cs, v0 = .agg cs := by have hv := (hval 0 58 v0 rfl rfl); unfold Value.okWide at hv; rw [Try.underlying58] at hv; exact ⟨hv.choose, hv.choose_spec.1⟩
  obtain ⟨x0, w0⟩ : ∃ x, (cDPool).is W c0.toList x := by obtain ⟨fuel, hf⟩ := h0; exact ((o58).at_ enc W fuel _ _ hf).2
  obtain ⟨a1, rfl, rfl, rfl, w1⟩ := open_int Try.underlying2 (hval 1 2 v1 rfl rfl) h1
  clear hA0 hval0 hsz0 hsz
  refine (law_calls5 w0 w1).mono fun e W' ⟨he, bel⟩ => ?_
  subst he
  exact ⟨_, rfl, _, _, _, [], _, [], hW', trodAll_mk1 (shut_bool Try.underlying4 _), (trodAll_cons_mk (Below.trod laidOut (by kernel_rfl) (of_decide_eq_true (by kernel_rfl)) k0 bel lt0) (trodAll_cons_mk (shut_int Try.underlying2 w1) trodAll_mk0)), rfl, bel.frame _, fun h => by cases h⟩
theorem over : Rows.fnExactSpaceOkRow.holds Try.pinned (OpenSpec.ofChange Rows.fnExactSpaceOkSpec) :=
  OpenClaim.holds_of_wide 5 Try.f5 rfl rfl rfl rfl rfl rfl rfl ⟨rfl, rfl, rfl, rfl, rfl⟩ rfl rfl rfl rfl rfl (by kernel_rfl) Try.func5 (by kernel_rfl)
    (of_decide_eq_true (by kernel_rfl)) (by unfold Func.isWrapper; first | (rw [if_pos (by decide +kernel)]; kernel_rfl) | (rw [if_neg (by decide +kernel)]; exact ⟨rfl, rfl⟩))
    (fun os started H enc _ => lifted os started H enc)
theorem proved : Rows.FnExactSpaceOkSaid := over
#print axioms proved
end Go.Proofs.Ytkgoanjemhbjgaa.fnExactSpaceOk
namespace Go.Proofs.Ytkgoanjemhbjgaa
/-- The row, under a short name, for the claim. -/
theorem fnExactSpaceOk_holds : Rows.FnExactSpaceOkSaid := fnExactSpaceOk.proved
end Go.Proofs.Ytkgoanjemhbjgaa
