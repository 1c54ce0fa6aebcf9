/- Part 2 of 2: plain readings of code, rules for them, and a proof over them, joined by a program. Conditions: none. -/
import Derived.Test.YtfijeehojolhlaaDoorRegOf1
import Derived.Below
import Derived.IntWalk
import Derived.Laws.Externs
import Derived.Laws.Strings
import Derived.WideShapes
import Derived.Deep.Slices
import Derived.Laws.StructEq
import Derived.Test.YtfijeehojolhlaaDoorProg
import Derived.Shelf.LaysM
import Derived.Shelf.LaysC
import Derived.Shelf.Strconv.Itoa4
import Derived.Shelf.Strconv.ErrVarAll
import Derived.Lib.AtoiAll
import Derived.Lib.ItoaNum
import Derived.WalkKit
import Derived.BigCall
import Derived.Lib.Hide
import Derived.Deep.QuietTactic
import Derived.Deep.RegionWith
import Derived.BigQuiet
import Derived.Lib.AppendIntMem
import Derived.Lib.SmallJoins
import Derived.Test.YtfijeehojolhlaaDoorCards
import Derived.Test.YtfijeehojolhlaaDoorTie
import Derived.ProofKit
import Derived.LaidMore
import Derived.OpenShut
import Derived.ShutString
import Derived.Stop.Joined
import Derived.Stop.LaidErr
import Derived.Lib.LaidTab
import Derived.SizedLaws
import Derived.SevenTiedAt
/- A piece of code, and a function, of the plainer reading are the model's. Conditions: the table of types is the program's (TabOk); the slots lie in the frame (fnOk). -/
set_option linter.unusedVariables false
set_option linter.unusedSimpArgs false
namespace Go.Den
variable {P : Program}
/-! ## What is handed on -/
theorem app_cur : ∀ (l : List Sh) (f : Vals l → World → Prop) (v : Vals l) (w : World), app l (cur l f) v w = f v w
  | [], f, (), w => rfl
  | s :: r, f, v, w => app_cur r (fun u => f (v.1, u)) v.2 w
theorem Sh.ask_some {s : Sh} {u : Value} {K : s.T → Prop} (h : s.ask u K) : ∃ x, u = s.mk x ∧ K x := by
  cases s with
  | int k =>
    cases u <;> simp only [Sh.ask] at h
    split at h
    · rename_i hk; obtain rfl := kEq_ok hk; exact ⟨_, rfl, h⟩
    · exact h.elim
  | any => exact ⟨u, rfl, by cases u <;> exact h⟩
  | slice => cases u <;> simp only [Sh.ask] at h; exact ⟨⟨_, _, _⟩, rfl, h⟩
  | fn =>
    cases u with
    | func f x c => cases f with
      | func g => exact ⟨⟨g, x.toList, c.toList⟩, rfl, h⟩
      | _ => exact h.elim
    | _ => exact h.elim
  | _ => cases u <;> simp only [Sh.ask] at h; exact ⟨_, rfl, h⟩
theorem ask_some {a : Act} {e : Env} (ha : Agree e a) : ∀ {c : List (Nat × Sh)} {K : Vals (shsOf c) → Prop}, ask e c K → ∃ v, K v ∧ Agree (entries c v) a
  | [], K, h => ⟨(), h, fun i v hv => by simp [entries, Env.find] at hv⟩
  | (j, s) :: r, K, h => by
    unfold ask at h
    split at h
    · exact h.elim
    · rename_i u hu
      obtain ⟨x, hx, h2⟩ := Sh.ask_some h
      clear h
      subst hx
      obtain ⟨v, hk, hv⟩ := ask_some ha h2
      refine ⟨(x, v), hk, fun i y hy => ?_⟩
      simp only [entries, find_cons] at hy
      by_cases hi : i = j
      · rw [if_pos hi] at hy; injection hy with hy; subst hy; subst hi; exact ha _ _ hu
      · rw [if_neg hi] at hy; exact hv i y hy
theorem find_append (e1 e2 : Env) (i : Nat) : Env.find (e1 ++ e2) i = (match Env.find e1 i with | some v => some v | none => Env.find e2 i) := by
  induction e1 with
  | nil => rfl
  | cons x r ih =>
    obtain ⟨j, v⟩ := x
    rw [List.cons_append, find_cons, find_cons, ih]
    by_cases h : i = j <;> simp [h]
theorem Agree.append {e1 e2 : Env} {a : Act} (h1 : Agree e1 a) (h2 : Agree e2 a) : Agree (e1 ++ e2) a := fun i v hv => by
  rw [find_append] at hv
  split at hv
  · rename_i u hu; injection hv with hv; subst hv; exact h1 i _ hu
  · exact h2 i v hv
theorem find_keep (m : Nat) (e : Env) (i : Nat) (v : Value) (h : Env.find (Env.keep m e) i = some v) : Nat.testBit m i = true ∧ Env.find e i = some v := by
  induction e with
  | nil => simp [Env.keep, Env.find] at h
  | cons x r ih =>
    obtain ⟨j, u⟩ := x
    unfold Env.keep at h
    split at h
    · rename_i hb
      rw [find_cons] at h ⊢
      by_cases hi : i = j
      · rw [if_pos hi] at h ⊢; subst hi; exact ⟨hb, h⟩
      · rw [if_neg hi] at h ⊢; exact ih h
    · rename_i hb
      have := ih h
      rw [find_cons]
      by_cases hi : i = j
      · subst hi; rw [this.1] at hb; cases hb
      · rw [if_neg hi]; exact this
theorem Agree.keep {e : Env} {a a' : Act} (h : Agree e a) {m ms : Nat} (hs : Same ms a a') (hd : Nat.beq (m &&& ms) 0 = true) : Agree (e.keep m) a' := fun i v hv => by
  obtain ⟨hb, hf⟩ := find_keep m e i v hv
  have hz := Nat.eq_of_beq_eq_true hd
  have : Nat.testBit ms i = false := by
    have hh : Nat.testBit (m &&& ms) i = false := by rw [hz]; simp
    rw [Nat.testBit_and, hb, Bool.true_and] at hh
    exact hh
  rw [hs i this]
  exact h i v hf
theorem opMods_append : ∀ (a b : List Oper), opMods (a ++ b) = opMods a ||| opMods b
  | [], b => by simp [opMods]
  | o :: r, b => by rw [List.cons_append, opMods_cons, opMods_cons, opMods_append r b, Nat.or_assoc]
theorem or_lt {a b n : Nat} (h : a ||| b < 2 ^ n) : a < 2 ^ n ∧ b < 2 ^ n := ⟨Nat.lt_of_le_of_lt Nat.left_le_or h, Nat.lt_of_le_of_lt Nat.right_le_or h⟩

theorem denSegs_sound {tt : Tab} (htt : TabOk P tt) {n : Nat} {all : List Oper} {Q : Exit → Act → World → Prop} : ∀ (segs : List (Nat × Option (Nat × List (Nat × Sh)))) (ops : List Oper) (e : Env) (a : Act) (w : World) (K : Env → World → Prop),
    opMods ops < 2 ^ n → St n e a → denSegs P tt all segs ops e w K → (∀ e' a' w', K e' w' → St n e' a' → Same (opMods ops) a a' → Q .normal a' w') → wpList P all.toArray Q ops a w
  | [], ops, e, a, w, K, hm, hst, h, hQ => by
    have := denOps_sound htt (all := all) (Q := Q) ops e a w K [] hm hst h (fun e' a' w' hk hs hsame => wpList_nil (hQ e' a' w' hk hs hsame))
    simpa using this
  | (k, none) :: r, ops, e, a, w, K, hm, hst, h, hQ => by
    have hsplit : opMods ops = opMods (ops.take k) ||| opMods (ops.drop k) := by rw [← opMods_append, List.take_append_drop]
    have hm2 := or_lt (hsplit ▸ hm)
    have := denOps_sound htt (all := all) (Q := Q) (ops.take k) e a w _ (ops.drop k) hm2.1 hst h (fun e' a' w' hk hs hsame =>
      denSegs_sound htt r (ops.drop k) e' a' w' K hm2.2 hs hk (fun e'' a'' w'' hk' hs' hsame' => hQ e'' a'' w'' hk' hs' (by rw [hsplit]; exact hsame.trans hsame')))
    rwa [List.take_append_drop] at this
  | (k, some (m, c)) :: r, ops, e, a, w, K, hm, hst, h, hQ => by
    have hsplit : opMods ops = opMods (ops.take k) ||| opMods (ops.drop k) := by rw [← opMods_append, List.take_append_drop]
    have hm2 := or_lt (hsplit ▸ hm)
    unfold denSegs at h
    split at h
    · rename_i hb
      obtain ⟨J, hJ, h⟩ := h
      have := denOps_sound htt (all := all) (Q := Q) (ops.take k) e a w _ (ops.drop k) hm2.1 hst h (fun e' a' w' hk hs hsame => by
        obtain ⟨v, hv, hag⟩ := ask_some hs.agree hk
        have hv := hJ v w' hv
        rw [app_cur] at hv
        exact denSegs_sound htt r (ops.drop k) _ a' w' K hm2.2 ⟨hs.size, hs.defers, hag.append (hst.agree.keep hsame hb)⟩ hv (fun e'' a'' w'' hk' hs' hsame' => hQ e'' a'' w'' hk' hs' (by rw [hsplit]; exact hsame.trans hsame')))
      rwa [List.take_append_drop] at this
    · exact h.elim

/-! ## Code -/
def Post (n : Nat) (K : Kont) (m : Nat) (a0 : Act) : Exit → Act → World → Prop
  | .normal, a, w => Same m a0 a ∧ ∃ e, St n e a ∧ K.norm e w
  | .ret, a, w => ∃ e, St n e a ∧ K.ret e w
  | .exit id, a, w => Same m a0 a ∧ ∃ e k, St n e a ∧ findK K.exits id = some k ∧ k e w
  | _, _, _ => False
theorem findK_cons (id : Nat) (k : Env → World → Prop) (r : List (Nat × (Env → World → Prop))) (i : Nat) : findK ((id, k) :: r) i = if i = id then some k else findK r i := by
  simp only [findK]
  split
  · rename_i h; rw [if_pos (Nat.eq_of_beq_eq_true h)]
  · rename_i h; rw [if_neg (Nat.ne_of_beq_eq_false h)]
theorem Post.mono {n : Nat} {K : Kont} {m m' : Nat} {a0 a1 : Act} (h : ∀ a, Same m a1 a → Same m' a0 a) {e : Exit} {a : Act} {w : World} (hp : Post n K m a1 e a w) : Post n K m' a0 e a w := by
  cases e with
  | normal => exact ⟨h a hp.1, hp.2⟩
  | ret => exact hp
  | exit id => exact ⟨h a hp.1, hp.2⟩
  | goto l => exact hp
  | panic c => exact hp
  | outgrown => exact hp
theorem exists_least {p : Nat → Prop} (h : ∃ k, p k) : ∃ k, p k ∧ ∀ j, p j → k ≤ j := by
  obtain ⟨k, hk⟩ := h
  induction k using Nat.strongRecOn with
  | _ k ih =>
    by_cases hl : ∃ j, j < k ∧ p j
    · obtain ⟨j, hj, hp⟩ := hl; exact ih j hj hp
    · exact ⟨k, hk, fun j hj => Nat.le_of_not_lt fun hlt => hl ⟨j, hlt, hj⟩⟩
open Classical in
noncomputable def least (p : Nat → Prop) : Nat := if h : ∃ k, p k then (exists_least h).choose else 0
theorem least_spec {p : Nat → Prop} (h : ∃ k, p k) : p (least p) ∧ ∀ j, p j → least p ≤ j := by
  unfold least
  rw [dif_pos h]
  exact (exists_least h).choose_spec
theorem loop_sound {c : Code} {Q : Exit → Act → World → Prop} {a0 : Act} {w0 : World} (R : Nat → Act → World → Prop) (h0 : ∃ k, R k a0 w0)
    (round : ∀ k a w, R k a w → c.wp P (Exit.then (fun a' w' => ∃ k', k' < k ∧ R k' a' w') Q) a w) :
    (Code.loop c).wp P Q a0 w0 := by
  refine wp_loop (fun a w => ∃ k, R k a w) (fun a w => least (fun k => R k a w)) h0 (fun a w hI => ?_)
  have hk := (least_spec hI).1
  refine wp_mono (round _ a w hk) (fun e a' w' hq => ?_)
  cases e with
  | normal =>
    obtain ⟨k', hlt, hr⟩ := hq
    exact ⟨⟨k', hr⟩, Nat.lt_of_le_of_lt ((least_spec (p := fun k => R k a' w') ⟨k', hr⟩).2 k' hr) hlt⟩
  | ret => exact hq
  | exit id => exact hq
  | goto l => exact hq
  | panic c => exact hq
  | outgrown => exact hq
theorem den_sound {tt : Tab} (htt : TabOk P tt) (hmix : P.follows .mixedOrders = true) {n : Nat} : ∀ (c : Code) (an : Ann) (e : Env) (w : World) (K : Kont) (a : Act), mods c < 2 ^ n → den P tt c an e w K → St n e a → c.wp P (Post n K (mods c) a) a w := by
  intro c
  induction c with
  | skip =>
    intro an e w K a hm h hst
    exact wp_skip ⟨Same.refl _ _, e, hst, h⟩
  | region id ops d =>
    intro an e w K a hm h hst
    unfold den at h
    unfold denReg at h
    split at h
    · refine wp_region_list ?_
      have := denSegs_sound htt (all := ops.toList) (Q := Post n K (mods (.region id ops false)) a) _ ops.toList e a w K.norm hm hst h (fun e' a' w' hk hs hsame => ⟨hsame, e', hs, hk⟩)
      simpa using this
    · split at h
      · split at h
        · rename_i hok
          exact draw_sound htt hmix (all := ops.toList) (Q := Post n K (mods (.region id ops true)) a) hm hok hst h (fun e' a' w' hk hs hsame => ⟨hsame, e', hs, hk⟩)
        · exact h.elim
      · split at h
        · rename_i hok
          exact drawT_sound htt hmix (all := ops.toList) (Q := Post n K (mods (.region id ops true)) a) hm hok hst h (fun e' a' w' hk hs hsame => ⟨hsame, e', hs, hk⟩)
        · exact h.elim
      · exact h.elim
  | seq x y ihx ihy =>
    intro an e w K a hm h hst
    have hm2 := or_lt (show mods x ||| mods y < 2 ^ n from hm)
    unfold den at h
    split at h
    · rename_i ax ay
      refine wp_seq (wp_mono (ihx ax e w _ a hm2.1 h hst) (fun ex a' w' hp => ?_))
      cases ex with
      | normal =>
        obtain ⟨hsame, e', hs, hk⟩ := hp
        exact wp_mono (ihy ay e' w' K a' hm2.2 hk hs) (fun ex' a'' w'' hp' => hp'.mono (fun b hb => hsame.trans hb))
      | ret => exact hp
      | exit id => exact ⟨hp.1.left, hp.2⟩
      | goto l => exact hp
      | panic c => exact hp
      | outgrown => exact hp
    · rename_i m cs ax ay
      split at h
      · rename_i hb
        obtain ⟨J, hJ, h⟩ := h
        refine wp_seq (wp_mono (ihx ax e w _ a hm2.1 h hst) (fun ex a' w' hp => ?_))
        cases ex with
        | normal =>
          obtain ⟨hsame, e', hs, hk⟩ := hp
          obtain ⟨v, hv, hag⟩ := ask_some hs.agree hk
          have hv := hJ v w' hv
          rw [app_cur] at hv
          exact wp_mono (ihy ay _ w' K a' hm2.2 hv ⟨hs.size, hs.defers, hag.append (hst.agree.keep hsame hb)⟩) (fun ex' a'' w'' hp' => hp'.mono (fun b hb => hsame.trans hb))
        | ret => exact hp
        | exit id => exact ⟨hp.1.left, hp.2⟩
        | goto l => exact hp
        | panic c => exact hp
        | outgrown => exact hp
      · exact h.elim
    · exact h.elim
  | cond o x y ihx ihy =>
    intro an e w K a hm h hst
    have hm2 := or_lt (show mods x ||| mods y < 2 ^ n from hm)
    unfold den at h
    split at h
    · rename_i ax ay
      split at h
      · rename_i t ht
        refine wp_cond_split (hst.agree.ev ht) (fun hh => ?_) (fun hh => ?_)
        · subst hh
          exact wp_mono (ihx ax e w K a hm2.1 h hst) (fun ex a' w' hp => hp.mono (fun b hb => hb.left))
        · subst hh
          exact wp_mono (ihy ay e w K a hm2.2 h hst) (fun ex a' w' hp => hp.mono (fun b hb => hb.right))
      · exact h.elim
    · exact h.elim
  | block id c ih =>
    intro an e w K a hm h hst
    unfold den at h
    split at h
    · rename_i ax
      refine wp_block (wp_mono (ih ax e w _ a hm h hst) (fun ex a' w' hp => ?_))
      cases ex with
      | normal => exact hp
      | ret => exact hp
      | exit i =>
        obtain ⟨hsame, e', k, hs, hf, hk⟩ := hp
        rw [findK_cons] at hf
        simp only [Exit.inBlock]
        by_cases hi : i = id
        · rw [if_pos hi] at hf ⊢
          injection hf with hf
          subst hf
          exact ⟨hsame, e', hs, hk⟩
        · rw [if_neg hi] at hf ⊢
          exact ⟨hsame, e', k, hs, hf, hk⟩
      | goto l => exact hp
      | panic c => exact hp
      | outgrown => exact hp
    · exact h.elim
  | loop c ih =>
    intro an e w K a hm h hst
    unfold den at h
    split at h
    · rename_i m cs ax
      split at h
      · rename_i hb
        obtain ⟨v0, h, hv0⟩ := ask_some hst.agree h
        obtain ⟨I, ⟨k0, hk0⟩, hround⟩ := h
        refine loop_sound (fun k a' w' => ∃ v, app (shsOf cs) (I k) v w' ∧ St n (entries cs v ++ e.keep m) a' ∧ Same (mods c) a a')
          ⟨k0, v0, hk0, ⟨hst.size, hst.defers, hv0.append (hst.agree.keep (Same.refl (mods c) a) hb)⟩, Same.refl _ _⟩ (fun k a1 w1 hR => ?_)
        obtain ⟨v, hv, hs, hsame⟩ := hR
        have hr := hround k v w1 hv
        rw [app_cur] at hr
        refine wp_mono (ih ax _ w1 _ a1 hm hr hs) (fun ex a' w' hp => ?_)
        cases ex with
        | normal =>
          obtain ⟨hsame', e', hs', hk⟩ := hp
          obtain ⟨v', hv', hag⟩ := ask_some hs'.agree hk
          rw [app_cur] at hv'
          obtain ⟨k', hlt, hv'⟩ := hv'
          have hsame2 : Same (mods c) a a' := (hsame.trans hsame').mono fun i hi => by rw [Nat.testBit_or, hi]; rfl
          exact ⟨k', hlt, v', hv', ⟨hs'.size, hs'.defers, hag.append (hst.agree.keep hsame2 hb)⟩, hsame2⟩
        | ret => exact hp
        | exit i => exact ⟨(hsame.trans hp.1).mono fun i hi => by rw [Nat.testBit_or, show Nat.testBit (mods c) i = false from hi]; rfl, hp.2⟩
        | goto l => exact hp
        | panic c => exact hp
        | outgrown => exact hp
      · exact h.elim
    · exact h.elim
  | exit id =>
    intro an e w K a hm h hst
    unfold den at h
    split at h
    · rename_i k hk
      exact wp_exit ⟨Same.refl _ _, e, k, hst, hk, h⟩
    · exact h.elim
  | ret =>
    intro an e w K a hm h hst
    exact wp_ret ⟨e, hst, h⟩
  | rangeFunc f p x y => intro an e w K a hm h hst; exact absurd h (by simp [den])
  | scope x => intro an e w K a hm h hst; exact absurd h (by simp [den])
  | label l => intro an e w K a hm h hst; exact absurd h (by simp [den])
  | goto l => intro an e w K a hm h hst; exact absurd h (by simp [den])
  | refuse s => intro an e w K a hm h hst; exact absurd h (by simp [den])
/-! ## A function -/
def resOf (tmps : Array Value) : ResultVar → Sem Value
  | .tmp t => pure (tmps.getD t undef)
  | .cell d t => do loadVar t (← asAddr (tmps.getD d undef))
theorem results_eq (fn : Func) (tmps : Array Value) : results fn tmps = (do let vs ← fn.results.mapM (resOf tmps); pure (if h : vs.size = 1 then vs[0] else .tuple vs)) := by
  unfold results
  congr 1
theorem resVals_run {tt : Tab} (htt : TabOk P tt) {e : Env} {a : Act} (ha : Agree e a) {w : World} : ∀ (rs : List ResultVar) (K : List Value → Prop), resVals tt e w rs K →
    ∃ vs, K vs ∧ (rs.mapM (resOf a.tmps)).run P w = .ok vs w
  | [], K, h => ⟨[], h, by simp⟩
  | .tmp t :: r, K, h => by
    unfold resVals at h
    split at h
    · rename_i v hv
      obtain ⟨vs, hk, hr⟩ := resVals_run htt ha r _ h
      refine ⟨v :: vs, hk, ?_⟩
      have h1 : (resOf a.tmps (.tmp t)).run P w = .ok v w := by simp only [resOf, ha t v hv, Sem.run_pure]
      rw [List.mapM_cons]
      simp only [Sem.run_bind, Sem.run_pure, h1, Result.andThen]
      rw [hr]
    · exact h.elim
  | .cell d t :: r, K, h => by
    unfold resVals at h
    obtain ⟨ti, hti, h1⟩ := tiOf_some h
    obtain ⟨p, hp, h2⟩ := addrOf_some h1
    obtain ⟨v, h3, hl⟩ := ld_run (htt.find hti) h2
    obtain ⟨vs, hk, hr⟩ := resVals_run htt ha r _ h3
    refine ⟨v :: vs, hk, ?_⟩
    have h4 : (resOf a.tmps (.cell d t)).run P w = .ok v w := by simp [resOf, ha d _ hp, asAddr, hl]
    rw [List.mapM_cons]
    simp only [Sem.run_bind, Sem.run_pure, h4, Result.andThen]
    rw [hr]
theorem argEnv_agree : ∀ (args : List Value) (i : Nat) (tmps : Array Value), (∀ j, j < args.length → tmps.getD (i + j) undef = args[j]?.getD undef) → ∀ k v, Env.find (argEnv i args) k = some v → tmps.getD k undef = v
  | [], i, tmps, h, k, v, hk => by simp [argEnv, Env.find] at hk
  | x :: r, i, tmps, h, k, v, hk => by
    simp only [argEnv, find_cons] at hk
    by_cases hki : k = i
    · rw [if_pos hki] at hk; injection hk with hk; subst hk; subst hki
      have := h 0 (by simp)
      simpa using this
    · rw [if_neg hki] at hk
      exact argEnv_agree r (i + 1) tmps (fun j hj => by
        have := h (j + 1) (by simpa using hj)
        rw [show i + 1 + j = i + (j + 1) by omega]
        simpa using this) k v hk
theorem denFn_sound {tt : Tab} (htt : TabOk P tt) (hmix : P.follows .mixedOrders = true) {f : Nat} {fn : Func} {an : Ann} {args : List Value} {w : World} {K : Value → World → Prop} (hf : P.funcs[f]? = some fn) (hok : fnOk fn args.length = true) (h : denFn P tt fn an args w K) :
    Calls P f ⟨args⟩ w (fun e w' => ∃ v, e = .returned v ∧ K v w') := by
  unfold denFn at h
  unfold fnOk at hok
  split at h
  · rename_i c hb
    rw [hb] at hok
    simp only [Bool.and_eq_true] at hok
    have h1 := Nat.le_of_ble_eq_true hok.1
    have h2 := Nat.le_of_ble_eq_true hok.2
    rw [Nat.one_shiftLeft] at h1
    refine calls_of_wp hf hb ?_
    have hst : St fn.ntmps (argEnv 0 args) { tmps := (⟨args⟩ : Array Value) ++ Array.replicate (fn.ntmps - (⟨args⟩ : Array Value).size) undef, defers := [] } := by
      refine ⟨by simp; omega, rfl, fun i v hv => argEnv_agree args 0 _ (fun j hj => ?_) i v hv⟩
      simp [Array.getD_eq_getD_getElem?, Array.getElem?_append, hj]
    refine wp_mono (den_sound htt hmix c an _ w _ _ (by omega) h hst) (fun ex a w' hp => ?_)
    have fin : ∀ e, St fn.ntmps e a → retK tt fn.results.toList K e w' → a.defers = [] ∧ ∃ v, (results fn a.tmps).run P w' = .ok v w' ∧ ∃ u, Ending.returned v = .returned u ∧ K u w' := by
      intro e hs hk
      obtain ⟨vs, hk, hr⟩ := resVals_run htt hs.agree fn.results.toList _ hk
      refine ⟨hs.defers, oneOf vs, ?_, _, rfl, hk⟩
      rw [results_eq]
      simp only [Array.mapM_eq_mapM_toList, bind_map_left, Sem.run_bind, hr, Result.andThen, Sem.run_pure]
      congr 1
      cases vs with
      | nil => rfl
      | cons v r => cases r <;> rfl
    cases ex with
    | normal => obtain ⟨_, e, hs, hk⟩ := hp; exact fin e hs hk
    | ret => obtain ⟨e, hs, hk⟩ := hp; exact fin e hs hk
    | exit id => obtain ⟨_, e, k, _, hk, _⟩ := hp; simp [findK] at hk
    | goto l => exact hp.elim
    | panic c => exact hp.elim
    | outgrown => exact hp.elim
  · exact h.elim
end Go.Den

/- Rules for proofs over plain readings: ways, joins, loops, calls. Conditions: none. -/
set_option linter.unusedVariables false
set_option linter.unusedSimpArgs false
namespace Go.Den
open Go.RowKit
/-! ## Ways -/
theorem BIf.of {x : Bool} {A B : Prop} (h1 : x = true → A) (h2 : x = false → B) : BIf x A B := by
  cases x
  · exact h2 rfl
  · exact h1 rfl
theorem BIf.dec {P : Prop} [Decidable P] {A B : Prop} (h1 : P → A) (h2 : ¬ P → B) : BIf (decide P) A B := BIf.of (fun h => h1 (of_decide_eq_true h)) (fun h => h2 (of_decide_eq_false h))
theorem BIf.eq {a b : Int} {A B : Prop} (h1 : a = b → A) (h2 : a ≠ b → B) : BIf (a == b) A B := BIf.of (fun h => h1 (eq_of_beq h)) (fun h => h2 (by simpa using h))
theorem BIf.f {x : Bool} {A B : Prop} (hx : x = false) (h : B) : BIf x A B := by subst hx; exact h
theorem LetW_iff {w : World} {k : World → Prop} : LetW w k ↔ k w := Iff.rfl
/-! ## Joins -/
/-! ## Loops -/
theorem LoopW.m1 {s : Sh} {body : JT [s] → JT [s]} {x : s.T} {w : World} (Inv : s.T → World → Prop) (μ : s.T → World → Nat) (h0 : Inv x w)
    (step : ∀ x w, Inv x w → ∀ J : s.T → World → Prop, (∀ x' w', Inv x' w' → μ x' w' < μ x w → J x' w') → (body J : s.T → World → Prop) x w) : LoopW [s] body (x, ()) w :=
  ⟨fun n x w => Inv x w ∧ μ x w = n, ⟨_, h0, rfl⟩, fun n v w h => step v.1 w h.1 _ (fun x' w' hi hm => ⟨μ x' w', h.2 ▸ hm, hi, rfl⟩)⟩
theorem LoopW.m2 {s t : Sh} {body : JT [s, t] → JT [s, t]} {x : s.T} {y : t.T} {w : World} (Inv : s.T → t.T → World → Prop) (μ : s.T → t.T → World → Nat) (h0 : Inv x y w)
    (step : ∀ x y w, Inv x y w → ∀ J : s.T → t.T → World → Prop, (∀ x' y' w', Inv x' y' w' → μ x' y' w' < μ x y w → J x' y' w') → (body J : s.T → t.T → World → Prop) x y w) : LoopW [s, t] body (x, (y, ())) w :=
  ⟨fun n x y w => Inv x y w ∧ μ x y w = n, ⟨_, h0, rfl⟩, fun n v w h => step v.1 v.2.1 w h.1 _ (fun x' y' w' hi hm => ⟨μ x' y' w', h.2 ▸ hm, hi, rfl⟩)⟩
/-! ## Calls -/
theorem CallW.mono {P : Program} {f : Nat} {args : Array Value} {w : World} {K K' : Value → World → Prop} (h : CallW P f args w K) (hk : ∀ v w', K v w' → K' v w') : CallW P f args w K' := by
  rcases h with ⟨h1, h2⟩ | ⟨v, w', h1, h2⟩
  · exact .inl ⟨h1, h2.mono fun e w' ⟨v, he, hK⟩ => ⟨v, he, hk _ _ hK⟩⟩
  · exact .inr ⟨v, w', h1, hk _ _ h2⟩
/-! ## Numbers -/
theorem w64 {n : Int} (h1 : -9223372036854775808 ≤ n) (h2 : n ≤ 9223372036854775807) : IntKind.i64.wrap n = n := by rw [IntKind.wrap_i64]; omega
theorem wu64 {n : Int} (h1 : 0 ≤ n) (h2 : n ≤ 18446744073709551615) : IntKind.u64.wrap n = n := by rw [IntKind.wrap_u64]; omega
/-! ## Worlds -/
/-- Nothing that was there has turned, but the blocks of S. -/
structure Only (S : Nat → Prop) (w w' : World) : Prop where
  os : w'.os = w.os
  tape : w'.tape = w.tape
  output : w'.output = w.output
  size : w.heap.size ≤ w'.heap.size
  block : ∀ k, k < w.heap.size → ¬ S k → w'.heap[k]? = w.heap[k]?
theorem Only.refl (S : Nat → Prop) (w : World) : Only S w w := ⟨rfl, rfl, rfl, Nat.le_refl _, fun _ _ _ => rfl⟩
theorem Only.trans {S : Nat → Prop} {a b c : World} (h : Only S a b) (k : Only S b c) : Only S a c :=
  ⟨k.os.trans h.os, k.tape.trans h.tape, k.output.trans h.output, Nat.le_trans h.size k.size, fun i hi hs => (k.block i (Nat.lt_of_lt_of_le hi h.size) hs).trans (h.block i hi hs)⟩
/-- Nothing has turned. -/
abbrev Ext (w w' : World) : Prop := Only (fun _ => False) w w'
theorem Ext.below {w w' : World} (h : Ext w w') : Below w.heap.size w w' := ⟨h.os, h.tape, h.output, h.size, fun k hk => h.block k hk id⟩
theorem ext_alloc (w : World) (o : Obj) : Ext w (w.alloc o) := ⟨rfl, rfl, rfl, by simp, fun k hk _ => Below.heap_alloc _ _ _ hk⟩
theorem add_mk (b o n : Nat) : (⟨b, o, none⟩ : Addr).add n = ⟨b, o + n, none⟩ := by unfold Addr.add; split <;> simp_all
/-! ## A new block -/
theorem block_alloc (w : World) (o : Obj) : (w.alloc o).heap[w.heap.size]? = some o := by show (w.heap.push _)[w.heap.size]? = _; simp
/-! ## A block of cells, in the open -/
/-- Block b has these cells, none of them frozen. -/
def Blk (w : World) (b : Nat) (vs : List Value) : Prop := ∃ e, w.heap[b]? = some (.cells ⟨vs⟩ e (0, 0))
theorem blk_alloc (w : World) (vs : List Value) (e : TypeId) : Blk (w.alloc (.cells ⟨vs⟩ e)) w.heap.size vs := ⟨e, block_alloc w _⟩
theorem Blk.cell {w : World} {b : Nat} {vs : List Value} (h : Blk w b vs) (i : Nat) : w.cell? ⟨b, i, none⟩ = vs[i]? := by
  obtain ⟨e, h⟩ := h
  simp [World.cell?, h]
end Go.Den

/- Rules for proofs over plain readings: slices whose row is the call's own, append. Conditions: none. -/
set_option linter.unusedVariables false
set_option linter.unusedSimpArgs false
namespace Go.Den
theorem row_of_blk {w : World} {b : Nat} {vs : List Value} (h : Blk w b vs) {n : Nat} (hn : vs.length = n) : RowAt w (some ⟨b, 0, none⟩) n vs :=
  ⟨hn, fun _ => ⟨_, rfl, fun j v hv => by rw [add_mk, h.cell, Nat.zero_add]; exact hv⟩⟩
/-! ## Rows of structs -/
end Go.Den

/- Rules for proofs over plain readings: texts. Conditions: none. -/
set_option linter.unusedVariables false
set_option linter.unusedSimpArgs false
namespace Go.Den
theorem strEq_iff {a b : ByteArray} : strEq a b = true ↔ a = b := by
  unfold strEq
  rw [ByteArray.toList_eq, ByteArray.toList_eq]
  constructor
  · intro h
    have h := eq_of_beq h
    cases a; cases b
    simp only [ByteArray.mk.injEq]
    exact Array.toList_inj.1 h
  · rintro rfl; simp
end Go.Den

/- Rules for proofs over plain readings: a cell of one's own row written. Conditions: none. -/
set_option linter.unusedVariables false
set_option linter.unusedSimpArgs false
namespace Go.Den
end Go.Den

/- A law's arguments, opened: what lies in memory, as a value of Lean's. Conditions: none. -/
set_option linter.unusedVariables false
set_option linter.unusedSimpArgs false
namespace Go.Den
open Go.ChangeShapes Go.WideShapes
section
variable {H : Type} {enc : TypeId × Value → H} {P : Program}
end
end Go.Den
namespace Go.Den
end Go.Den

/- Rules for proofs over plain readings: sets of whole numbers, kept as maps to bool. Conditions: none. -/
set_option linter.unusedVariables false
set_option linter.unusedSimpArgs false
namespace Go.Den
end Go.Den

/- Rules for the law's own functions: copying field by field, rows of structs written element by element. Conditions: none. -/
set_option linter.unusedVariables false
set_option linter.unusedSimpArgs false
namespace Go.Den
end Go.Den

/- Go's data as trees: how they lie in memory, lent or owned; their sizes; what has been marked. Conditions: none. -/
set_option linter.unusedVariables false
set_option linter.unusedSimpArgs false
namespace Go.Den
/-! ## Lent -/
/-! ## Owned: bs are all blocks that are reached -/
end Go.Den
namespace Go.Den
/-! ## How many -/
/-! How many marks, in an element. -/
/-! How many marks, handed by value. -/
/-! ## Marked, from k on -/
/-! ## One element of many -/
end Go.Den

/- Rules for the laws' own functions over trees: copies made element by element. Conditions: none. -/
set_option linter.unusedVariables false
set_option linter.unusedSimpArgs false
namespace Go.Den
/-! ## A slice that is lent -/
/-! ## Marks in one's own row -/
end Go.Den

/- Steps of proofs over plain readings; rules for the laws' own functions, more. Conditions: none. -/
set_option linter.unusedVariables false
set_option linter.unusedSimpArgs false
namespace Go.Den
/-! ## Steps -/
/-! ## Trees in blocks of a range -/
/-! ## Marks: the fields of an element, one behind the other -/
end Go.Den
namespace Go.Den
end Go.Den
namespace Go.Den
/-! ## The mark that the laws write into a text -/
/-! ## Marked trees -/
end Go.Den
namespace Go.Den
end Go.Den

/- From a law's arguments, opened, to trees; rows of flat structs. Conditions: none. -/
set_option linter.unusedVariables false
set_option linter.unusedSimpArgs false
namespace Go.Den
end Go.Den
namespace Go.Den
end Go.Den

/- Trees handed by value: owned and marked, small facts. Conditions: none. -/
set_option linter.unusedVariables false
set_option linter.unusedSimpArgs false
namespace Go.Den
open Go
end Go.Den

/- Bits of 64-bit words, rows of bytes. Conditions: none. -/
set_option linter.unusedVariables false
set_option linter.unusedSimpArgs false
namespace Go.Den
open Go
end Go.Den

/- Memory in parts: what a call owns, as a list of assertions over blocks. Conditions: none. -/
set_option linter.unusedVariables false
set_option linter.unusedSimpArgs false
namespace Go.Den
open Go
/-! ## Trees in blocks -/
end Go.Den

/- Steps over memory in parts. Conditions: none. -/
set_option linter.unusedVariables false
set_option linter.unusedSimpArgs false
namespace Go.Den
open Go
/-! ## A block -/
/-! ## A row -/
end Go.Den

/- Steps over rows of memory in parts: elements written, opened; append. Conditions: none. -/
set_option linter.unusedVariables false
set_option linter.unusedSimpArgs false
namespace Go.Den
open Go
/-! ## append -/
end Go.Den

/- From memory in parts to trees: results. Conditions: none. -/
set_option linter.unusedVariables false
set_option linter.unusedSimpArgs false
namespace Go.Den
open Go
/-! ## Rows made otherwise -/
/-! ## Sets of numbers, kept as maps to bool -/
end Go.Den

/- Rows whose elements own rows: append. Conditions: none. -/
set_option linter.unusedVariables false
set_option linter.unusedSimpArgs false
namespace Go.Den
open Go
end Go.Den

/- Lent rows of records; places of elements; bits of 64-bit numbers. Conditions: none. -/
set_option linter.unusedVariables false
set_option linter.unusedSimpArgs false
namespace Go.Den
open Go
end Go.Den
namespace Go.Den
open Go
/-! ## Joins whose second value is a call's -/
end Go.Den

/- Pointers that are known; joins of several things. Conditions: none. -/
set_option linter.unusedVariables false
namespace Go.Den
open Go
end Go.Den

/- Rows of records of one's own: read, written field by field, cut. Conditions: none. -/
set_option linter.unusedVariables false
set_option linter.unusedSimpArgs false
namespace Go.Den
open Go
/-! ## A block under its address -/
/-! ## Parts of a row -/
end Go.Den

/- Bits of 64-bit signed numbers that are not negative: sets of small numbers. Conditions: none. -/
set_option linter.unusedVariables false
set_option linter.unusedSimpArgs false
namespace Go.Den
open Go
/-! ## Sets -/
/-! ## The program's ways of asking and writing -/
/-! ## Sets of the numbers 1 .. 15 -/
end Go.Den

/- Parts with contents that are not told: blocks of ints of which only a property is kept; a cursor over bytes. Conditions: none. -/
set_option linter.unusedVariables false
set_option linter.unusedSimpArgs false
namespace Go.Den
open Go
/-! ## The cursor of a draw -/
end Go.Den

/- Structs of numbers compared cell by cell: SameAt from a table check. Conditions: none. -/
set_option linter.unusedVariables false
set_option linter.unusedSimpArgs false
namespace Go.Den
open Go
end Go.Den

/- Rows of records written over in their places (copy within a row), rows made shorter. Conditions: none. -/
set_option linter.unusedVariables false
set_option linter.unusedSimpArgs false
namespace Go.Den
open Go
end Go.Den

/- Bags: parts that belong to the elements of a list, as one part. Conditions: none. -/
set_option linter.unusedVariables false
set_option linter.unusedSimpArgs false
namespace Go.Den
open Go
end Go.Den

/- The types of the program as the plainer reading wants them, held against the program. Conditions: none. -/
namespace Go.Proofs.YtfijeehojolhlaaDoor
open Go Go.Den
def ti2 : TI := ⟨.int .i64, [.int .i64], [.int .i64 0], 8⟩
theorem tiok2 : TIOk Tryd.prog 2 ti2 := ⟨⟨Tryd.t2, (.int .i64 0 : Value), by kernel_rfl, by kernel_rfl, by kernel_rfl, by kernel_rfl, by kernel_rfl⟩, Tryd.underlying2, by kernel_rfl, by kernel_rfl⟩
def ti3 : TI := ⟨.int .i64, [.int .i64], [.int .i64 0], 8⟩
theorem tiok3 : TIOk Tryd.prog 3 ti3 := ⟨⟨Tryd.t3, (.int .i64 0 : Value), by kernel_rfl, by kernel_rfl, by kernel_rfl, by kernel_rfl, by kernel_rfl⟩, Tryd.underlying3, by kernel_rfl, by kernel_rfl⟩
def ti5 : TI := ⟨.int .u8, [.int .u8], [.int .u8 0], 1⟩
theorem tiok5 : TIOk Tryd.prog 5 ti5 := ⟨⟨Tryd.t5, (.int .u8 0 : Value), by kernel_rfl, by kernel_rfl, by kernel_rfl, by kernel_rfl, by kernel_rfl⟩, Tryd.underlying5, by kernel_rfl, by kernel_rfl⟩
def ti9 : TI := ⟨.str, [.str], [.string (⟨#[]⟩ : ByteArray)], 16⟩
theorem tiok9 : TIOk Tryd.prog 9 ti9 := ⟨⟨Tryd.t9, (.string (⟨#[]⟩ : ByteArray) : Value), by kernel_rfl, by kernel_rfl, by kernel_rfl, by kernel_rfl, by kernel_rfl⟩, Tryd.underlying9, by kernel_rfl, by kernel_rfl⟩
def ti31 : TI := ⟨.int .u64, [.int .u64], [.int .u64 0], 8⟩
theorem tiok31 : TIOk Tryd.prog 31 ti31 := ⟨⟨Tryd.t31, (.int .u64 0 : Value), by kernel_rfl, by kernel_rfl, by kernel_rfl, by kernel_rfl, by kernel_rfl⟩, Tryd.underlying31, by kernel_rfl, by kernel_rfl⟩
def ti33 : TI := ⟨.slice 5, [.slice], [.slice none 0 0], 24⟩
theorem tiok33 : TIOk Tryd.prog 33 ti33 := ⟨⟨Tryd.t33, (.slice none 0 0 : Value), by kernel_rfl, by kernel_rfl, by kernel_rfl, by kernel_rfl, by kernel_rfl⟩, Tryd.underlying33, by kernel_rfl, by kernel_rfl⟩
def tt : Tab := [(2, ti2), (3, ti3), (5, ti5), (9, ti9), (31, ti31), (33, ti33)]
theorem tt_ok : TabOk Tryd.prog tt := ⟨tiok2, tiok3, tiok5, tiok9, tiok31, tiok33, trivial⟩
theorem mix : Tryd.prog.follows .mixedOrders = true := by kernel_rfl
end Go.Proofs.YtfijeehojolhlaaDoor

/- The plainer reading of functions of the program, each held against its code. Conditions: none. -/
set_option linter.unusedVariables false
set_option maxRecDepth 100000
namespace Go.Proofs.YtfijeehojolhlaaDoor
open Go Go.Den
/- loop.example/g00008/laws.FnExactRegOf -/
def an3 : Ann := (.seq .leaf (.seq (.seq .leaf (.cond (.seq .leaf .leaf) .leaf)) (.seq .leaf (.seq .leaf (.seq (.seq .leaf (.cond (.seq .leaf .leaf) .leaf)) (.seq .leaf .leaf))))))
def W3 (a0 : ByteArray) (w : World) (K : Value → World → Prop) : Prop :=
  BIf (decide (((a0.size : Int) : Int) > 1048576)) (K (.bool true) w) (CallW Tryd.prog 4 #[.string a0] w fun v1 w2 => ∃ n3 : Int, v1 = .int .i64 n3 ∧ CallW Tryd.prog 5 #[.string a0] w2 fun v4 w5 => ∃ n6 : Int, v4 = .int .i64 n6 ∧ BIf ((n6 : Int) != n3) (K (.bool false) w5) (K (.bool true) w5))
theorem eq3 (a0 : ByteArray) (w : World) (K : Value → World → Prop) : denFn Tryd.prog tt Tryd.f3 an3 [.string a0] w K = W3 a0 w K := by kernel_rfl
/- loop.example/g00008/spec.RegOf -/
def an4 : Ann := (.seq .leaf (.seq (.seq .leaf (.in_ (.loop 1 [(3, .int .i64)] (.seq (.seq .leaf (.cond .leaf .leaf)) (.seq (.in_ (.seq .leaf (.cond (.seq .leaf .leaf) .leaf))) .leaf))))) (.seq (.seq .leaf (.in_ (.loop 1 [(4, .int .i64)] (.seq (.seq .leaf (.cond .leaf .leaf)) (.seq (.in_ (.seq .leaf (.seq (.seq .leaf (.cond (.seq .leaf .leaf) .leaf)) (.seq (.seq .leaf (.cond (.seq .leaf .leaf) .leaf)) (.seq .leaf (.cond (.seq .leaf .leaf) .leaf)))))) .leaf))))) (.seq (.seq .leaf (.in_ (.seq .leaf (.cond (.seq .leaf .leaf) (.seq .leaf (.cond (.seq .leaf .leaf) (.seq .leaf (.cond (.seq .leaf .leaf) .leaf)))))))) (.seq .leaf .leaf)))))
def W4 (a0 : ByteArray) (w : World) (K : Value → World → Prop) : Prop :=
  LoopW [.int .i64] (fun J2 => fun (n1 : Int) w3 => BIf (decide ((n1 : Int) < 32)) (CallW Tryd.prog 6 #[.int .i64 n1] w3 fun v4 w5 => ∃ s6 : ByteArray, v4 = .string s6 ∧ (((⟨#[114]⟩ : ByteArray).size + s6.size : Nat) : Int) ≤ IntKind.i64.max ∧ BIf (strEq a0 ((⟨#[114]⟩ : ByteArray) ++ s6)) (K (.int .i64 n1) w5) (J2 (IntKind.wrap .i64 (n1 + 1)) w5)) (LoopW [.int .i64] (fun J8 => fun (n7 : Int) w9 => BIf (decide ((n7 : Int) < 8)) (CallW Tryd.prog 6 #[.int .i64 n7] w9 fun v10 w11 => ∃ s12 : ByteArray, v10 = .string s12 ∧ (((⟨#[97]⟩ : ByteArray).size + s12.size : Nat) : Int) ≤ IntKind.i64.max ∧ BIf (strEq a0 ((⟨#[97]⟩ : ByteArray) ++ s12)) (K (.int .i64 (IntKind.wrap .i64 (4 + n7))) w11) ((((⟨#[116]⟩ : ByteArray).size + s12.size : Nat) : Int) ≤ IntKind.i64.max ∧ BIf (strEq a0 ((⟨#[116]⟩ : ByteArray) ++ s12)) (K (.int .i64 (IntKind.wrap .i64 (12 + n7))) w11) ((((⟨#[115]⟩ : ByteArray).size + s12.size : Nat) : Int) ≤ IntKind.i64.max ∧ BIf (strEq a0 ((⟨#[115]⟩ : ByteArray) ++ s12)) (K (.int .i64 (IntKind.wrap .i64 (20 + n7))) w11) (J8 (IntKind.wrap .i64 (n7 + 1)) w11)))) (BIf (strEq a0 (⟨#[122, 101, 114, 111]⟩ : ByteArray)) (K (.int .i64 0) w9) (BIf (strEq a0 (⟨#[114, 97]⟩ : ByteArray)) (K (.int .i64 1) w9) (BIf (strEq a0 (⟨#[115, 112]⟩ : ByteArray)) (K (.int .i64 2) w9) (K (.int .i64 (-1)) w9))))) ((0 : Int), ()) w3)) ((0 : Int), ()) w
theorem eq4 (a0 : ByteArray) (w : World) (K : Value → World → Prop) : denFn Tryd.prog tt Tryd.f4 an4 [.string a0] w K = W4 a0 w K := by kernel_rfl
theorem ok4 : OkFn Tryd.prog 4 := ⟨Tryd.f4, Tryd.func4, by kernel_rfl, by kernel_rfl⟩
theorem go4 {a0 : ByteArray} {w : World} {K : Value → World → Prop} (h : W4 a0 w K) : CallW Tryd.prog 4 #[.string a0] w K :=
  .inl ⟨ok4, denFn_sound tt_ok mix Tryd.func4 (by kernel_rfl) (eq4 a0 w K ▸ h)⟩

/- loop.example/g00008/spec.Decimal -/
def an6 : Ann := (.seq .leaf (.seq (.seq .leaf (.cond (.seq .leaf .leaf) .leaf)) (.seq .leaf .leaf)))
def W6 (a0 : Int) (w : World) (K : Value → World → Prop) : Prop :=
  BIf (decide ((a0 : Int) < 0)) (CallW Tryd.prog 9 #[.int .u64 (IntKind.wrap .u64 (0 - (IntKind.wrap .u64 a0)))] w fun v1 w2 => ∃ s3 : ByteArray, v1 = .string s3 ∧ (((⟨#[45]⟩ : ByteArray).size + s3.size : Nat) : Int) ≤ IntKind.i64.max ∧ K (.string ((⟨#[45]⟩ : ByteArray) ++ s3)) w2) (CallW Tryd.prog 9 #[.int .u64 (IntKind.wrap .u64 a0)] w fun v4 w5 => ∃ s6 : ByteArray, v4 = .string s6 ∧ K (.string s6) w5)
theorem eq6 (a0 : Int) (w : World) (K : Value → World → Prop) : denFn Tryd.prog tt Tryd.f6 an6 [.int .i64 a0] w K = W6 a0 w K := by kernel_rfl
theorem ok6 : OkFn Tryd.prog 6 := ⟨Tryd.f6, Tryd.func6, by kernel_rfl, by kernel_rfl⟩
theorem go6 {a0 : Int} {w : World} {K : Value → World → Prop} (h : W6 a0 w K) : CallW Tryd.prog 6 #[.int .i64 a0] w K :=
  .inl ⟨ok6, denFn_sound tt_ok mix Tryd.func6 (by kernel_rfl) (eq6 a0 w K ▸ h)⟩

/- loop.example/g00008/spec.l1Unsigned -/
def an9 : Ann := (.seq .leaf (.seq .leaf (.in_ (.loop 0 [(0, .int .u64), (3, .str)] (.in_ (.seq .leaf (.seq .leaf (.seq .leaf (.cond (.seq .leaf .leaf) .leaf)))))))))
def W9 (a0 : Int) (w : World) (K : Value → World → Prop) : Prop :=
  LoopW [.int .u64, .str] (fun J3 => fun (n1 : Int) (s2 : ByteArray) w4 => (10 : Int) ≠ 0 ∧ LetW (w4.alloc (.cells #[.int .u8 (IntKind.wrap .u8 (IntKind.wrap .u64 (48 + (Int.tmod n1 10))))] 5)) fun w5 => ∃ xs6 : List Int, RowAt w5 (some ⟨w4.heap.size, 0, none⟩) 1 (xs6.map (Value.int .u8)) ∧ (((strOfNums xs6).size + s2.size : Nat) : Int) ≤ IntKind.i64.max ∧ (10 : Int) ≠ 0 ∧ BIf ((IntKind.wrap .u64 (Int.tdiv n1 10) : Int) == 0) (K (.string ((strOfNums xs6) ++ s2)) w5) (J3 (IntKind.wrap .u64 (Int.tdiv n1 10)) ((strOfNums xs6) ++ s2) w5)) ((a0 : Int), (((⟨#[]⟩ : ByteArray) : ByteArray), ())) w
theorem eq9 (a0 : Int) (w : World) (K : Value → World → Prop) : denFn Tryd.prog tt Tryd.f9 an9 [.int .u64 a0] w K = W9 a0 w K := by kernel_rfl
theorem ok9 : OkFn Tryd.prog 9 := ⟨Tryd.f9, Tryd.func9, by kernel_rfl, by kernel_rfl⟩
theorem go9 {a0 : Int} {w : World} {K : Value → World → Prop} (h : W9 a0 w K) : CallW Tryd.prog 9 #[.int .u64 a0] w K :=
  .inl ⟨ok9, denFn_sound tt_ok mix Tryd.func9 (by kernel_rfl) (eq9 a0 w K ▸ h)⟩

end Go.Proofs.YtfijeehojolhlaaDoor

/-
  DERIVED: THE SHELF's CONTRACTS AT THIS DUMP, IN PLAIN WORDS (tools/lay-plain.mjs out of 'TrydShelf.lean', which tools/lay-shelf.mjs wrote): THE SAME DECLARATIONS UNDER THE SAME NAMES: 'import', 'namespace', 'open', 'def', 'theorem' AND NOTHING ELSE: no command of the shelf's: FOR A HAND-IN. Each laying: the table of numbers ('.._ren') and one theorem, a field a fact of the dump's own or the kernel's comparison; each contract: ONE APPLICATION.
-/
namespace Go.Proofs
open Go.Shelf
def Tryd.laysM171_ren : Go.Shelf.Ren := ⟨fun | 171 => 8 | 243 => 12 | 246 => 18 | 283 => 22 | 284 => 23 | 285 => 24 | 286 => 25 | 129 => 29 | 317 => 28 | 318 => 30 | 319 => 31 | 320 => 32 | 337 => 33 | 338 => 34 | n => n, fun | 3 => 3 | 9 => 9 | 2 => 2 | 4 => 4 | 171 => 48 | 0 => 0 | 53 => 31 | 37 => 33 | 5 => 5 | 173 => 51 | 212 => 60 | 51 => 61 | 20 => 20 | 213 => 62 | 46 => 43 | 232 => 66 | 233 => 67 | n => n, fun | 17 => 2 | 18 => 3 | 19 => 4 | n => n⟩
theorem Tryd.laysM171 : Go.Proofs.LaysM.n171 Tryd.prog Tryd.laysM171_ren := {
  mixed := by kernel_rfl
  f129 := Tryd.func29.trans (congrArg some (by kernel_rfl))
  f171 := Tryd.func8.trans (congrArg some (by kernel_rfl))
  f243 := Tryd.func12.trans (congrArg some (by kernel_rfl))
  f246 := Tryd.func18.trans (congrArg some (by kernel_rfl))
  f283 := Tryd.func22.trans (congrArg some (by kernel_rfl))
  f284 := Tryd.func23.trans (congrArg some (by kernel_rfl))
  f285 := Tryd.func24.trans (congrArg some (by kernel_rfl))
  f286 := Tryd.func25.trans (congrArg some (by kernel_rfl))
  f317 := Tryd.func28.trans (congrArg some (by kernel_rfl))
  f318 := Tryd.func30.trans (congrArg some (by kernel_rfl))
  f319 := Tryd.func31.trans (congrArg some (by kernel_rfl))
  f320 := Tryd.func32.trans (congrArg some (by kernel_rfl))
  f337 := Tryd.func33.trans (congrArg some (by kernel_rfl))
  f338 := Tryd.func34.trans (congrArg some (by kernel_rfl))
  t0 := Tryd.underlying0
  a0 := Tryd.isAgg0
  z0 := Tryd.sizeOf0
  v0 := Tryd.zeroValue0
  t2 := Tryd.underlying2
  a2 := Tryd.isAgg2
  z2 := Tryd.sizeOf2
  v2 := Tryd.zeroValue2
  t3 := Tryd.underlying3
  a3 := Tryd.isAgg3
  z3 := Tryd.sizeOf3
  v3 := Tryd.zeroValue3
  t4 := Tryd.underlying4
  a4 := Tryd.isAgg4
  z4 := Tryd.sizeOf4
  v4 := Tryd.zeroValue4
  t5 := Tryd.underlying5
  a5 := Tryd.isAgg5
  z5 := Tryd.sizeOf5
  v5 := Tryd.zeroValue5
  t9 := Tryd.underlying9
  a9 := Tryd.isAgg9
  z9 := Tryd.sizeOf9
  v9 := Tryd.zeroValue9
  t20 := Tryd.underlying20
  a20 := Tryd.isAgg20
  z20 := Tryd.sizeOf20
  v20 := Tryd.zeroValue20
  t37 := Tryd.underlying33
  a37 := Tryd.isAgg33
  z37 := Tryd.sizeOf33
  v37 := Tryd.zeroValue33
  t46 := Tryd.underlying43
  a46 := Tryd.isAgg43
  z46 := Tryd.sizeOf43
  v46 := Tryd.zeroValue43
  t51 := Tryd.underlying61
  a51 := Tryd.isAgg61
  z51 := Tryd.sizeOf61
  v51 := Tryd.zeroValue61
  t53 := Tryd.underlying31
  a53 := Tryd.isAgg31
  z53 := Tryd.sizeOf31
  v53 := Tryd.zeroValue31
  t171 := Tryd.underlying48
  a171 := Tryd.isAgg48
  z171 := Tryd.sizeOf48
  v171 := Tryd.zeroValue48
  t173 := Tryd.underlying51
  a173 := Tryd.isAgg51
  z173 := Tryd.sizeOf51
  v173 := Tryd.zeroValue51
  t212 := Tryd.underlying60
  a212 := Tryd.isAgg60
  z212 := Tryd.sizeOf60
  v212 := Tryd.zeroValue60
  t213 := Tryd.underlying62
  a213 := Tryd.isAgg62
  z213 := Tryd.sizeOf62
  t232 := Tryd.underlying66
  a232 := Tryd.isAgg66
  z232 := Tryd.sizeOf66
  v232 := Tryd.zeroValue66
  t233 := Tryd.underlying67
  a233 := Tryd.isAgg67
  z233 := Tryd.sizeOf67
  v233 := Tryd.zeroValue67
  g17 := by kernel_rfl
  g18 := by kernel_rfl
  g19 := by kernel_rfl
  i0 := by kernel_rfl
  i2 := by kernel_rfl
  i3 := by kernel_rfl
  i4 := by kernel_rfl
  i5 := by kernel_rfl
  i9 := by kernel_rfl
  i20 := by kernel_rfl
  i37 := by kernel_rfl
  i46 := by kernel_rfl
  i51 := by kernel_rfl
  i53 := by kernel_rfl
  i171 := by kernel_rfl
  i173 := by kernel_rfl
  i212 := by kernel_rfl
  i232 := by kernel_rfl
  i233 := by kernel_rfl
  m17 := by kernel_rfl
  m18 := by kernel_rfl
  m19 := by kernel_rfl }
open Go.RowKit Go.Sort Go.Lib in
/-- strconv.Itoa: "Itoa is equivalent to FormatInt(int64(i), 10).": i's DECIMAL NUMERAL ('Lib.itoa': a '-' where i is negative, then the digits), FOR EVERY int. The world behind the call: the world before it, new blocks behind the heap (the library's 'var a [24]byte'), draws. (LAID: no walk: one application.) -/
theorem Tryd.strconv_Itoa (n : Int) (h0 : -9223372036854775808 ≤ n) (h1 : n ≤ 9223372036854775807) (w : World) (htab : Lib.TabIs Tryd.prog w "internal/strconv.uint64pow10" .u64 Lib.pow10Tab) :
    Calls Tryd.prog 8 #[.int .i64 n] w fun e w' => e = .returned (.string ⟨(Lib.itoa n).toArray⟩) ∧ ∃ k os, w' = grow (w.drewN k) os := Any.strconv_Itoa Tryd.laysM171 n h0 h1 w htab
def Tryd.laysC172_ren : Go.Shelf.Ren := ⟨fun | 172 => 7 | 244 => 10 | 245 => 11 | 247 => 13 | 279 => 14 | 280 => 15 | 281 => 16 | 282 => 17 | 287 => 19 | 316 => 20 | 171 => 8 | 205 => 21 | 321 => 26 | 322 => 27 | 243 => 12 | 246 => 18 | 283 => 22 | 284 => 23 | 285 => 24 | 286 => 25 | 129 => 29 | 317 => 28 | 318 => 30 | 319 => 31 | 320 => 32 | 337 => 33 | 338 => 34 | n => n, fun | 9 => 9 | 3 => 3 | 75 => 26 | 76 => 27 | 4 => 4 | 5 => 5 | 167 => 34 | 37 => 33 | 0 => 0 | 85 => 35 | 2 => 2 | 168 => 37 | 53 => 31 | 175 => 41 | 46 => 43 | 210 => 46 | 127 => 54 | 145 => 57 | 143 => 55 | 21 => 21 | 171 => 48 | 173 => 51 | 212 => 60 | 51 => 61 | 20 => 20 | 213 => 62 | 232 => 66 | 233 => 67 | 80 => 70 | n => n, fun | 15 => 0 | 16 => 1 | 17 => 2 | 18 => 3 | 19 => 4 | n => n⟩
theorem Tryd.laysC172 : Go.Proofs.LaysC.n172 Tryd.prog Tryd.laysC172_ren := {
  mixed := by kernel_rfl
  f129 := Tryd.func29.trans (congrArg some (by kernel_rfl))
  f171 := Tryd.func8.trans (congrArg some (by kernel_rfl))
  f172 := Tryd.func7.trans (congrArg some (by kernel_rfl))
  f205 := Tryd.func21.trans (congrArg some (by kernel_rfl))
  f243 := Tryd.func12.trans (congrArg some (by kernel_rfl))
  f244 := Tryd.func10.trans (congrArg some (by kernel_rfl))
  f245 := Tryd.func11.trans (congrArg some (by kernel_rfl))
  f246 := Tryd.func18.trans (congrArg some (by kernel_rfl))
  f247 := Tryd.func13.trans (congrArg some (by kernel_rfl))
  f279 := Tryd.func14.trans (congrArg some (by kernel_rfl))
  f280 := Tryd.func15.trans (congrArg some (by kernel_rfl))
  f281 := Tryd.func16.trans (congrArg some (by kernel_rfl))
  f282 := Tryd.func17.trans (congrArg some (by kernel_rfl))
  f283 := Tryd.func22.trans (congrArg some (by kernel_rfl))
  f284 := Tryd.func23.trans (congrArg some (by kernel_rfl))
  f285 := Tryd.func24.trans (congrArg some (by kernel_rfl))
  f286 := Tryd.func25.trans (congrArg some (by kernel_rfl))
  f287 := Tryd.func19.trans (congrArg some (by kernel_rfl))
  f316 := Tryd.func20.trans (congrArg some (by kernel_rfl))
  f317 := Tryd.func28.trans (congrArg some (by kernel_rfl))
  f318 := Tryd.func30.trans (congrArg some (by kernel_rfl))
  f319 := Tryd.func31.trans (congrArg some (by kernel_rfl))
  f320 := Tryd.func32.trans (congrArg some (by kernel_rfl))
  f321 := Tryd.func26.trans (congrArg some (by kernel_rfl))
  f322 := Tryd.func27.trans (congrArg some (by kernel_rfl))
  f337 := Tryd.func33.trans (congrArg some (by kernel_rfl))
  f338 := Tryd.func34.trans (congrArg some (by kernel_rfl))
  t0 := Tryd.underlying0
  a0 := Tryd.isAgg0
  z0 := Tryd.sizeOf0
  v0 := Tryd.zeroValue0
  t2 := Tryd.underlying2
  a2 := Tryd.isAgg2
  z2 := Tryd.sizeOf2
  v2 := Tryd.zeroValue2
  t3 := Tryd.underlying3
  a3 := Tryd.isAgg3
  z3 := Tryd.sizeOf3
  v3 := Tryd.zeroValue3
  t4 := Tryd.underlying4
  a4 := Tryd.isAgg4
  z4 := Tryd.sizeOf4
  v4 := Tryd.zeroValue4
  t5 := Tryd.underlying5
  a5 := Tryd.isAgg5
  z5 := Tryd.sizeOf5
  v5 := Tryd.zeroValue5
  t9 := Tryd.underlying9
  a9 := Tryd.isAgg9
  z9 := Tryd.sizeOf9
  v9 := Tryd.zeroValue9
  t20 := Tryd.underlying20
  a20 := Tryd.isAgg20
  z20 := Tryd.sizeOf20
  v20 := Tryd.zeroValue20
  t21 := Tryd.underlying21
  a21 := Tryd.isAgg21
  z21 := Tryd.sizeOf21
  v21 := Tryd.zeroValue21
  t37 := Tryd.underlying33
  a37 := Tryd.isAgg33
  z37 := Tryd.sizeOf33
  v37 := Tryd.zeroValue33
  t46 := Tryd.underlying43
  a46 := Tryd.isAgg43
  z46 := Tryd.sizeOf43
  v46 := Tryd.zeroValue43
  t51 := Tryd.underlying61
  a51 := Tryd.isAgg61
  z51 := Tryd.sizeOf61
  v51 := Tryd.zeroValue61
  t53 := Tryd.underlying31
  a53 := Tryd.isAgg31
  z53 := Tryd.sizeOf31
  v53 := Tryd.zeroValue31
  t75 := Tryd.underlying26
  a75 := Tryd.isAgg26
  z75 := Tryd.sizeOf26
  v75 := Tryd.zeroValue26
  t76 := Tryd.underlying27
  a76 := Tryd.isAgg27
  z76 := Tryd.sizeOf27
  v76 := Tryd.zeroValue27
  t85 := Tryd.underlying35
  a85 := Tryd.isAgg35
  z85 := Tryd.sizeOf35
  v85 := Tryd.zeroValue35
  t127 := Tryd.underlying54
  a127 := Tryd.isAgg54
  z127 := Tryd.sizeOf54
  v127 := Tryd.zeroValue54
  t143 := Tryd.underlying55
  a143 := Tryd.isAgg55
  z143 := Tryd.sizeOf55
  v143 := Tryd.zeroValue55
  t145 := Tryd.underlying57
  a145 := Tryd.isAgg57
  z145 := Tryd.sizeOf57
  v145 := Tryd.zeroValue57
  t167 := Tryd.underlying34
  a167 := Tryd.isAgg34
  z167 := Tryd.sizeOf34
  v167 := Tryd.zeroValue34
  t168 := Tryd.underlying37
  a168 := Tryd.isAgg37
  z168 := Tryd.sizeOf37
  v168 := Tryd.zeroValue37
  t171 := Tryd.underlying48
  a171 := Tryd.isAgg48
  z171 := Tryd.sizeOf48
  v171 := Tryd.zeroValue48
  t173 := Tryd.underlying51
  a173 := Tryd.isAgg51
  z173 := Tryd.sizeOf51
  v173 := Tryd.zeroValue51
  t175 := Tryd.underlying41
  a175 := Tryd.isAgg41
  z175 := Tryd.sizeOf41
  v175 := Tryd.zeroValue41
  t210 := Tryd.underlying46
  a210 := Tryd.isAgg46
  z210 := Tryd.sizeOf46
  v210 := Tryd.zeroValue46
  t212 := Tryd.underlying60
  a212 := Tryd.isAgg60
  z212 := Tryd.sizeOf60
  v212 := Tryd.zeroValue60
  t213 := Tryd.underlying62
  a213 := Tryd.isAgg62
  z213 := Tryd.sizeOf62
  t232 := Tryd.underlying66
  a232 := Tryd.isAgg66
  z232 := Tryd.sizeOf66
  v232 := Tryd.zeroValue66
  t233 := Tryd.underlying67
  a233 := Tryd.isAgg67
  z233 := Tryd.sizeOf67
  v233 := Tryd.zeroValue67
  g15 := by kernel_rfl
  g16 := by kernel_rfl
  g17 := by kernel_rfl
  g18 := by kernel_rfl
  g19 := by kernel_rfl
  t80 := Tryd.underlying70
  a80 := Tryd.isAgg70
  z80 := Tryd.sizeOf70
  v80 := Tryd.zeroValue70
  i0 := by kernel_rfl
  i2 := by kernel_rfl
  i3 := by kernel_rfl
  i4 := by kernel_rfl
  i5 := by kernel_rfl
  i9 := by kernel_rfl
  i20 := by kernel_rfl
  i21 := by kernel_rfl
  i37 := by kernel_rfl
  i46 := by kernel_rfl
  i51 := by kernel_rfl
  i53 := by kernel_rfl
  i75 := by kernel_rfl
  i76 := by kernel_rfl
  i80 := by kernel_rfl
  i85 := by kernel_rfl
  i127 := by kernel_rfl
  i143 := by kernel_rfl
  i145 := by kernel_rfl
  i167 := by kernel_rfl
  i168 := by kernel_rfl
  i171 := by kernel_rfl
  i173 := by kernel_rfl
  i175 := by kernel_rfl
  i210 := by kernel_rfl
  i212 := by kernel_rfl
  i232 := by kernel_rfl
  i233 := by kernel_rfl
  m15 := by kernel_rfl
  m16 := by kernel_rfl
  m17 := by kernel_rfl
  m18 := by kernel_rfl
  m19 := by kernel_rfl
  c0 := by kernel_rfl
  c2 := by kernel_rfl
  c3 := by kernel_rfl
  c4 := by kernel_rfl
  c5 := by kernel_rfl
  c9 := by kernel_rfl
  c20 := by kernel_rfl
  c21 := by kernel_rfl
  c37 := by kernel_rfl
  c46 := by kernel_rfl
  c51 := by kernel_rfl
  c53 := by kernel_rfl
  c75 := by kernel_rfl
  c76 := by kernel_rfl
  c80 := by kernel_rfl
  c85 := by kernel_rfl
  c127 := by kernel_rfl
  c143 := by kernel_rfl
  c145 := by kernel_rfl
  c167 := by kernel_rfl
  c168 := by kernel_rfl
  c171 := by kernel_rfl
  c173 := by kernel_rfl
  c175 := by kernel_rfl
  c210 := by kernel_rfl
  c212 := by kernel_rfl
  c213 := by kernel_rfl
  c232 := by kernel_rfl
  c233 := by kernel_rfl }
open Go.RowKit in
/-- strconv.Atoi, AT EVERY STRING THAT SPELLS AN int ('Lib.atoiAll .. = .ok v'; of whatever length: leading zeros count): v, AND NO ERROR. The world: as it was, or with the one new row that '[]byte(..)' lays. (LAID: no walk: one application.) -/
theorem Tryd.strconv_Atoi_ok (s : ByteArray) (hmax : s.size ≤ 9223372036854775806) (v : Int) (h : Lib.atoiAll s.data.toList = .ok v) (w : World) :
    Calls Tryd.prog 7 #[.string s] w fun e w' => e = .returned (.tuple #[.int .i64 v, .nilIface]) ∧ (w' = w ∨ ∃ t, w' = Lib.bytesWorld w 5 t) := Any.strconv_Atoi_ok Tryd.laysC172 s hmax v h w
open Go.RowKit in
theorem Tryd.strconv_Atoi_syntax_var (s : ByteArray) (hlim : s.size ≤ 281474976710656) (h1 : ∀ v, Lib.atoiAll s.data.toList ≠ .ok v) (h2 : Lib.atoiAll s.data.toList ≠ .range) (tp : TypeId) (p : Value) (w : World) (hvar : w.var? Tryd.prog "strconv.ErrSyntax" = some #[.iface tp p]) :
    Calls Tryd.prog 7 #[.string s] w fun e w' => ∃ N, e = .returned (.tuple #[.int .i64 0, .iface 37 (.pointer (some ⟨N, 0, none⟩))]) ∧ w.heap.size ≤ N ∧ w'.heap[N]? = some (.cells #[.string ⟨#[65, 116, 111, 105]⟩, .string s, .iface tp p] 46 (0, 0)) ∧ Below w.heap.size w w' := by
  cases h : Lib.atoiAll s.data.toList
  case ok v => exact absurd h (h1 v)
  case range => exact absurd h h2
  · exact Any.strconv_Atoi_syntax_var Tryd.laysC172 s hlim h tp p w hvar
open Go.RowKit in
theorem Tryd.strconv_Atoi_range_var (s : ByteArray) (hlim : s.size ≤ 281474976710656) (h : Lib.atoiAll s.data.toList = .range) (tp : TypeId) (p : Value) (w : World) (hvar : w.var? Tryd.prog "strconv.ErrRange" = some #[.iface tp p]) :
    Calls Tryd.prog 7 #[.string s] w fun e w' => ∃ N, e = .returned (.tuple #[.int .i64 (Lib.atoiSat s.data.toList), .iface 37 (.pointer (some ⟨N, 0, none⟩))]) ∧ w.heap.size ≤ N ∧ w'.heap[N]? = some (.cells #[.string ⟨#[65, 116, 111, 105]⟩, .string s, .iface tp p] 46 (0, 0)) ∧ Below w.heap.size w w' := Any.strconv_Atoi_range_var Tryd.laysC172 s hlim h tp p w hvar
end Go.Proofs

/- RegOf: what it answers (plain). Conditions: none. -/
set_option linter.unusedVariables false
set_option linter.unusedSimpArgs false
namespace Go.Proofs.YtfijeehojolhlaaDoor
open Go
def charI (c : Int) (n : Int) : Int := if c = 114 ∧ n < 32 then n else if c = 97 ∧ n < 8 then 4 + n else if c = 116 ∧ n < 8 then 12 + n else if c = 115 ∧ n < 8 then 20 + n else -1
def tailI (s : ByteArray) : Int := match Lib.atoiAll (s.extract 1 s.size).data.toList with
  | .ok n => if (Lib.itoa n == (s.extract 1 s.size).toList) = false ∨ n < 0 then -1 else charI ((s.toList.headD 0).toNat : Int) n
  | _ => -1
def regI (s : ByteArray) : Int := if s.toList == [122, 101, 114, 111] then 0 else if s.toList == [114, 97] then 1 else if s.toList == [115, 112] then 2 else if (s.size : Int) < 2 then -1 else tailI s
theorem regI_tail {s : ByteArray} (h1 : ¬ (s.toList == [122, 101, 114, 111]) = true) (h2 : ¬ (s.toList == [114, 97]) = true) (h3 : ¬ (s.toList == [115, 112]) = true) (h4 : ¬ ((s.size : Int) < 2)) : regI s = tailI s := by
  unfold regI
  rw [if_neg h1, if_neg h2, if_neg h3, if_neg h4]
end Go.Proofs.YtfijeehojolhlaaDoor

/- The program's RegOf: its walk. Conditions: none. -/
set_option maxRecDepth 100000
set_option linter.unusedVariables false
set_option linter.unusedSimpArgs false
namespace Go.Proofs.YtfijeehojolhlaaDoor
open Go Go.Shelf Go.RowKit
set_option maxHeartbeats 8000000 in
theorem impl_walk (s : ByteArray) (hs : s.size ≤ 1048576) (w : World) {tp tp' : TypeId} {p p' : Value} (hS : w.var? Tryd.prog "strconv.ErrSyntax" = some #[.iface tp p]) (hR : w.var? Tryd.prog "strconv.ErrRange" = some #[.iface tp' p']) (hT : Lib.TabBelow Tryd.prog w.heap.size w "internal/strconv.uint64pow10" .u64 Lib.pow10Tab) : Calls Tryd.prog 5 #[.string s] w fun e w' => e = .returned (.int .i64 (regI s)) ∧ Below w.heap.size w w' := by
  go_enter Tryd.func5, Tryd.ntmps5
  go_wp2_with (go_at_call 7; refine Hid.out ?_)
  case _ => go_ret; exact ⟨by simp [regI, *], Below.refl _ _⟩
  case _ => go_ret; exact ⟨by simp [regI, *], Below.refl _ _⟩
  case _ => go_ret; exact ⟨by simp [regI, *], Below.refl _ _⟩
  case _ => go_ret; exact ⟨by simp [regI, *], Below.refl _ _⟩
  have hreg : regI s = tailI s := regI_tail (by simp [*]) (by simp [*]) (by simp [*]) (by omega)
  have hlim : (s.extract 1 s.size).size ≤ 1048576 := by rw [ByteArray.size_extract]; omega
  refine Lib.hid ?_
  cases h : Lib.atoiAll (s.extract 1 s.size).data.toList
  case range =>
    have ht : tailI s = -1 := by unfold tailI; rw [h]
    refine (Tryd.strconv_Atoi_range_var _ (by omega) h tp' p' _ hR).mono ?_
    rintro e W1 ⟨N, rfl, -, -, hb⟩
    go_wp2
    go_quiet (fail)
    go_wp2
    go_ret
    exact ⟨by rw [hreg, ht]; rfl, hb.trans ⟨rfl, rfl, rfl, Nat.le_refl _, fun _ _ => rfl⟩⟩
  case ok n =>
    refine (Tryd.strconv_Atoi_ok _ (by omega) n h _).mono ?_
    rintro e W1 ⟨rfl, hw⟩
    have hb1 : Below w.heap.size w W1 := by
      rcases hw with rfl | ⟨t, rfl⟩
      · exact Below.refl _ _
      · exact Lib.bytesWorld_below _ _ _
    obtain ⟨n0, n1⟩ := Lib.atoiAll_bounds h
    clear hw
    go_wp2
    cases hq : (Lib.itoa n == (s.extract 1 s.size).toList) with
    | false =>
      have ht : tailI s = -1 := by unfold tailI; rw [h]; exact if_pos (.inl hq)
      have hne : Lib.itoa n ≠ (s.extract 1 s.size).toList := fun e => by rw [e] at hq; simp at hq
      have hq2 : (@BEq.beq (List UInt8) instBEqOfDecidableEq (Lib.itoa n) (s.extract 1 s.size).toList) = false := by
        simp [hne]
      first | go_region_with (go_at_call 8; refine (Tryd.strconv_Itoa n (by omega) (by omega) _ (hT _ ?_)).mono ?_; exact hb1.trans ⟨rfl, rfl, rfl, Nat.le_refl _, fun _ _ => rfl⟩; rintro e W2 ⟨rfl, k, os, rfl⟩) | fail
      all_goals (go_wp2; go_ret; exact ⟨by rw [hreg, ht]; rfl, hb1.trans (Lib.below_grow _ W1 hb1.size _ _)⟩)
    | true =>
      have hpos : 0 < s.size := by omega
      have htrue : tailI s = if n < 0 then -1 else charI (s[0].toNat : Int) n := by
        have hd : s.toList.headD 0 = s[0] := by
          rw [ByteArray.toList_eq]
          have hl : 0 < s.data.toList.length := by rw [Array.length_toList]; exact hpos
          rw [List.headD_eq_head?_getD, List.head?_eq_getElem?, List.getElem?_eq_getElem hl]
          rfl
        unfold tailI
        rw [h]
        show (if (Lib.itoa n == (s.extract 1 s.size).toList) = false ∨ n < 0 then (-1 : Int) else charI ((s.toList.headD 0).toNat : Int) n) = _
        rw [hd, hq]
        simp
      have hu : (⟨(Lib.itoa n).toArray⟩ : ByteArray) = s.extract 1 s.size := by
        have h1 := eq_of_beq hq
        apply ByteArray.ext
        apply Array.ext'
        rw [List.toList_toArray, h1, ← ByteArray.toList_eq]
      have hI := Tryd.strconv_Itoa n (by omega) (by omega)
      rw [hu] at hI
      have hI2 := Lib.hid hI
      clear hI hq hu
      first | go_region_with (go_at_call 8; refine (hI2 _ (hT _ ?_)).mono ?_; exact hb1.trans ⟨rfl, rfl, rfl, Nat.le_refl _, fun _ _ => rfl⟩; rintro e W2 ⟨rfl, k, os, rfl⟩) | fail
      all_goals go_wp2
      all_goals (go_ret; exact ⟨congrArg (fun x => Ending.returned (Value.int .i64 x)) (by first | rfl | ((try rw [hreg]); (try rw [htrue]); (try unfold charI); (repeat' split) <;> omega)), hb1.trans (Lib.below_grow _ W1 hb1.size _ _)⟩)
  · skip
    have ht : tailI s = -1 := by unfold tailI; rw [h]
    refine (Tryd.strconv_Atoi_syntax_var _ (by omega) (fun v hv => by rw [h] at hv; cases hv) (fun hv => by rw [h] at hv; cases hv) tp p _ hS).mono ?_
    rintro e W1 ⟨N, rfl, -, -, hb⟩
    go_wp2
    go_quiet (fail)
    go_wp2
    go_ret
    exact ⟨by rw [hreg, ht]; rfl, hb.trans ⟨rfl, rfl, rfl, Nat.le_refl _, fun _ _ => rfl⟩⟩
end Go.Proofs.YtfijeehojolhlaaDoor

/- RegOf: the reference's walk, and that both answer alike. Conditions: none. -/
set_option linter.unusedVariables false
set_option linter.unusedSimpArgs false
set_option maxRecDepth 100000
namespace Go.Proofs.YtfijeehojolhlaaDoor
open Go Go.Den
/-! ## Numerals -/
def dE (i : Nat) : List UInt8 := if i < 10 then [UInt8.ofNat (48 + i)] else [UInt8.ofNat (48 + i / 10), UInt8.ofNat (48 + i % 10)]
theorem dE_eq {i : Nat} (h : i < 100) : Lib.decDigits i = dE i := by
  unfold dE
  by_cases h1 : i < 10
  · rw [Lib.decDigits, dif_pos h1, if_pos h1]
  · rw [Lib.decDigits, dif_neg h1, Lib.decDigits, dif_pos (by omega), if_neg h1]; rfl
theorem itoa_eq {i : Nat} (h : i < 100) : Lib.itoa (i : Int) = dE i := by
  unfold Lib.itoa
  rw [if_neg (by omega), Int.toNat_natCast, dE_eq h]
theorem atoi_fin : ∀ i : Fin 32, Lib.atoiAll (dE i.val) = .ok (i.val : Int) := by decide
theorem atoi_eq {i : Nat} (h : i < 32) : Lib.atoiAll (dE i) = .ok (i : Int) := atoi_fin ⟨i, h⟩
def cat (c : UInt8) (i : Nat) : ByteArray := ⟨(c :: dE i).toArray⟩
theorem cat_list (c : UInt8) (i : Nat) : (cat c i).toList = c :: dE i := by rw [ByteArray.toList_eq]; rfl
theorem ext_list {s : ByteArray} {c : UInt8} {l : List UInt8} (h : s.toList = c :: l) : (s.extract 1 s.size).toList = l ∧ (s.extract 1 s.size).data.toList = l ∧ s.size = l.length + 1 := by
  rw [ByteArray.toList_eq] at h
  have hs : s.size = l.length + 1 := by
    have h1 : s.data.toList.length = s.size := Array.length_toList
    rw [h] at h1
    exact h1.symm
  have h2 : (s.extract 1 s.size).data.toList = l := by
    rw [ByteArray.data_extract, Array.toList_extract]
    simp [List.extract, h, hs]
  exact ⟨by rw [ByteArray.toList_eq]; exact h2, h2, hs⟩
theorem ne_names : ∀ i : Fin 32, (dE i.val ≠ [97]) ∧ dE i.val ≠ [101, 114, 111] ∧ dE i.val ≠ [112] ∧ 1 ≤ (dE i.val).length := by decide
theorem regI_cat {c : UInt8} {i : Nat} (h : i < 32) : regI (cat c i) = charI (c.toNat : Int) (i : Int) := by
  obtain ⟨n1, n2, n3, n4⟩ := ne_names ⟨i, h⟩
  have n1 : dE i ≠ [97] := n1
  have n2 : dE i ≠ [101, 114, 111] := n2
  have n3 : dE i ≠ [112] := n3
  have n4 : 1 ≤ (dE i).length := n4
  obtain ⟨e1, e2, e3⟩ := ext_list (cat_list c i)
  have ht : regI (cat c i) = tailI (cat c i) := by
    refine regI_tail ?_ ?_ ?_ (by omega)
    · rw [cat_list]; intro hh; have := eq_of_beq hh; simp [n2] at this
    · rw [cat_list]; intro hh; have := eq_of_beq hh; simp [n1] at this
    · rw [cat_list]; intro hh; have := eq_of_beq hh; simp [n3] at this
  rw [ht]
  unfold tailI
  rw [e2, atoi_eq h]
  show (if (Lib.itoa (i : Int) == ((cat c i).extract 1 (cat c i).size).toList) = false ∨ (i : Int) < 0 then (-1 : Int) else charI (((cat c i).toList.headD 0).toNat : Int) (i : Int)) = _
  rw [e1, itoa_eq (by omega), cat_list, if_neg (by simp)]
  rfl
theorem cat_of {s : ByteArray} (h2 : 2 ≤ s.size) {n : Int} (h0 : 0 ≤ n) (h1 : n < 32) (hq : (Lib.itoa n == (s.extract 1 s.size).toList) = true) : s = cat (s.toList.headD 0) n.toNat := by
  obtain ⟨k, rfl⟩ := Int.eq_ofNat_of_zero_le h0
  have hq := eq_of_beq hq
  rw [itoa_eq (by omega)] at hq
  rw [Int.toNat_natCast]
  have hl : 0 < s.toList.length := by rw [ByteArray.toList_eq, Array.length_toList]; show 0 < s.size; omega
  cases hc : s.toList with
  | nil => rw [hc] at hl; simp at hl
  | cons c l =>
    obtain ⟨e1, _, _⟩ := ext_list hc
    rw [e1] at hq
    apply ByteArray.ext
    apply Array.ext'
    rw [← ByteArray.toList_eq, ← ByteArray.toList_eq, cat_list, hc, hq]
    rfl
theorem charI_ne {c n : Int} (h0 : 0 ≤ n) (h : charI c n ≠ -1) : (c = 114 ∧ n < 32) ∨ ((c = 97 ∨ c = 116 ∨ c = 115) ∧ n < 8) := by
  unfold charI at h
  split at h
  · exact .inl (by assumption)
  split at h
  · rename_i hh; exact .inr ⟨.inl hh.1, hh.2⟩
  split at h
  · rename_i hh; exact .inr ⟨.inr (.inl hh.1), hh.2⟩
  split at h
  · rename_i hh; exact .inr ⟨.inr (.inr hh.1), hh.2⟩
  · exact absurd rfl h
structure NoReg (s : ByteArray) : Prop where
  r : ∀ i, i < 32 → s ≠ cat 114 i
  ats : ∀ i, i < 8 → s ≠ cat 97 i ∧ s ≠ cat 116 i ∧ s ≠ cat 115 i
theorem tail_none {s : ByteArray} (h2 : 2 ≤ s.size) (hn : NoReg s) : tailI s = -1 := by
  unfold tailI
  split
  · rename_i n hn2
    by_cases hq : (Lib.itoa n == (s.extract 1 s.size).toList) = false ∨ n < 0
    · rw [if_pos hq]
    rw [if_neg hq]
    rw [not_or] at hq
    have hq1 : (Lib.itoa n == (s.extract 1 s.size).toList) = true := by simpa using hq.1
    apply Classical.byContradiction
    intro hne
    have hu : ∀ x : UInt8, ∀ k : UInt8, ((x.toNat : Int) = (k.toNat : Int)) → x = k := fun x k e => UInt8.toNat_inj.1 (by omega)
    rcases charI_ne (by omega) hne with ⟨hc, hlt⟩ | ⟨hc, hlt⟩
    · have := cat_of h2 (by omega) hlt hq1
      rw [hu _ 114 hc] at this
      exact hn.r n.toNat (by omega) this
    · have h3 := cat_of h2 (by omega) (by omega) hq1
      obtain ⟨a1, a2, a3⟩ := hn.ats n.toNat (by omega)
      rcases hc with hc | hc | hc
      · rw [hu _ 97 hc] at h3; exact a1 h3
      · rw [hu _ 116 hc] at h3; exact a2 h3
      · rw [hu _ 115 hc] at h3; exact a3 h3
  · rfl
/-! ## The reference -/
theorem one_fin : ∀ k : Fin 10, strOfNums [48 + ((k.val : Nat) : Int)] ++ (⟨#[]⟩ : ByteArray) = ⟨(dE k.val).toArray⟩ := by decide
theorem two_fin : ∀ k : Fin 32, 10 ≤ k.val → strOfNums [48 + ((k.val / 10 : Nat) : Int)] ++ (strOfNums [48 + ((k.val % 10 : Nat) : Int)] ++ (⟨#[]⟩ : ByteArray)) = ⟨(dE k.val).toArray⟩ := by decide
theorem row_one {w : World} {n : Int} : RowAt (w.alloc (.cells #[.int .u8 n] 5)) (some ⟨w.heap.size, 0, none⟩) 1 ([n].map (Value.int .u8)) := row_of_blk (blk_alloc w [.int .u8 n] 5) rfl
theorem wu8r {n : Int} (h0 : 0 ≤ n) (h1 : n ≤ 255) : IntKind.u8.wrap n = n := by rw [IntKind.wrap_u8]; omega
theorem c9 {n : Nat} (hn : n < 32) {w : World} : CallW Tryd.prog 9 #[.int .u64 (n : Int)] w (fun v w' => v = .string ⟨(dE n).toArray⟩ ∧ Ext w w') := by
  refine go9 ?_
  unfold W9
  have hm : ∀ k : Nat, Int.tmod (k : Int) 10 = ((k % 10 : Nat) : Int) := fun k => rfl
  have hd : ∀ k : Nat, Int.tdiv (k : Int) 10 = ((k / 10 : Nat) : Int) := fun k => rfl
  refine LoopW.m2 (fun (i : Int) (t : ByteArray) w' => Ext w w' ∧ ((i = (n : Int) ∧ t = ⟨#[]⟩) ∨ (10 ≤ n ∧ i = ((n / 10 : Nat) : Int) ∧ t = strOfNums [48 + ((n % 10 : Nat) : Int)] ++ (⟨#[]⟩ : ByteArray)))) (fun (i : Int) _ _ => i.toNat) ⟨Only.refl _ _, .inl ⟨rfl, rfl⟩⟩ ?_
  rintro (i : Int) (t : ByteArray) w4 ⟨e, hi⟩ J hJ
  have key : ∀ k : Nat, k < 32 → IntKind.u8.wrap (IntKind.u64.wrap (48 + Int.tmod (k : Int) 10)) = 48 + ((k % 10 : Nat) : Int) := fun k hk => by
    rw [hm, wu64 (by omega) (by omega), wu8r (by omega) (by omega)]
  rcases hi with ⟨rfl, rfl⟩ | ⟨h10, rfl, rfl⟩
  · rw [key n hn, hd, wu64 (by omega) (by omega)]
    refine ⟨by decide, LetW_iff.2 ⟨[48 + ((n % 10 : Nat) : Int)], row_one, by show ((1 + 0 : Nat) : Int) ≤ _; decide, by decide, ?_⟩⟩
    refine BIf.eq (fun h0 => ?_) (fun h0 => ?_)
    · have h1 := one_fin ⟨n, by omega⟩
      have h2 : n % 10 = n := by omega
      refine ⟨?_, Only.trans e (ext_alloc _ _)⟩
      rw [h2]
      exact congrArg Value.string h1
    · exact hJ _ _ _ ⟨Only.trans e (ext_alloc _ _), .inr ⟨by omega, rfl, rfl⟩⟩ (by omega)
  · rw [key (n / 10) (by omega), hd, wu64 (by omega) (by omega)]
    refine ⟨by decide, LetW_iff.2 ⟨[48 + ((n / 10 % 10 : Nat) : Int)], row_one, by show ((1 + (1 + 0) : Nat) : Int) ≤ _; decide, by decide, ?_⟩⟩
    refine BIf.eq (fun h0 => ?_) (fun h0 => absurd (by omega) h0)
    have h1 := two_fin ⟨n, hn⟩ h10
    have h2 : n / 10 % 10 = n / 10 := by omega
    refine ⟨?_, Only.trans e (ext_alloc _ _)⟩
    rw [h2]
    exact congrArg Value.string h1
theorem c6 {n : Nat} (hn : n < 32) {w : World} : CallW Tryd.prog 6 #[.int .i64 (n : Int)] w (fun v w' => v = .string ⟨(dE n).toArray⟩ ∧ Ext w w') := by
  refine go6 ?_
  unfold W6
  refine BIf.f (decide_eq_false (by omega)) ?_
  rw [wu64 (n := (n : Int)) (by omega) (by omega)]
  refine (c9 hn).mono ?_
  rintro _ w5 ⟨rfl, e⟩
  exact ⟨_, rfl, rfl, e⟩
theorem app_r : ∀ i : Fin 32, (⟨#[114]⟩ : ByteArray) ++ (⟨(dE i.val).toArray⟩ : ByteArray) = cat 114 i.val := by decide
theorem app_a : ∀ i : Fin 8, (⟨#[97]⟩ : ByteArray) ++ (⟨(dE i.val).toArray⟩ : ByteArray) = cat 97 i.val ∧ (⟨#[116]⟩ : ByteArray) ++ (⟨(dE i.val).toArray⟩ : ByteArray) = cat 116 i.val ∧ (⟨#[115]⟩ : ByteArray) ++ (⟨(dE i.val).toArray⟩ : ByteArray) = cat 115 i.val := by decide
theorem siz : ∀ i : Fin 32, (((⟨#[114]⟩ : ByteArray).size + (⟨(dE i.val).toArray⟩ : ByteArray).size : Nat) : Int) ≤ IntKind.i64.max := by decide
theorem char_r {i : Nat} (h : i < 32) : charI (((114 : UInt8).toNat : Nat) : Int) (i : Int) = (i : Int) := by unfold charI; rw [if_pos ⟨by decide, by omega⟩]
theorem char_a {i : Nat} (h : i < 8) : charI (((97 : UInt8).toNat : Nat) : Int) (i : Int) = 4 + (i : Int) ∧ charI (((116 : UInt8).toNat : Nat) : Int) (i : Int) = 12 + (i : Int) ∧ charI (((115 : UInt8).toNat : Nat) : Int) (i : Int) = 20 + (i : Int) := by
  have h1 : (((97 : UInt8).toNat : Nat) : Int) = 97 := rfl
  have h2 : (((116 : UInt8).toNat : Nat) : Int) = 116 := rfl
  have h3 : (((115 : UInt8).toNat : Nat) : Int) = 115 := rfl
  unfold charI
  rw [h1, h2, h3]
  refine ⟨?_, ?_, ?_⟩ <;> (repeat' split) <;> omega
theorem list_names {s : ByteArray} {l : List UInt8} : (s.toList == l) = true ↔ s = ⟨l.toArray⟩ := by
  constructor
  · intro h
    have h := eq_of_beq h
    rw [ByteArray.toList_eq] at h
    apply ByteArray.ext
    apply Array.ext'
    exact h
  · rintro rfl
    rw [ByteArray.toList_eq]
    exact beq_self_eq_true _
theorem specReg (s : ByteArray) {w : World} : CallW Tryd.prog 4 #[.string s] w (fun v w' => v = .int .i64 (regI s) ∧ Ext w w') := by
  refine go4 ?_
  unfold W4
  refine LoopW.m1 (fun (i : Int) w' => ∃ k : Nat, i = k ∧ k ≤ 32 ∧ (∀ j, j < k → s ≠ cat 114 j) ∧ Ext w w') (fun (i : Int) _ => (32 - i).toNat) ⟨0, rfl, by omega, fun j hj => by omega, Only.refl _ _⟩ ?_
  rintro (i : Int) w3 ⟨k, rfl, hk, hno, e⟩ J hJ
  refine BIf.dec (fun hlt => ?_) (fun hge => ?_)
  · refine (c6 (n := k) (by omega)).mono ?_
    rintro _ w5 ⟨rfl, e5⟩
    have e := Only.trans e e5
    refine ⟨_, rfl, siz ⟨k, by omega⟩, ?_⟩
    rw [app_r ⟨k, by omega⟩, w64 (n := (k : Int) + 1) (by omega) (by omega)]
    refine BIf.of (fun h => ?_) (fun h => ?_)
    · have hs := strEq_iff.1 h
      subst hs
      refine ⟨?_, e⟩
      rw [regI_cat (c := 114) (i := k) (by omega), char_r (by omega)]
    · refine hJ _ _ ⟨k + 1, by omega, by omega, fun j hj hc => ?_, e⟩ (by omega)
      by_cases hjk : j = k
      · subst hjk
        rw [strEq_iff.2 hc] at h; cases h
      · exact hno j (by omega) hc
  have hr : ∀ j, j < 32 → s ≠ cat 114 j := fun j hj => hno j (by omega)
  refine LoopW.m1 (fun (i : Int) w' => ∃ k : Nat, i = k ∧ k ≤ 8 ∧ (∀ j, j < k → s ≠ cat 97 j ∧ s ≠ cat 116 j ∧ s ≠ cat 115 j) ∧ Ext w w') (fun (i : Int) _ => (8 - i).toNat) ⟨0, rfl, by omega, fun j hj => by omega, e⟩ ?_
  rintro (i : Int) w9 ⟨k2, rfl, hk2, hno2, e⟩ J2 hJ2
  refine BIf.dec (fun hlt => ?_) (fun hge2 => ?_)
  · refine (c6 (n := k2) (by omega)).mono ?_
    rintro _ w11 ⟨rfl, e11⟩
    have e := Only.trans e e11
    obtain ⟨a1, a2, a3⟩ := app_a ⟨k2, by omega⟩
    obtain ⟨b1, b2, b3⟩ := char_a (i := k2) (by omega)
    refine ⟨_, rfl, siz ⟨k2, by omega⟩, ?_⟩
    rw [a1, a2, a3, w64 (n := (k2 : Int) + 1) (by omega) (by omega), w64 (n := 4 + (k2 : Int)) (by omega) (by omega), w64 (n := 12 + (k2 : Int)) (by omega) (by omega), w64 (n := 20 + (k2 : Int)) (by omega) (by omega)]
    refine BIf.of (fun h => ?_) (fun h => ⟨siz ⟨k2, by omega⟩, BIf.of (fun h2 => ?_) (fun h2 => ⟨siz ⟨k2, by omega⟩, BIf.of (fun h3 => ?_) (fun h3 => ?_)⟩)⟩)
    · have hs := strEq_iff.1 h
      subst hs
      exact ⟨by rw [regI_cat (c := 97) (i := k2) (by omega), b1], e⟩
    · have hs := strEq_iff.1 h2
      subst hs
      exact ⟨by rw [regI_cat (c := 116) (i := k2) (by omega), b2], e⟩
    · have hs := strEq_iff.1 h3
      subst hs
      exact ⟨by rw [regI_cat (c := 115) (i := k2) (by omega), b3], e⟩
    · refine hJ2 _ _ ⟨k2 + 1, by omega, by omega, fun j hj => ?_, e⟩ (by omega)
      by_cases hjk : j = k2
      · subst hjk
        exact ⟨fun hc => (by rw [strEq_iff.2 hc] at h; cases h), fun hc => (by rw [strEq_iff.2 hc] at h2; cases h2), fun hc => (by rw [strEq_iff.2 hc] at h3; cases h3)⟩
      · exact hno2 j (by omega)
  have hn : NoReg s := ⟨hr, fun j hj => hno2 j (by omega)⟩
  have hf : ∀ {l : List UInt8}, strEq s ⟨l.toArray⟩ = false → (s.toList == l) = false := fun {l} h => by
    cases hb : (s.toList == l) with
    | false => rfl
    | true => rw [strEq_iff.2 (list_names.1 hb)] at h; cases h
  refine BIf.of (fun h => ⟨?_, e⟩) (fun h => BIf.of (fun h2 => ⟨?_, e⟩) (fun h2 => BIf.of (fun h3 => ⟨?_, e⟩) (fun h3 => ⟨?_, e⟩)))
  · have h1 := list_names.2 (strEq_iff.1 h)
    unfold regI; rw [if_pos h1]
  · have h1 := list_names.2 (strEq_iff.1 h2)
    unfold regI; rw [if_neg (by rw [hf (l := [122, 101, 114, 111]) h]; decide), if_pos h1]
  · have h1 := list_names.2 (strEq_iff.1 h3)
    unfold regI; rw [if_neg (by rw [hf (l := [122, 101, 114, 111]) h]; decide), if_neg (by rw [hf (l := [114, 97]) h2]; decide), if_pos h1]
  · unfold regI
    rw [if_neg (by rw [hf (l := [122, 101, 114, 111]) h]; decide), if_neg (by rw [hf (l := [114, 97]) h2]; decide), if_neg (by rw [hf (l := [115, 112]) h3]; decide)]
    split
    · rfl
    · rw [tail_none (by omega) hn]
end Go.Proofs.YtfijeehojolhlaaDoor

/- RegOf: the walk of the law. Conditions: none. -/
set_option linter.unusedVariables false
set_option linter.unusedSimpArgs false
set_option maxRecDepth 100000
namespace Go.Proofs.YtfijeehojolhlaaDoor
open Go Go.Den Go.RowKit
/-! ## The law -/
theorem ok5 : OkFn Tryd.prog 5 := ⟨Tryd.f5, Tryd.func5, by kernel_rfl, by kernel_rfl⟩


theorem goc3 {a0 : ByteArray} {w : World} {K : Value → World → Prop} (h : W3 a0 w K) : Calls Tryd.prog 3 #[.string a0] w (fun e w' => ∃ v, e = .returned v ∧ K v w') :=
  denFn_sound tt_ok mix Tryd.func3 (by kernel_rfl) (eq3 a0 w K ▸ h)
theorem walk3 {s : ByteArray} {w : World} {tp tp' : TypeId} {p p' : Value} (hS : w.var? Tryd.prog "strconv.ErrSyntax" = some #[.iface tp p]) (hR : w.var? Tryd.prog "strconv.ErrRange" = some #[.iface tp' p']) (hT : Lib.TabBelow Tryd.prog w.heap.size w "internal/strconv.uint64pow10" .u64 Lib.pow10Tab) :
    Calls Tryd.prog 3 #[.string s] w (fun e w' => ∃ v, e = .returned v ∧ (v = .bool true ∧ Below w.heap.size w w')) := by
  refine goc3 ?_
  unfold W3
  refine BIf.dec (fun _ => ⟨rfl, Below.refl _ _⟩) (fun hsz => ?_)
  refine (specReg s).mono ?_
  rintro _ w2 ⟨rfl, e⟩
  have hb : Below w.heap.size w w2 := e.below
  refine ⟨_, rfl, ?_⟩
  have hS2 := Go.Joins.var_stays (P := Tryd.prog) (g := 0) (by kernel_rfl) hS hb (Nat.le_refl _)
  have hR2 := Go.Joins.var_stays (P := Tryd.prog) (g := 1) (by kernel_rfl) hR hb (Nat.le_refl _)
  have hi := impl_walk s (by omega) w2 hS2 hR2 (fun w' hb' => hT w' (hb.trans (hb'.mono hb.size)))
  have hc : CallW Tryd.prog 5 #[.string s] w2 (fun v w' => v = .int .i64 (regI s) ∧ Below w2.heap.size w2 w') := .inl ⟨ok5, hi.mono (fun e w' ⟨h1, h2⟩ => ⟨_, h1, rfl, h2⟩)⟩
  refine hc.mono ?_
  rintro _ w5 ⟨rfl, hb5⟩
  refine ⟨_, rfl, BIf.f (by simp) ?_⟩
  exact ⟨rfl, hb.trans (hb5.mono hb.size)⟩
end Go.Proofs.YtfijeehojolhlaaDoor

/- RegOf: the row and the card of the law. Conditions: none. -/
set_option linter.unusedVariables false
set_option linter.unusedSimpArgs false
namespace Go.Proofs.YtfijeehojolhlaaDoor
open Go Go.ChangeShapes Go.WideShapes Go.ChangeAt Go.RowKit
open Go.ChangeMaps (open_string shut_string)
theorem own : ownKnob Tryd.prog.godebug = none := by kernel_rfl
abbrev L5 : List (String × DataW Unit) := Rows.fnExactRegOfRow.laid
theorem gES : Tryd.prog.globalNamed "strconv.ErrSyntax" = some 0 := by kernel_rfl
theorem tES : (Tryd.prog.globals[0]?).map (·.type) = some 26 := by kernel_rfl
theorem gER : Tryd.prog.globalNamed "strconv.ErrRange" = some 1 := by kernel_rfl
theorem tER : (Tryd.prog.globals[1]?).map (·.type) = some 26 := by kernel_rfl
theorem gTab : Tryd.prog.globalNamed "internal/strconv.uint64pow10" = some 2 := by kernel_rfl
theorem tTab : (Tryd.prog.globals[2]?).map (·.type) = some 60 := by kernel_rfl
theorem cells57 : Tryd.prog.cellsOf 57 = 1 := by kernel_rfl
theorem cells9 : Tryd.prog.cellsOf 9 = 1 := by kernel_rfl
theorem cells31 : Tryd.prog.cellsOf 31 = 1 := by kernel_rfl
theorem cells60 : Tryd.prog.cellsOf 60 = 20 := by kernel_rfl
theorem star : "*" ++ "errors.errorString" = "*errors.errorString" := by decide
theorem row55 (u : TypeId) (h : Tryd.prog.typeName? 3 u = some "*errors.errorString") : u = 55 :=
  typeName_ptr_named (nm := "errors.errorString") (by rw [star]; kernel_rfl) (by kernel_rfl) (by decide) u (by rw [star]; exact h)
theorem door_met (os : Os) (args : Array Value) : laidMetH Tryd.prog L5 ((World.doorLaid Tryd.prog 62 os).forCall (fun _ _ => 0) ⟨#[], args, []⟩).memory :=
  laidMetH_of_parts3 (fuel := 8) (laidMet_of_run' 8 (by kernel_rfl) (by kernel_rfl)) (by kernel_rfl) (by kernel_rfl)
theorem of_laid {W : World} (h : laidMetH Tryd.prog L5 W) : ∃ (p p' : Value), W.var? Tryd.prog "strconv.ErrSyntax" = some #[.iface 55 p] ∧ W.var? Tryd.prog "strconv.ErrRange" = some #[.iface 55 p'] ∧ Lib.TabIs Tryd.prog W "internal/strconv.uint64pow10" .u64 Lib.pow10Tab := by
  rw [MakeChecks.laidMetH_plain _ _ _ (by kernel_rfl)] at h
  have h3 : laidMet Tryd.prog (("internal/strconv.uint64pow10", Lib.tabData .u64 Lib.pow10Tab) :: ("strconv.ErrRange", Rows.laid_strconv_ErrRange) :: ("strconv.ErrSyntax", Rows.laid_strconv_ErrSyntax) :: []) W := h.tail.tail
  have h4 : laidMet Tryd.prog (("strconv.ErrRange", Rows.laid_strconv_ErrRange) :: ("strconv.ErrSyntax", Rows.laid_strconv_ErrSyntax) :: []) W := h3.tail
  have h5 : laidMet Tryd.prog (("strconv.ErrSyntax", Rows.laid_strconv_ErrSyntax) :: []) W := h4.tail
  obtain ⟨a1, s1, hv1, -, -, -⟩ := laid_sentinel h4 gER tER Tryd.underlying26 row55 Tryd.underlying55 Tryd.underlying57 rfl rfl Tryd.underlying9 cells57 cells9
  obtain ⟨a0, s0, hv0, -, -, -⟩ := laid_sentinel h5 gES tES Tryd.underlying26 row55 Tryd.underlying55 Tryd.underlying57 rfl rfl Tryd.underlying9 cells57 cells9
  exact ⟨_, _, hv0, hv1, Lib.tabIs_of_head gTab tTab Tryd.underlying60 Tryd.underlying31 cells31 cells60 h3⟩
set_option maxRecDepth 100000 in
theorem lifted (os : Os) (started : os.Started) (H : Type) (enc : TypeId × Value → H) :
    ReturnsInHanded {} Tryd.checked os 3 .any (fun w args => (Rows.fnExactRegOfSpec.pre enc Tryd.prog Tryd.f3 [] false w args ∧ laidMetH Tryd.prog L5 w) ∧ sizedMet enc Tryd.prog Tryd.f3 (OpenSpec.ofChange Rows.fnExactRegOfSpec) false w args)
      (Rows.fnExactRegOfSpec.post enc Tryd.prog Tryd.f3 false true false false) := by
  refine returnsInHanded_of_change_and (C := Tryd.checked) (X := fun w _ => laidMetH Tryd.prog L5 w) (fun _ _ _ hh h => h.of_heap hh) own started (by kernel_rfl) Tryd.func3
    (ChangeSpec.witness_shaped (enc := enc) (C := Tryd.checked) (os := os) (X := fun w _ => laidMetH Tryd.prog L5 w) false (World.doorLaid Tryd.prog 62 os) #[.string ⟨#[]⟩] 8 rfl (World.shaped_of_RefB (by kernel_rfl) (by kernel_rfl)) (by kernel_rfl) (by kernel_rfl) (by kernel_rfl) (door_met os _)) ?_
  intro W base args ds gs before hval0 hW _ _ hL _
  have hval : ∀ (j : Nat) t v, Tryd.f3.params[j]? = some t → args[j]? = some v → Value.okWide Tryd.prog W .any base t v := hval0
  have hW' := hW
  obtain ⟨p, q, hA0, hV, rfl, hfz, hnd⟩ := hW
  have hA : DataW.TrodAll enc Tryd.prog W 0 (fun _ => true) true Tryd.f3.params.toList args.toList ds p := hA0
  rw [Tryd.params3] at hA hval
  obtain ⟨v0, d0, rfl, rfl, h0⟩ := trodAll_one hA
  obtain ⟨rfl, rfl⟩ := trodVars_none hV
  obtain ⟨s, rfl, rfl, rfl, hs⟩ := open_string Tryd.underlying9 (hval 0 9 v0 rfl rfl) h0
  obtain ⟨pp, pp', hS, hR, hT⟩ := of_laid hL
  clear hA0 hval0
  simp only [List.append_nil] at hW'
  have hw : Calls Tryd.prog 3 #[.string s] W (fun e W' => e = .returned (.bool true) ∧ Below W.heap.size W W') := by
    exact (walk3 (s := s) hS hR (Lib.tabBelow_of_tabIs hT)).mono (by rintro e w' ⟨v, rfl, rfl, hb⟩; exact ⟨rfl, hb⟩)
  refine hw.mono fun e W' ⟨he, hnx⟩ => ?_
  subst he
  refine ⟨_, rfl, _, _, _, [], [], [], hW', ?_, ?_, rfl, hnx.frame _, fun h => by cases h⟩
  · exact trodAll_mk1 (shut_bool Tryd.underlying4 _)
  · exact trodAll_mk1 (shut_string Tryd.underlying9 hs)
theorem fnExactRegOf_row : Rows.FnExactRegOfSaid :=
  OpenClaim.holds_of_wide 3 Tryd.f3 rfl rfl rfl rfl rfl rfl rfl ⟨rfl, rfl, rfl, rfl, rfl⟩ rfl rfl rfl rfl rfl (by kernel_rfl) Tryd.func3 (by kernel_rfl)
    (of_decide_eq_true (by kernel_rfl)) (by unfold Func.isWrapper; first | (rw [if_pos (by decide +kernel)]; kernel_rfl) | (rw [if_neg (by decide +kernel)]; exact ⟨rfl, rfl⟩))
    (fun os started H enc _ => lifted os started H enc)
theorem fnExactRegOfCard_holds : Rows.FnExactRegOfCardSaid :=
  Claim7.holds_tied_plain_at .later [] [.data, .data, .data, .sentinel, .sentinel] true (true, "219bb50c09c8ca80821f8044bf9f5e675b60cbd0e8a76c7ca28233a7abda52b8") true
    fnExactRegOf_row (fun _ h => by cases h) (by kernel_rfl) (fun _ h => by cases h) fnExactRegOf_row_tie rfl ⟨rfl, rfl⟩ (by kernel_rfl) rfl
    (fun f fn hf hfn => by
      obtain rfl : f = 3 := Option.some.inj ((show Tryd.prog.funcNamed "loop.example/g00008/laws.FnExactRegOf" = some 3 by kernel_rfl).symm.trans hf) |>.symm
      obtain rfl : fn = Tryd.f3 := (Option.some.inj (Tryd.func3.symm.trans hfn)).symm
      exact ⟨by kernel_rfl, fun j t ht => by
        rw [Tryd.params3] at ht
        have hm : t ∈ [9] := by simpa using Array.mem_of_getElem? ht
        have hall : ([9].all fun u => !Tryd.prog.wantsStandIn u) = true := by kernel_rfl
        exact (show Tryd.prog.wantsStandIn t = false by simpa using List.all_eq_true.1 hall t hm)⟩)
    (by kernel_rfl)
#print axioms fnExactRegOfCard_holds
end Go.Proofs.YtfijeehojolhlaaDoor
