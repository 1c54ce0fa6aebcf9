/- Part 2 of 4: plain readings of code, rules for them, and a proof over them, joined by a program. Conditions: none. -/
import Derived.Test.YtenhcpjlkmbedaaImg1
import Derived.Below
import Derived.IntWalk
import Derived.Laws.Externs
import Derived.Laws.Strings
import Derived.WideShapes
import Derived.Deep.Slices
import Derived.Laws.StructEq
import Derived.Test.YtenhcpjlkmbedaaProg
/- A piece of code, and a function, of the plainer reading are the model's. Conditions: the table of types is the program's (TabOk); the slots lie in the frame (fnOk). -/
set_option linter.unusedVariables false
set_option linter.unusedSimpArgs false
namespace Go.Den
variable {P : Program}
/-! ## What is handed on -/
theorem app_cur : ∀ (l : List Sh) (f : Vals l → World → Prop) (v : Vals l) (w : World), app l (cur l f) v w = f v w
  | [], f, (), w => rfl
  | s :: r, f, v, w => app_cur r (fun u => f (v.1, u)) v.2 w
theorem Sh.ask_some {s : Sh} {u : Value} {K : s.T → Prop} (h : s.ask u K) : ∃ x, u = s.mk x ∧ K x := by
  cases s with
  | int k =>
    cases u <;> simp only [Sh.ask] at h
    split at h
    · rename_i hk; obtain rfl := kEq_ok hk; exact ⟨_, rfl, h⟩
    · exact h.elim
  | any => exact ⟨u, rfl, by cases u <;> exact h⟩
  | slice => cases u <;> simp only [Sh.ask] at h; exact ⟨⟨_, _, _⟩, rfl, h⟩
  | fn =>
    cases u with
    | func f x c => cases f with
      | func g => exact ⟨⟨g, x.toList, c.toList⟩, rfl, h⟩
      | _ => exact h.elim
    | _ => exact h.elim
  | _ => cases u <;> simp only [Sh.ask] at h; exact ⟨_, rfl, h⟩
theorem ask_some {a : Act} {e : Env} (ha : Agree e a) : ∀ {c : List (Nat × Sh)} {K : Vals (shsOf c) → Prop}, ask e c K → ∃ v, K v ∧ Agree (entries c v) a
  | [], K, h => ⟨(), h, fun i v hv => by simp [entries, Env.find] at hv⟩
  | (j, s) :: r, K, h => by
    unfold ask at h
    split at h
    · exact h.elim
    · rename_i u hu
      obtain ⟨x, hx, h2⟩ := Sh.ask_some h
      clear h
      subst hx
      obtain ⟨v, hk, hv⟩ := ask_some ha h2
      refine ⟨(x, v), hk, fun i y hy => ?_⟩
      simp only [entries, find_cons] at hy
      by_cases hi : i = j
      · rw [if_pos hi] at hy; injection hy with hy; subst hy; subst hi; exact ha _ _ hu
      · rw [if_neg hi] at hy; exact hv i y hy
theorem find_append (e1 e2 : Env) (i : Nat) : Env.find (e1 ++ e2) i = (match Env.find e1 i with | some v => some v | none => Env.find e2 i) := by
  induction e1 with
  | nil => rfl
  | cons x r ih =>
    obtain ⟨j, v⟩ := x
    rw [List.cons_append, find_cons, find_cons, ih]
    by_cases h : i = j <;> simp [h]
theorem Agree.append {e1 e2 : Env} {a : Act} (h1 : Agree e1 a) (h2 : Agree e2 a) : Agree (e1 ++ e2) a := fun i v hv => by
  rw [find_append] at hv
  split at hv
  · rename_i u hu; injection hv with hv; subst hv; exact h1 i _ hu
  · exact h2 i v hv
theorem find_keep (m : Nat) (e : Env) (i : Nat) (v : Value) (h : Env.find (Env.keep m e) i = some v) : Nat.testBit m i = true ∧ Env.find e i = some v := by
  induction e with
  | nil => simp [Env.keep, Env.find] at h
  | cons x r ih =>
    obtain ⟨j, u⟩ := x
    unfold Env.keep at h
    split at h
    · rename_i hb
      rw [find_cons] at h ⊢
      by_cases hi : i = j
      · rw [if_pos hi] at h ⊢; subst hi; exact ⟨hb, h⟩
      · rw [if_neg hi] at h ⊢; exact ih h
    · rename_i hb
      have := ih h
      rw [find_cons]
      by_cases hi : i = j
      · subst hi; rw [this.1] at hb; cases hb
      · rw [if_neg hi]; exact this
theorem Agree.keep {e : Env} {a a' : Act} (h : Agree e a) {m ms : Nat} (hs : Same ms a a') (hd : Nat.beq (m &&& ms) 0 = true) : Agree (e.keep m) a' := fun i v hv => by
  obtain ⟨hb, hf⟩ := find_keep m e i v hv
  have hz := Nat.eq_of_beq_eq_true hd
  have : Nat.testBit ms i = false := by
    have hh : Nat.testBit (m &&& ms) i = false := by rw [hz]; simp
    rw [Nat.testBit_and, hb, Bool.true_and] at hh
    exact hh
  rw [hs i this]
  exact h i v hf
theorem opMods_append : ∀ (a b : List Oper), opMods (a ++ b) = opMods a ||| opMods b
  | [], b => by simp [opMods]
  | o :: r, b => by rw [List.cons_append, opMods_cons, opMods_cons, opMods_append r b, Nat.or_assoc]
theorem or_lt {a b n : Nat} (h : a ||| b < 2 ^ n) : a < 2 ^ n ∧ b < 2 ^ n := ⟨Nat.lt_of_le_of_lt Nat.left_le_or h, Nat.lt_of_le_of_lt Nat.right_le_or h⟩

theorem denSegs_sound {tt : Tab} (htt : TabOk P tt) {n : Nat} {all : List Oper} {Q : Exit → Act → World → Prop} : ∀ (segs : List (Nat × Option (Nat × List (Nat × Sh)))) (ops : List Oper) (e : Env) (a : Act) (w : World) (K : Env → World → Prop),
    opMods ops < 2 ^ n → St n e a → denSegs P tt all segs ops e w K → (∀ e' a' w', K e' w' → St n e' a' → Same (opMods ops) a a' → Q .normal a' w') → wpList P all.toArray Q ops a w
  | [], ops, e, a, w, K, hm, hst, h, hQ => by
    have := denOps_sound htt (all := all) (Q := Q) ops e a w K [] hm hst h (fun e' a' w' hk hs hsame => wpList_nil (hQ e' a' w' hk hs hsame))
    simpa using this
  | (k, none) :: r, ops, e, a, w, K, hm, hst, h, hQ => by
    have hsplit : opMods ops = opMods (ops.take k) ||| opMods (ops.drop k) := by rw [← opMods_append, List.take_append_drop]
    have hm2 := or_lt (hsplit ▸ hm)
    have := denOps_sound htt (all := all) (Q := Q) (ops.take k) e a w _ (ops.drop k) hm2.1 hst h (fun e' a' w' hk hs hsame =>
      denSegs_sound htt r (ops.drop k) e' a' w' K hm2.2 hs hk (fun e'' a'' w'' hk' hs' hsame' => hQ e'' a'' w'' hk' hs' (by rw [hsplit]; exact hsame.trans hsame')))
    rwa [List.take_append_drop] at this
  | (k, some (m, c)) :: r, ops, e, a, w, K, hm, hst, h, hQ => by
    have hsplit : opMods ops = opMods (ops.take k) ||| opMods (ops.drop k) := by rw [← opMods_append, List.take_append_drop]
    have hm2 := or_lt (hsplit ▸ hm)
    unfold denSegs at h
    split at h
    · rename_i hb
      obtain ⟨J, hJ, h⟩ := h
      have := denOps_sound htt (all := all) (Q := Q) (ops.take k) e a w _ (ops.drop k) hm2.1 hst h (fun e' a' w' hk hs hsame => by
        obtain ⟨v, hv, hag⟩ := ask_some hs.agree hk
        have hv := hJ v w' hv
        rw [app_cur] at hv
        exact denSegs_sound htt r (ops.drop k) _ a' w' K hm2.2 ⟨hs.size, hs.defers, hag.append (hst.agree.keep hsame hb)⟩ hv (fun e'' a'' w'' hk' hs' hsame' => hQ e'' a'' w'' hk' hs' (by rw [hsplit]; exact hsame.trans hsame')))
      rwa [List.take_append_drop] at this
    · exact h.elim

/-! ## Code -/
def Post (n : Nat) (K : Kont) (m : Nat) (a0 : Act) : Exit → Act → World → Prop
  | .normal, a, w => Same m a0 a ∧ ∃ e, St n e a ∧ K.norm e w
  | .ret, a, w => ∃ e, St n e a ∧ K.ret e w
  | .exit id, a, w => Same m a0 a ∧ ∃ e k, St n e a ∧ findK K.exits id = some k ∧ k e w
  | _, _, _ => False
theorem findK_cons (id : Nat) (k : Env → World → Prop) (r : List (Nat × (Env → World → Prop))) (i : Nat) : findK ((id, k) :: r) i = if i = id then some k else findK r i := by
  simp only [findK]
  split
  · rename_i h; rw [if_pos (Nat.eq_of_beq_eq_true h)]
  · rename_i h; rw [if_neg (Nat.ne_of_beq_eq_false h)]
theorem Post.mono {n : Nat} {K : Kont} {m m' : Nat} {a0 a1 : Act} (h : ∀ a, Same m a1 a → Same m' a0 a) {e : Exit} {a : Act} {w : World} (hp : Post n K m a1 e a w) : Post n K m' a0 e a w := by
  cases e with
  | normal => exact ⟨h a hp.1, hp.2⟩
  | ret => exact hp
  | exit id => exact ⟨h a hp.1, hp.2⟩
  | goto l => exact hp
  | panic c => exact hp
  | outgrown => exact hp
theorem exists_least {p : Nat → Prop} (h : ∃ k, p k) : ∃ k, p k ∧ ∀ j, p j → k ≤ j := by
  obtain ⟨k, hk⟩ := h
  induction k using Nat.strongRecOn with
  | _ k ih =>
    by_cases hl : ∃ j, j < k ∧ p j
    · obtain ⟨j, hj, hp⟩ := hl; exact ih j hj hp
    · exact ⟨k, hk, fun j hj => Nat.le_of_not_lt fun hlt => hl ⟨j, hlt, hj⟩⟩
open Classical in
noncomputable def least (p : Nat → Prop) : Nat := if h : ∃ k, p k then (exists_least h).choose else 0
theorem least_spec {p : Nat → Prop} (h : ∃ k, p k) : p (least p) ∧ ∀ j, p j → least p ≤ j := by
  unfold least
  rw [dif_pos h]
  exact (exists_least h).choose_spec
theorem loop_sound {c : Code} {Q : Exit → Act → World → Prop} {a0 : Act} {w0 : World} (R : Nat → Act → World → Prop) (h0 : ∃ k, R k a0 w0)
    (round : ∀ k a w, R k a w → c.wp P (Exit.then (fun a' w' => ∃ k', k' < k ∧ R k' a' w') Q) a w) :
    (Code.loop c).wp P Q a0 w0 := by
  refine wp_loop (fun a w => ∃ k, R k a w) (fun a w => least (fun k => R k a w)) h0 (fun a w hI => ?_)
  have hk := (least_spec hI).1
  refine wp_mono (round _ a w hk) (fun e a' w' hq => ?_)
  cases e with
  | normal =>
    obtain ⟨k', hlt, hr⟩ := hq
    exact ⟨⟨k', hr⟩, Nat.lt_of_le_of_lt ((least_spec (p := fun k => R k a' w') ⟨k', hr⟩).2 k' hr) hlt⟩
  | ret => exact hq
  | exit id => exact hq
  | goto l => exact hq
  | panic c => exact hq
  | outgrown => exact hq
theorem den_sound {tt : Tab} (htt : TabOk P tt) (hmix : P.follows .mixedOrders = true) {n : Nat} : ∀ (c : Code) (an : Ann) (e : Env) (w : World) (K : Kont) (a : Act), mods c < 2 ^ n → den P tt c an e w K → St n e a → c.wp P (Post n K (mods c) a) a w := by
  intro c
  induction c with
  | skip =>
    intro an e w K a hm h hst
    exact wp_skip ⟨Same.refl _ _, e, hst, h⟩
  | region id ops d =>
    intro an e w K a hm h hst
    unfold den at h
    unfold denReg at h
    split at h
    · refine wp_region_list ?_
      have := denSegs_sound htt (all := ops.toList) (Q := Post n K (mods (.region id ops false)) a) _ ops.toList e a w K.norm hm hst h (fun e' a' w' hk hs hsame => ⟨hsame, e', hs, hk⟩)
      simpa using this
    · split at h
      · split at h
        · rename_i hok
          exact draw_sound htt hmix (all := ops.toList) (Q := Post n K (mods (.region id ops true)) a) hm hok hst h (fun e' a' w' hk hs hsame => ⟨hsame, e', hs, hk⟩)
        · exact h.elim
      · split at h
        · rename_i hok
          exact drawT_sound htt hmix (all := ops.toList) (Q := Post n K (mods (.region id ops true)) a) hm hok hst h (fun e' a' w' hk hs hsame => ⟨hsame, e', hs, hk⟩)
        · exact h.elim
      · exact h.elim
  | seq x y ihx ihy =>
    intro an e w K a hm h hst
    have hm2 := or_lt (show mods x ||| mods y < 2 ^ n from hm)
    unfold den at h
    split at h
    · rename_i ax ay
      refine wp_seq (wp_mono (ihx ax e w _ a hm2.1 h hst) (fun ex a' w' hp => ?_))
      cases ex with
      | normal =>
        obtain ⟨hsame, e', hs, hk⟩ := hp
        exact wp_mono (ihy ay e' w' K a' hm2.2 hk hs) (fun ex' a'' w'' hp' => hp'.mono (fun b hb => hsame.trans hb))
      | ret => exact hp
      | exit id => exact ⟨hp.1.left, hp.2⟩
      | goto l => exact hp
      | panic c => exact hp
      | outgrown => exact hp
    · rename_i m cs ax ay
      split at h
      · rename_i hb
        obtain ⟨J, hJ, h⟩ := h
        refine wp_seq (wp_mono (ihx ax e w _ a hm2.1 h hst) (fun ex a' w' hp => ?_))
        cases ex with
        | normal =>
          obtain ⟨hsame, e', hs, hk⟩ := hp
          obtain ⟨v, hv, hag⟩ := ask_some hs.agree hk
          have hv := hJ v w' hv
          rw [app_cur] at hv
          exact wp_mono (ihy ay _ w' K a' hm2.2 hv ⟨hs.size, hs.defers, hag.append (hst.agree.keep hsame hb)⟩) (fun ex' a'' w'' hp' => hp'.mono (fun b hb => hsame.trans hb))
        | ret => exact hp
        | exit id => exact ⟨hp.1.left, hp.2⟩
        | goto l => exact hp
        | panic c => exact hp
        | outgrown => exact hp
      · exact h.elim
    · exact h.elim
  | cond o x y ihx ihy =>
    intro an e w K a hm h hst
    have hm2 := or_lt (show mods x ||| mods y < 2 ^ n from hm)
    unfold den at h
    split at h
    · rename_i ax ay
      split at h
      · rename_i t ht
        refine wp_cond_split (hst.agree.ev ht) (fun hh => ?_) (fun hh => ?_)
        · subst hh
          exact wp_mono (ihx ax e w K a hm2.1 h hst) (fun ex a' w' hp => hp.mono (fun b hb => hb.left))
        · subst hh
          exact wp_mono (ihy ay e w K a hm2.2 h hst) (fun ex a' w' hp => hp.mono (fun b hb => hb.right))
      · exact h.elim
    · exact h.elim
  | block id c ih =>
    intro an e w K a hm h hst
    unfold den at h
    split at h
    · rename_i ax
      refine wp_block (wp_mono (ih ax e w _ a hm h hst) (fun ex a' w' hp => ?_))
      cases ex with
      | normal => exact hp
      | ret => exact hp
      | exit i =>
        obtain ⟨hsame, e', k, hs, hf, hk⟩ := hp
        rw [findK_cons] at hf
        simp only [Exit.inBlock]
        by_cases hi : i = id
        · rw [if_pos hi] at hf ⊢
          injection hf with hf
          subst hf
          exact ⟨hsame, e', hs, hk⟩
        · rw [if_neg hi] at hf ⊢
          exact ⟨hsame, e', k, hs, hf, hk⟩
      | goto l => exact hp
      | panic c => exact hp
      | outgrown => exact hp
    · exact h.elim
  | loop c ih =>
    intro an e w K a hm h hst
    unfold den at h
    split at h
    · rename_i m cs ax
      split at h
      · rename_i hb
        obtain ⟨v0, h, hv0⟩ := ask_some hst.agree h
        obtain ⟨I, ⟨k0, hk0⟩, hround⟩ := h
        refine loop_sound (fun k a' w' => ∃ v, app (shsOf cs) (I k) v w' ∧ St n (entries cs v ++ e.keep m) a' ∧ Same (mods c) a a')
          ⟨k0, v0, hk0, ⟨hst.size, hst.defers, hv0.append (hst.agree.keep (Same.refl (mods c) a) hb)⟩, Same.refl _ _⟩ (fun k a1 w1 hR => ?_)
        obtain ⟨v, hv, hs, hsame⟩ := hR
        have hr := hround k v w1 hv
        rw [app_cur] at hr
        refine wp_mono (ih ax _ w1 _ a1 hm hr hs) (fun ex a' w' hp => ?_)
        cases ex with
        | normal =>
          obtain ⟨hsame', e', hs', hk⟩ := hp
          obtain ⟨v', hv', hag⟩ := ask_some hs'.agree hk
          rw [app_cur] at hv'
          obtain ⟨k', hlt, hv'⟩ := hv'
          have hsame2 : Same (mods c) a a' := (hsame.trans hsame').mono fun i hi => by rw [Nat.testBit_or, hi]; rfl
          exact ⟨k', hlt, v', hv', ⟨hs'.size, hs'.defers, hag.append (hst.agree.keep hsame2 hb)⟩, hsame2⟩
        | ret => exact hp
        | exit i => exact ⟨(hsame.trans hp.1).mono fun i hi => by rw [Nat.testBit_or, show Nat.testBit (mods c) i = false from hi]; rfl, hp.2⟩
        | goto l => exact hp
        | panic c => exact hp
        | outgrown => exact hp
      · exact h.elim
    · exact h.elim
  | exit id =>
    intro an e w K a hm h hst
    unfold den at h
    split at h
    · rename_i k hk
      exact wp_exit ⟨Same.refl _ _, e, k, hst, hk, h⟩
    · exact h.elim
  | ret =>
    intro an e w K a hm h hst
    exact wp_ret ⟨e, hst, h⟩
  | rangeFunc f p x y => intro an e w K a hm h hst; exact absurd h (by simp [den])
  | scope x => intro an e w K a hm h hst; exact absurd h (by simp [den])
  | label l => intro an e w K a hm h hst; exact absurd h (by simp [den])
  | goto l => intro an e w K a hm h hst; exact absurd h (by simp [den])
  | refuse s => intro an e w K a hm h hst; exact absurd h (by simp [den])
/-! ## A function -/
def resOf (tmps : Array Value) : ResultVar → Sem Value
  | .tmp t => pure (tmps.getD t undef)
  | .cell d t => do loadVar t (← asAddr (tmps.getD d undef))
theorem results_eq (fn : Func) (tmps : Array Value) : results fn tmps = (do let vs ← fn.results.mapM (resOf tmps); pure (if h : vs.size = 1 then vs[0] else .tuple vs)) := by
  unfold results
  congr 1
theorem resVals_run {tt : Tab} (htt : TabOk P tt) {e : Env} {a : Act} (ha : Agree e a) {w : World} : ∀ (rs : List ResultVar) (K : List Value → Prop), resVals tt e w rs K →
    ∃ vs, K vs ∧ (rs.mapM (resOf a.tmps)).run P w = .ok vs w
  | [], K, h => ⟨[], h, by simp⟩
  | .tmp t :: r, K, h => by
    unfold resVals at h
    split at h
    · rename_i v hv
      obtain ⟨vs, hk, hr⟩ := resVals_run htt ha r _ h
      refine ⟨v :: vs, hk, ?_⟩
      have h1 : (resOf a.tmps (.tmp t)).run P w = .ok v w := by simp only [resOf, ha t v hv, Sem.run_pure]
      rw [List.mapM_cons]
      simp only [Sem.run_bind, Sem.run_pure, h1, Result.andThen]
      rw [hr]
    · exact h.elim
  | .cell d t :: r, K, h => by
    unfold resVals at h
    obtain ⟨ti, hti, h1⟩ := tiOf_some h
    obtain ⟨p, hp, h2⟩ := addrOf_some h1
    obtain ⟨v, h3, hl⟩ := ld_run (htt.find hti) h2
    obtain ⟨vs, hk, hr⟩ := resVals_run htt ha r _ h3
    refine ⟨v :: vs, hk, ?_⟩
    have h4 : (resOf a.tmps (.cell d t)).run P w = .ok v w := by simp [resOf, ha d _ hp, asAddr, hl]
    rw [List.mapM_cons]
    simp only [Sem.run_bind, Sem.run_pure, h4, Result.andThen]
    rw [hr]
theorem argEnv_agree : ∀ (args : List Value) (i : Nat) (tmps : Array Value), (∀ j, j < args.length → tmps.getD (i + j) undef = args[j]?.getD undef) → ∀ k v, Env.find (argEnv i args) k = some v → tmps.getD k undef = v
  | [], i, tmps, h, k, v, hk => by simp [argEnv, Env.find] at hk
  | x :: r, i, tmps, h, k, v, hk => by
    simp only [argEnv, find_cons] at hk
    by_cases hki : k = i
    · rw [if_pos hki] at hk; injection hk with hk; subst hk; subst hki
      have := h 0 (by simp)
      simpa using this
    · rw [if_neg hki] at hk
      exact argEnv_agree r (i + 1) tmps (fun j hj => by
        have := h (j + 1) (by simpa using hj)
        rw [show i + 1 + j = i + (j + 1) by omega]
        simpa using this) k v hk
theorem denFn_sound {tt : Tab} (htt : TabOk P tt) (hmix : P.follows .mixedOrders = true) {f : Nat} {fn : Func} {an : Ann} {args : List Value} {w : World} {K : Value → World → Prop} (hf : P.funcs[f]? = some fn) (hok : fnOk fn args.length = true) (h : denFn P tt fn an args w K) :
    Calls P f ⟨args⟩ w (fun e w' => ∃ v, e = .returned v ∧ K v w') := by
  unfold denFn at h
  unfold fnOk at hok
  split at h
  · rename_i c hb
    rw [hb] at hok
    simp only [Bool.and_eq_true] at hok
    have h1 := Nat.le_of_ble_eq_true hok.1
    have h2 := Nat.le_of_ble_eq_true hok.2
    rw [Nat.one_shiftLeft] at h1
    refine calls_of_wp hf hb ?_
    have hst : St fn.ntmps (argEnv 0 args) { tmps := (⟨args⟩ : Array Value) ++ Array.replicate (fn.ntmps - (⟨args⟩ : Array Value).size) undef, defers := [] } := by
      refine ⟨by simp; omega, rfl, fun i v hv => argEnv_agree args 0 _ (fun j hj => ?_) i v hv⟩
      simp [Array.getD_eq_getD_getElem?, Array.getElem?_append, hj]
    refine wp_mono (den_sound htt hmix c an _ w _ _ (by omega) h hst) (fun ex a w' hp => ?_)
    have fin : ∀ e, St fn.ntmps e a → retK tt fn.results.toList K e w' → a.defers = [] ∧ ∃ v, (results fn a.tmps).run P w' = .ok v w' ∧ ∃ u, Ending.returned v = .returned u ∧ K u w' := by
      intro e hs hk
      obtain ⟨vs, hk, hr⟩ := resVals_run htt hs.agree fn.results.toList _ hk
      refine ⟨hs.defers, oneOf vs, ?_, _, rfl, hk⟩
      rw [results_eq]
      simp only [Array.mapM_eq_mapM_toList, bind_map_left, Sem.run_bind, hr, Result.andThen, Sem.run_pure]
      congr 1
      cases vs with
      | nil => rfl
      | cons v r => cases r <;> rfl
    cases ex with
    | normal => obtain ⟨_, e, hs, hk⟩ := hp; exact fin e hs hk
    | ret => obtain ⟨e, hs, hk⟩ := hp; exact fin e hs hk
    | exit id => obtain ⟨_, e, k, _, hk, _⟩ := hp; simp [findK] at hk
    | goto l => exact hp.elim
    | panic c => exact hp.elim
    | outgrown => exact hp.elim
  · exact h.elim
end Go.Den

/- Rules for proofs over plain readings: ways, joins, loops, calls. Conditions: none. -/
set_option linter.unusedVariables false
set_option linter.unusedSimpArgs false
namespace Go.Den
open Go.RowKit
/-! ## Ways -/
theorem BIf.of {x : Bool} {A B : Prop} (h1 : x = true → A) (h2 : x = false → B) : BIf x A B := by
  cases x
  · exact h2 rfl
  · exact h1 rfl
theorem BIf.dec {P : Prop} [Decidable P] {A B : Prop} (h1 : P → A) (h2 : ¬ P → B) : BIf (decide P) A B := BIf.of (fun h => h1 (of_decide_eq_true h)) (fun h => h2 (of_decide_eq_false h))
theorem BIf.eq {a b : Int} {A B : Prop} (h1 : a = b → A) (h2 : a ≠ b → B) : BIf (a == b) A B := BIf.of (fun h => h1 (eq_of_beq h)) (fun h => h2 (by simpa using h))
theorem BIf.ne {a b : Int} {A B : Prop} (h1 : a ≠ b → A) (h2 : a = b → B) : BIf (a != b) A B := BIf.of (fun h => h1 (by simpa using h)) (fun h => h2 (by simpa using h))
theorem BIf.t {x : Bool} {A B : Prop} (hx : x = true) (h : A) : BIf x A B := by subst hx; exact h
theorem BIf.f {x : Bool} {A B : Prop} (hx : x = false) (h : B) : BIf x A B := by subst hx; exact h
theorem LetW_iff {w : World} {k : World → Prop} : LetW w k ↔ k w := Iff.rfl
/-! ## Joins -/
theorem JoinW.cut1 {s : Sh} {f : JT [s] → Prop} {k : JT [s]} (J : s.T → World → Prop) (h : f J) (hk : ∀ x w, J x w → k x w) : JoinW [s] f k := ⟨J, fun v w h => hk v.1 w h, h⟩
/-! ## Loops -/
theorem LoopW.m1 {s : Sh} {body : JT [s] → JT [s]} {x : s.T} {w : World} (Inv : s.T → World → Prop) (μ : s.T → World → Nat) (h0 : Inv x w)
    (step : ∀ x w, Inv x w → ∀ J : s.T → World → Prop, (∀ x' w', Inv x' w' → μ x' w' < μ x w → J x' w') → (body J : s.T → World → Prop) x w) : LoopW [s] body (x, ()) w :=
  ⟨fun n x w => Inv x w ∧ μ x w = n, ⟨_, h0, rfl⟩, fun n v w h => step v.1 w h.1 _ (fun x' w' hi hm => ⟨μ x' w', h.2 ▸ hm, hi, rfl⟩)⟩
theorem LoopW.m2 {s t : Sh} {body : JT [s, t] → JT [s, t]} {x : s.T} {y : t.T} {w : World} (Inv : s.T → t.T → World → Prop) (μ : s.T → t.T → World → Nat) (h0 : Inv x y w)
    (step : ∀ x y w, Inv x y w → ∀ J : s.T → t.T → World → Prop, (∀ x' y' w', Inv x' y' w' → μ x' y' w' < μ x y w → J x' y' w') → (body J : s.T → t.T → World → Prop) x y w) : LoopW [s, t] body (x, (y, ())) w :=
  ⟨fun n x y w => Inv x y w ∧ μ x y w = n, ⟨_, h0, rfl⟩, fun n v w h => step v.1 v.2.1 w h.1 _ (fun x' y' w' hi hm => ⟨μ x' y' w', h.2 ▸ hm, hi, rfl⟩)⟩
theorem LoopW.m3 {s t u : Sh} {body : JT [s, t, u] → JT [s, t, u]} {x : s.T} {y : t.T} {z : u.T} {w : World} (Inv : s.T → t.T → u.T → World → Prop) (μ : s.T → t.T → u.T → World → Nat) (h0 : Inv x y z w)
    (step : ∀ x y z w, Inv x y z w → ∀ J : s.T → t.T → u.T → World → Prop, (∀ x' y' z' w', Inv x' y' z' w' → μ x' y' z' w' < μ x y z w → J x' y' z' w') → (body J : s.T → t.T → u.T → World → Prop) x y z w) : LoopW [s, t, u] body (x, (y, (z, ()))) w :=
  ⟨fun n x y z w => Inv x y z w ∧ μ x y z w = n, ⟨_, h0, rfl⟩, fun n v w h => step v.1 v.2.1 v.2.2.1 w h.1 _ (fun x' y' z' w' hi hm => ⟨μ x' y' z' w', h.2 ▸ hm, hi, rfl⟩)⟩
/-! ## Calls -/
theorem CallW.mono {P : Program} {f : Nat} {args : Array Value} {w : World} {K K' : Value → World → Prop} (h : CallW P f args w K) (hk : ∀ v w', K v w' → K' v w') : CallW P f args w K' := by
  rcases h with ⟨h1, h2⟩ | ⟨v, w', h1, h2⟩
  · exact .inl ⟨h1, h2.mono fun e w' ⟨v, he, hK⟩ => ⟨v, he, hk _ _ hK⟩⟩
  · exact .inr ⟨v, w', h1, hk _ _ h2⟩
/-! ## Numbers -/
theorem w64 {n : Int} (h1 : -9223372036854775808 ≤ n) (h2 : n ≤ 9223372036854775807) : IntKind.i64.wrap n = n := by rw [IntKind.wrap_i64]; omega
theorem wu64 {n : Int} (h1 : 0 ≤ n) (h2 : n ≤ 18446744073709551615) : IntKind.u64.wrap n = n := by rw [IntKind.wrap_u64]; omega
/-! ## Worlds -/
/-- Nothing that was there has turned, but the blocks of S. -/
structure Only (S : Nat → Prop) (w w' : World) : Prop where
  os : w'.os = w.os
  tape : w'.tape = w.tape
  output : w'.output = w.output
  size : w.heap.size ≤ w'.heap.size
  block : ∀ k, k < w.heap.size → ¬ S k → w'.heap[k]? = w.heap[k]?
theorem Only.refl (S : Nat → Prop) (w : World) : Only S w w := ⟨rfl, rfl, rfl, Nat.le_refl _, fun _ _ _ => rfl⟩
theorem Only.trans {S : Nat → Prop} {a b c : World} (h : Only S a b) (k : Only S b c) : Only S a c :=
  ⟨k.os.trans h.os, k.tape.trans h.tape, k.output.trans h.output, Nat.le_trans h.size k.size, fun i hi hs => (k.block i (Nat.lt_of_lt_of_le hi h.size) hs).trans (h.block i hi hs)⟩
/-- Behind a step that turned only blocks of S or blocks made since a. -/
theorem Only.step {S T : Nat → Prop} {a b c : World} (h : Only S a b) (k : Only T b c) (hT : ∀ i, i < a.heap.size → T i → S i) : Only S a c :=
  ⟨k.os.trans h.os, k.tape.trans h.tape, k.output.trans h.output, Nat.le_trans h.size k.size, fun i hi hs => (k.block i (Nat.lt_of_lt_of_le hi h.size) (fun ht => hs (hT i hi ht))).trans (h.block i hi hs)⟩
/-- Nothing has turned. -/
abbrev Ext (w w' : World) : Prop := Only (fun _ => False) w w'
theorem Ext.below {w w' : World} (h : Ext w w') : Below w.heap.size w w' := ⟨h.os, h.tape, h.output, h.size, fun k hk => h.block k hk id⟩
theorem ext_drew (w : World) : Ext w w.drew := ⟨rfl, rfl, rfl, Nat.le_refl _, fun _ _ _ => rfl⟩
theorem ext_alloc (w : World) (o : Obj) : Ext w (w.alloc o) := ⟨rfl, rfl, rfl, by simp, fun k hk _ => Below.heap_alloc _ _ _ hk⟩
theorem only_set (w : World) (p : Addr) (v : Value) : Only (fun k => k = p.block) w (w.setCell p v) := ⟨rfl, rfl, rfl, by simp [World.setCell], fun k hk h => Below.heap_setCell _ _ _ _ h⟩
theorem only_puts : ∀ (vs : List Value) (w : World) (p : Addr) (i : Nat), Only (fun k => k = p.block) w (puts w p i vs)
  | [], w, p, i => Only.refl _ w
  | v :: r, w, p, i => by
    have h1 := only_set w (p.add i) v
    have h2 := only_puts r (w.setCell (p.add i) v) p (i + 1)
    have hb : (p.add i).block = p.block := by unfold Addr.add; split <;> rfl
    rw [hb] at h1
    exact h1.trans h2
theorem Only.cell {S : Nat → Prop} {w w' : World} (h : Only S w w') {p : Addr} {v : Value} (hp : w.cell? p = some v) (hS : ¬ S p.block) : w'.cell? p = some v := by
  have hlt : p.block < w.heap.size := by
    unfold World.cell? at hp
    rcases hb : w.heap[p.block]? with _ | o
    · rw [hb] at hp; exact absurd hp (by simp)
    · exact (Array.getElem?_eq_some_iff.1 hb).1
  rw [← hp]
  exact World.cell?_of_block (w := w) (h.block _ hlt hS)
theorem add_block (p : Addr) (n : Nat) : (p.add n).block = p.block := by unfold Addr.add; split <;> rfl
theorem add_add (p : Addr) (a b : Nat) : (p.add a).add b = p.add (a + b) := by
  unfold Addr.add
  by_cases ha : a = 0
  · simp [ha]
  · by_cases hb : b = 0
    · simp [ha, hb]
    · simp [ha, hb]; omega
theorem add_zero (p : Addr) : p.add 0 = p := rfl
theorem add_mk (b o n : Nat) : (⟨b, o, none⟩ : Addr).add n = ⟨b, o + n, none⟩ := by unfold Addr.add; split <;> simp_all
theorem Only.row {S : Nat → Prop} {w w' : World} (h : Only S w w') {a : Option Addr} {n : Nat} {vs : List Value} (hr : RowAt w a n vs) (hS : ∀ p, a = some p → ¬ S p.block) : RowAt w' a n vs := by
  refine ⟨hr.1, fun hn => ?_⟩
  obtain ⟨p, hp, hc⟩ := hr.2 hn
  exact ⟨p, hp, fun j v hv => h.cell (hc j v hv) (by rw [add_block]; exact hS p hp)⟩
theorem Ext.cell {w w' : World} (h : Ext w w') {p : Addr} {v : Value} (hp : w.cell? p = some v) : w'.cell? p = some v := Only.cell h hp id
theorem Ext.row {w w' : World} (h : Ext w w') {a : Option Addr} {n : Nat} {vs : List Value} (hr : RowAt w a n vs) : RowAt w' a n vs := Only.row h hr (fun _ _ => id)
/-! ## A new block -/
theorem size_alloc (w : World) (o : Obj) : (w.alloc o).heap.size = w.heap.size + 1 := by simp
theorem size_drew (w : World) : w.drew.heap.size = w.heap.size := rfl
theorem size_set (w : World) (p : Addr) (v : Value) : (w.setCell p v).heap.size = w.heap.size := by simp [World.setCell]
theorem size_puts : ∀ (vs : List Value) (w : World) (p : Addr) (i : Nat), (puts w p i vs).heap.size = w.heap.size
  | [], _, _, _ => rfl
  | v :: r, w, p, i => (size_puts r _ p (i + 1)).trans (size_set w _ v)
theorem block_alloc (w : World) (o : Obj) : (w.alloc o).heap[w.heap.size]? = some o := by show (w.heap.push _)[w.heap.size]? = _; simp
/-! ## A block of cells, in the open -/
/-- Block b has these cells, none of them frozen. -/
def Blk (w : World) (b : Nat) (vs : List Value) : Prop := ∃ e, w.heap[b]? = some (.cells ⟨vs⟩ e (0, 0))
theorem Blk.lt {w : World} {b : Nat} {vs : List Value} (h : Blk w b vs) : b < w.heap.size := by obtain ⟨e, h⟩ := h; exact (Array.getElem?_eq_some_iff.1 h).1
theorem blk_alloc (w : World) (vs : List Value) (e : TypeId) : Blk (w.alloc (.cells ⟨vs⟩ e)) w.heap.size vs := ⟨e, block_alloc w _⟩
theorem Blk.cell {w : World} {b : Nat} {vs : List Value} (h : Blk w b vs) (i : Nat) : w.cell? ⟨b, i, none⟩ = vs[i]? := by
  obtain ⟨e, h⟩ := h
  simp [World.cell?, h]
theorem Blk.may {w : World} {b : Nat} {vs : List Value} (h : Blk w b vs) {i : Nat} (hi : i < vs.length) : May w ⟨b, i, none⟩ := by
  refine ⟨by rw [h.cell]; simp [hi], ?_⟩
  obtain ⟨e, h⟩ := h
  simp [World.frozen?, h]
theorem Blk.mayN {w : World} {b : Nat} {vs : List Value} (h : Blk w b vs) {o n : Nat} (hi : o + n ≤ vs.length) : MayN w ⟨b, o, none⟩ n := by
  intro i hn
  rw [add_mk]
  exact h.may (by omega)
theorem Blk.set {w : World} {b : Nat} {vs : List Value} (h : Blk w b vs) (i : Nat) (v : Value) : Blk (w.setCell ⟨b, i, none⟩ v) b (vs.set i v) := by
  obtain ⟨e, h⟩ := h
  refine ⟨e, ?_⟩
  simp [World.setCell, Array.getElem?_modify, h]
theorem Blk.only {S : Nat → Prop} {w w' : World} {b : Nat} {vs : List Value} (h : Blk w b vs) (ho : Only S w w') (hS : ¬ S b) : Blk w' b vs := by
  have hlt := h.lt
  obtain ⟨e, h⟩ := h
  exact ⟨e, (ho.block b hlt hS).trans h⟩
/-- Cells written one behind the other. -/
def setAll (vs : List Value) : Nat → List Value → List Value
  | _, [] => vs
  | i, v :: r => setAll (vs.set i v) (i + 1) r
theorem setAll_length : ∀ (us : List Value) (vs : List Value) (i : Nat), (setAll vs i us).length = vs.length
  | [], _, _ => rfl
  | u :: r, vs, i => by rw [setAll, setAll_length r]; simp
theorem setAll_get : ∀ (us vs : List Value) (i j : Nat), i + us.length ≤ vs.length → (setAll vs i us)[j]? = if i ≤ j ∧ j < i + us.length then us[j - i]? else vs[j]?
  | [], vs, i, j, h => by simp [setAll]; intro h1 h2; omega
  | u :: r, vs, i, j, h => by
    have h' : i + (r.length + 1) ≤ vs.length := by simpa using h
    rw [setAll, setAll_get r (vs.set i u) (i + 1) j (by simp only [List.length_set]; omega)]
    have hl : (u :: r).length = r.length + 1 := rfl
    by_cases h1 : i + 1 ≤ j ∧ j < i + 1 + r.length
    · rw [if_pos h1, if_pos (by omega)]
      rw [show j - i = (j - (i + 1)) + 1 by omega]; simp
    · rw [if_neg h1]
      by_cases h2 : i = j
      · subst h2
        rw [if_pos (by omega), List.getElem?_set_self (by omega), Nat.sub_self]
        rfl
      · rw [if_neg (by omega), List.getElem?_set_ne h2]
theorem setAll_eq (us vs : List Value) (i : Nat) (h : i + us.length ≤ vs.length) : setAll vs i us = vs.take i ++ us ++ vs.drop (i + us.length) := by
  apply List.ext_getElem?
  intro j
  rw [setAll_get us vs i j h]
  by_cases h1 : j < i
  · rw [if_neg (by omega), List.append_assoc, List.getElem?_append_left (by simp; omega)]
    simp [h1]
  · by_cases h2 : j < i + us.length
    · rw [if_pos (by omega), List.getElem?_append_left (by simp; omega), List.getElem?_append_right (by simp; omega)]
      simp
      congr 1
      omega
    · rw [if_neg (by omega), List.getElem?_append_right (by simp; omega)]
      simp
      congr 1
      omega
theorem Blk.puts : ∀ (us : List Value) {w : World} {b : Nat} {vs : List Value} (h : Blk w b vs) (o i : Nat), Blk (puts w ⟨b, o, none⟩ i us) b (setAll vs (o + i) us)
  | [], w, b, vs, h, o, i => h
  | u :: r, w, b, vs, h, o, i => by
    unfold Den.puts setAll
    rw [add_mk]
    exact Blk.puts r (h.set (o + i) u) o (i + 1)
end Go.Den

/- Rules for proofs over plain readings: slices whose row is the call's own, append. Conditions: none. -/
set_option linter.unusedVariables false
set_option linter.unusedSimpArgs false
namespace Go.Den
theorem zerosOf_length (zero : List Value) : ∀ n, (zerosOf zero n).length = n * zero.length
  | 0 => by simp [zerosOf]
  | n + 1 => by rw [zerosOf, List.length_append, zerosOf_length zero n, Nat.succ_mul]; omega
theorem row_of_blk {w : World} {b : Nat} {vs : List Value} (h : Blk w b vs) {n : Nat} (hn : vs.length = n) : RowAt w (some ⟨b, 0, none⟩) n vs :=
  ⟨hn, fun _ => ⟨_, rfl, fun j v hv => by rw [add_mk, h.cell, Nat.zero_add]; exact hv⟩⟩
/-! ## Rows of structs -/
/-- The cells of a list of elements. -/
theorem flatMap_get {α : Type} (f : α → List Value) (z : Nat) (hf : ∀ a, (f a).length = z) : ∀ (l : List α) (i j : Nat) (hj : j < z) (a : α), l[i]? = some a → (l.flatMap f)[i * z + j]? = (f a)[j]?
  | [], i, j, hj, a, h => by simp at h
  | b :: r, 0, j, hj, a, h => by
    have : b = a := by simpa using h
    subst this
    rw [List.flatMap_cons, Nat.zero_mul, Nat.zero_add, List.getElem?_append_left (by rw [hf]; exact hj)]
  | b :: r, i + 1, j, hj, a, h => by
    rw [List.flatMap_cons, List.getElem?_append_right (by rw [hf, Nat.succ_mul]; omega), hf, show (i + 1) * z + j - z = i * z + j by rw [Nat.succ_mul]; omega]
    exact flatMap_get f z hf r i j hj a (by simpa using h)
theorem RowAt.cell {w : World} {a : Option Addr} {n : Nat} {vs : List Value} (h : RowAt w a n vs) {i : Nat} {v : Value} (hv : vs[i]? = some v) : ∃ p, a = some p ∧ w.cell? (p.add i) = some v := by
  have hi : i < vs.length := (List.getElem?_eq_some_iff.1 hv).1
  obtain ⟨p, hp, hc⟩ := h.2 (by rw [← h.1]; omega)
  exact ⟨p, hp, hc i v hv⟩
/-- The elements of a row of structs. -/
theorem RowAt.elem {α : Type} {f : α → List Value} {z : Nat} (hf : ∀ a, (f a).length = z) {w : World} {a : Option Addr} {n : Nat} {l : List α} (h : RowAt w a n (l.flatMap f)) {i : Nat} {x : α} (hx : l[i]? = some x) (hz : 0 < z) :
    ∃ p, a = some p ∧ ∀ j v, (f x)[j]? = some v → w.cell? ((p.add (i * z)).add j) = some v := by
  have h0 : 0 < (f x).length := by rw [hf]; exact hz
  obtain ⟨p, hp, _⟩ := h.cell (i := i * z + 0) (v := (f x)[0]) (by rw [flatMap_get f z hf l i 0 hz x hx]; simp)
  refine ⟨p, hp, fun j v hj => ?_⟩
  have hjz : j < z := by have := (List.getElem?_eq_some_iff.1 hj).1; rw [hf] at this; exact this
  rw [add_add]
  obtain ⟨p', hp', hc⟩ := h.cell (i := i * z + j) (v := v) (by rw [flatMap_get f z hf l i j hjz x hx]; exact hj)
  rw [hp] at hp'; cases hp'
  exact hc
end Go.Den

/- Rules for proofs over plain readings: texts. Conditions: none. -/
set_option linter.unusedVariables false
set_option linter.unusedSimpArgs false
namespace Go.Den
theorem strEq_iff {a b : ByteArray} : strEq a b = true ↔ a = b := by
  unfold strEq
  rw [ByteArray.toList_eq, ByteArray.toList_eq]
  constructor
  · intro h
    have h := eq_of_beq h
    cases a; cases b
    simp only [ByteArray.mk.injEq]
    exact Array.toList_inj.1 h
  · rintro rfl; simp
end Go.Den

/- Rules for proofs over plain readings: a cell of one's own row written. Conditions: none. -/
set_option linter.unusedVariables false
set_option linter.unusedSimpArgs false
namespace Go.Den
end Go.Den

/- A law's arguments, opened: what lies in memory, as a value of Lean's. Conditions: none. -/
set_option linter.unusedVariables false
set_option linter.unusedSimpArgs false
namespace Go.Den
open Go.ChangeShapes Go.WideShapes
/-- How a value of a type lies in cells. -/
structure Cod (α : Type) where
  z : Nat
  is : World → List Value → α → Prop
def cInt (k : IntKind) : Cod Int := ⟨1, fun _ cs n => cs = [.int k n] ∧ (Lit.int k n).wf = true⟩
/-- The elements of a slice, in memory. -/
def ElemsAt {α : Type} (c : Cod α) (w : World) (a : Option Addr) (l : List α) : Prop :=
  ∀ i x, l[i]? = some x → ∃ p es, a = some p ∧ es.length = c.z ∧ (∀ j v, es[j]? = some v → w.cell? ((p.add (i * c.z)).add j) = some v) ∧ c.is w es x
def cSlice {α : Type} (c : Cod α) : Cod (List α) := ⟨1, fun w cs l => ∃ a cap, cs = [.slice a l.length cap] ∧ l.length ≤ cap ∧ cap ≤ maxLen ∧ ElemsAt c w a l⟩
section
variable {H : Type} {enc : TypeId × Value → H} {P : Program}
/-- What the model reads at a type is a value of the codec. -/
structure Opens (P : Program) {α : Type} (t : TypeId) (c : Cod α) : Prop where
  at_ : ∀ {H : Type} (enc : TypeId × Value → H) (w : World) (fuel : Nat) (cs : List Value) (x : DataW H × List MemPlace), DataW.trod enc P w 0 (fun _ => true) true fuel t cs = some x → cs.length = c.z ∧ ∃ a, c.is w cs a
theorem opens_int {t : TypeId} {k : IntKind} (h : P.underlying t = some (.int k)) : Opens P t (cInt k) := by
  refine ⟨fun {H} enc w fuel cs x hx => ?_⟩
  obtain ⟨n, rfl, _, hw⟩ := DataW.trod_int h hx
  exact ⟨rfl, n, rfl, hw⟩
theorem exists_list {α : Type} {Q : Nat → α → Prop} : ∀ (n : Nat), (∀ i, i < n → ∃ x, Q i x) → ∃ l : List α, l.length = n ∧ ∀ i x, l[i]? = some x → Q i x
  | 0, _ => ⟨[], rfl, fun i x h => by simp at h⟩
  | n + 1, h => by
    obtain ⟨l, hl, hq⟩ := exists_list n (fun i hi => h i (by omega))
    obtain ⟨y, hy⟩ := h n (by omega)
    refine ⟨l ++ [y], by simp [hl], fun i x hx => ?_⟩
    by_cases hi : i < l.length
    · rw [List.getElem?_append_left hi] at hx; exact hq i x hx
    · rw [List.getElem?_append_right (by omega)] at hx
      have : i - l.length = 0 := by
        have := (List.getElem?_eq_some_iff.1 hx).1
        simp at this; omega
      rw [this] at hx
      simp at hx
      subst hx
      rw [show i = n by omega]; exact hy
theorem opens_slice {α : Type} {t e : TypeId} {c : Cod α} (ht : P.underlying t = some (.slice e)) (hz : P.cellsOf e = c.z) (he : Opens P e c) : Opens P t (cSlice c) := by
  refine ⟨fun {H} enc w fuel cs x hx => ?_⟩
  rcases Deep.open_slice ht hx with ⟨rfl, _⟩ | ⟨a, len, cap, m, n, D, Pl, rfl, _, hl, hm, hmm, _, hel⟩
  · exact ⟨rfl, [], none, 0, rfl, Nat.le_refl _, Nat.zero_le _, fun i x h => by simp at h⟩
  · refine ⟨rfl, ?_⟩
    have hm' : m = cap := by rw [hmm]; rfl
    obtain ⟨l, hll, hq⟩ := exists_list (Q := fun i x => ∃ es, es.length = c.z ∧ (∀ j v, es[j]? = some v → w.cell? ((a.add (i * c.z)).add j) = some v) ∧ c.is w es x) len (fun i hi => by
      obtain ⟨es, h1, h2⟩ := hel i (by omega)
      obtain ⟨_, h3, h4⟩ := World.cells?_some h1
      obtain ⟨h5, y, h6⟩ := he.at_ enc w n es _ h2
      refine ⟨y, es, h5, fun j v hj => ?_, h6⟩
      have hj' := (List.getElem?_eq_some_iff.1 hj).1
      rw [hz] at h4 h3
      rw [h4 j (by omega), hj])
    refine ⟨l, some a, cap, by rw [hll], by omega, hm, fun i x hx => ?_⟩
    obtain ⟨es, h⟩ := hq i x hx
    exact ⟨a, es, rfl, h⟩
end
end Go.Den
namespace Go.Den
end Go.Den

/- Rules for proofs over plain readings: sets of whole numbers, kept as maps to bool. Conditions: none. -/
set_option linter.unusedVariables false
set_option linter.unusedSimpArgs false
namespace Go.Den
end Go.Den

/- Rules for the law's own functions: copying field by field, rows of structs written element by element. Conditions: none. -/
set_option linter.unusedVariables false
set_option linter.unusedSimpArgs false
namespace Go.Den
end Go.Den

/- Go's data as trees: how they lie in memory, lent or owned; their sizes; what has been marked. Conditions: none. -/
set_option linter.unusedVariables false
set_option linter.unusedSimpArgs false
namespace Go.Den
inductive Dat where
  | int (k : IntKind) (n : Int)
  | bool (b : Bool)
  | str (s : ByteArray)
  | st (fs : List Dat)
  | sl (z : Nat) (l : List Dat)
/-! ## Lent -/
mutual
def IsD (w : World) : Dat → List Value → Prop
  | .int k n, cs => cs = [.int k n] ∧ (Lit.int k n).wf = true
  | .bool b, cs => cs = [.bool b]
  | .str s, cs => cs = [.string s] ∧ s.size ≤ maxLen
  | .st fs, cs => IsF w fs cs
  | .sl z l, cs => ∃ a cap, cs = [.slice a l.length cap] ∧ l.length ≤ cap ∧ l.length ≤ maxLen ∧ IsE w z a l 0
def IsF (w : World) : List Dat → List Value → Prop
  | [], cs => cs = []
  | d :: r, cs => ∃ c1 c2, cs = c1 ++ c2 ∧ IsD w d c1 ∧ IsF w r c2
def IsE (w : World) (z : Nat) (a : Option Addr) : List Dat → Nat → Prop
  | [], _ => True
  | d :: r, i => (∃ p es, a = some p ∧ es.length = z ∧ (∀ j v, es[j]? = some v → w.cell? ((p.add (i * z)).add j) = some v) ∧ IsD w d es) ∧ IsE w z a r (i + 1)
end
theorem IsE.get {w : World} {z : Nat} {a : Option Addr} : ∀ {l : List Dat} {i : Nat}, IsE w z a l i → ∀ {j : Nat} {d : Dat}, l[j]? = some d → ∃ p es, a = some p ∧ es.length = z ∧ (∀ m v, es[m]? = some v → w.cell? ((p.add ((i + j) * z)).add m) = some v) ∧ IsD w d es
  | [], i, h, j, d, hj => by simp at hj
  | x :: r, i, h, 0, d, hj => by
    unfold IsE at h
    simp at hj; subst hj
    exact h.1
  | x :: r, i, h, j + 1, d, hj => by
    unfold IsE at h
    have := IsE.get h.2 (j := j) (d := d) (by simpa using hj)
    rwa [show i + 1 + j = i + (j + 1) by omega] at this
theorem IsE.mk {w : World} {z : Nat} {a : Option Addr} : ∀ {l : List Dat} {i : Nat}, (∀ j d, l[j]? = some d → ∃ p es, a = some p ∧ es.length = z ∧ (∀ m v, es[m]? = some v → w.cell? ((p.add ((i + j) * z)).add m) = some v) ∧ IsD w d es) → IsE w z a l i
  | [], i, h => by unfold IsE; trivial
  | x :: r, i, h => by
    unfold IsE
    refine ⟨h 0 x rfl, IsE.mk (fun j d hj => ?_)⟩
    rw [show i + 1 + j = i + (j + 1) by omega]
    exact h (j + 1) d (by simpa using hj)
/-! ## Owned: bs are all blocks that are reached -/
end Go.Den
namespace Go.Den
/-! ## How many -/
/-! How many marks, in an element. -/
/-! How many marks, handed by value. -/
/-! ## Marked, from k on -/
/-! ## One element of many -/
end Go.Den

/- Rules for the laws' own functions over trees: copies made element by element. Conditions: none. -/
set_option linter.unusedVariables false
set_option linter.unusedSimpArgs false
namespace Go.Den
/-! ## A slice that is lent -/
theorem isD_sl {w : World} {z : Nat} {l : List Dat} {s : Sl} (h : IsD w (.sl z l) [.slice s.a s.len s.cap]) : s.len = l.length ∧ l.length ≤ maxLen ∧ IsE w z s.a l 0 := by
  unfold IsD at h
  obtain ⟨a, cap, h1, h2, h3, h4⟩ := h
  simp only [List.cons.injEq, Value.slice.injEq, and_true] at h1
  obtain ⟨rfl, h5, rfl⟩ := h1
  exact ⟨h5, h3, h4⟩
theorem isD_at {w : World} {z : Nat} {l : List Dat} {s : Sl} (h : IsD w (.sl z l) [.slice s.a s.len s.cap]) {i : Nat} {d : Dat} (hd : l[i]? = some d) : ∃ p es, s.a = some p ∧ es.length = z ∧ (∀ m v, es[m]? = some v → w.cell? ((p.add (i * z)).add m) = some v) ∧ IsD w d es := by
  obtain ⟨_, _, h4⟩ := isD_sl h
  obtain ⟨p, es, h1, h2, h3, h5⟩ := h4.get hd
  rw [Nat.zero_add] at h3
  exact ⟨p, es, h1, h2, h3, h5⟩
/-! ## Marks in one's own row -/
end Go.Den

/- Steps of proofs over plain readings; rules for the laws' own functions, more. Conditions: none. -/
set_option linter.unusedVariables false
set_option linter.unusedSimpArgs false
namespace Go.Den
/-! ## Steps -/
/-! ## Trees in blocks of a range -/
theorem isD_int {w : World} {k : IntKind} {n : Int} {cs : List Value} (h : IsD w (.int k n) cs) : cs = [.int k n] ∧ (Lit.int k n).wf = true := by unfold IsD at h; exact h
/-! ## Marks: the fields of an element, one behind the other -/
end Go.Den
namespace Go.Den
end Go.Den
namespace Go.Den
/-! ## The mark that the laws write into a text -/
/-! ## Marked trees -/
end Go.Den
namespace Go.Den
end Go.Den

/- From a law's arguments, opened, to trees; rows of flat structs. Conditions: none. -/
set_option linter.unusedVariables false
set_option linter.unusedSimpArgs false
namespace Go.Den
theorem isD_mkInt {w : World} {k : IntKind} {cs : List Value} {n : Int} (h : (cInt k).is w cs n) : IsD w (.int k n) cs := by unfold IsD; exact h
theorem isD_mkSl {α : Type} {c : Cod α} {f : α → Dat} {w : World} {cs : List Value} {l : List α} (h : (cSlice c).is w cs l) (hf : ∀ es x, c.is w es x → IsD w (f x) es) : IsD w (.sl c.z (l.map f)) cs := by
  obtain ⟨a, cap, rfl, h2, h3, h4⟩ := h
  unfold IsD
  refine ⟨a, cap, by simp, by simpa using h2, by simp; omega, IsE.mk (fun j d hj => ?_)⟩
  rw [List.getElem?_map] at hj
  obtain ⟨x, hx, rfl⟩ : ∃ x, l[j]? = some x ∧ f x = d := by
    cases hx : l[j]? with
    | none => rw [hx] at hj; cases hj
    | some x => rw [hx] at hj; exact ⟨x, rfl, by simpa using hj⟩
  obtain ⟨p, es, h5, h6, h7, h8⟩ := h4 j x hx
  exact ⟨p, es, h5, h6, by rw [Nat.zero_add]; exact h7, hf es x h8⟩
/-- The elements of a lent slice, one by one, at their places. -/
theorem isD_elem {α : Type} {f : α → Dat} {w : World} {z : Nat} {l : List α} {s : Sl} (h : IsD w (.sl z (l.map f)) [.slice s.a s.len s.cap]) {i : Nat} {x : α} (hx : l[i]? = some x) : ∃ p es, s.a = some p ∧ es.length = z ∧ (∀ m v, es[m]? = some v → w.cell? ((p.add (i * z)).add m) = some v) ∧ IsD w (f x) es :=
  isD_at h (by rw [List.getElem?_map, hx]; rfl)
theorem isD_len {α : Type} {f : α → Dat} {w : World} {z : Nat} {l : List α} {s : Sl} (h : IsD w (.sl z (l.map f)) [.slice s.a s.len s.cap]) : s.len = l.length ∧ l.length ≤ maxLen := by
  have := isD_sl h
  rw [List.length_map] at this
  exact ⟨this.1, this.2.1⟩
end Go.Den
namespace Go.Den
end Go.Den

/- Trees handed by value: owned and marked, small facts. Conditions: none. -/
set_option linter.unusedVariables false
set_option linter.unusedSimpArgs false
namespace Go.Den
open Go
end Go.Den

/- Bits of 64-bit words, rows of bytes. Conditions: none. -/
set_option linter.unusedVariables false
set_option linter.unusedSimpArgs false
namespace Go.Den
open Go
theorem bv_nat {y : Int} (h0 : 0 ≤ y) (h1 : y < 18446744073709551616) : (BitVec.ofInt 64 y).toNat = y.toNat := by
  rw [BitVec.toNat_ofInt]
  have : y % ((2 ^ 64 : Nat) : Int) = y := Int.emod_eq_of_lt h0 (by simpa using h1)
  rw [this]
theorem andI_mask {y : Int} (k : Nat) (hk : k ≤ 62) (h0 : 0 ≤ y) (h1 : y < 18446744073709551616) : andI .u64 y ((2 ^ k - 1 : Nat) : Int) = y % ((2 ^ k : Nat) : Int) := by
  have hp : 2 ^ k ≤ 2 ^ 62 := Nat.pow_le_pow_right (by omega) hk
  have hp1 : 1 ≤ 2 ^ k := Nat.one_le_two_pow
  unfold andI
  show IntKind.u64.wrap ((BitVec.ofInt 64 y &&& BitVec.ofInt 64 ((2 ^ k - 1 : Nat) : Int)).toNat : Int) = _
  rw [BitVec.toNat_and, bv_nat h0 h1, bv_nat (by omega) (by omega), Int.toNat_natCast, Nat.and_two_pow_sub_one_eq_mod]
  obtain ⟨n, rfl⟩ := Int.eq_ofNat_of_zero_le h0
  have := Nat.mod_lt n (show 0 < 2 ^ k by omega)
  rw [Int.toNat_natCast, ← Int.natCast_emod, wu64 (by omega) (by omega)]
theorem andI_one {y : Int} (h0 : 0 ≤ y) (h1 : y < 18446744073709551616) : andI .u64 y 1 = y % 2 := andI_mask 1 (by omega) h0 h1
theorem shrI_u64 {y : Int} {n : Nat} (hn : n ≤ 63) : shrI .u64 y (n : Int) = y / ((2 ^ n : Nat) : Int) := by
  unfold shrI
  rw [Int.toNat_natCast, show min n (IntKind.u64.bits) = n from Nat.min_eq_left (by show n ≤ 64; omega)]
  rw [Int.fdiv_eq_ediv_of_nonneg _ (by exact_mod_cast Nat.zero_le _)]
  norm_cast
theorem shrI_one {y : Int} : shrI .u64 y 1 = y / 2 := shrI_u64 (n := 1) (by omega)
theorem xorI_rng (a b : Int) : 0 ≤ xorI .u64 a b ∧ xorI .u64 a b < 18446744073709551616 := by
  unfold xorI
  rw [IntKind.wrap_u64]
  omega
end Go.Den

/- Memory in parts: what a call owns, as a list of assertions over blocks. Conditions: none. -/
set_option linter.unusedVariables false
set_option linter.unusedSimpArgs false
namespace Go.Den
open Go
/-- Blocks and what is in them. -/
inductive BV where
  | c (vs : List Value)
  | m (kvs : List (Value × Value))
def BVAt (w : World) (b : Nat) : BV → Prop
  | .c vs => Blk w b vs
  | .m kvs => ∃ es k, w.heap[b]? = some (.map ⟨es⟩ k) ∧ es.map (fun e => (e.key, e.val)) = kvs
theorem BVAt.lt {w : World} {b : Nat} {v : BV} (h : BVAt w b v) : b < w.heap.size := by
  cases v with
  | c vs => exact Blk.lt h
  | m kvs => obtain ⟨es, k, h, _⟩ := h; exact (Array.getElem?_eq_some_iff.1 h).1
theorem BVAt.only {S : Nat → Prop} {w w' : World} {b : Nat} {v : BV} (h : BVAt w b v) (o : Only S w w') (hS : ¬ S b) : BVAt w' b v := by
  have hlt := h.lt
  cases v with
  | c vs => exact Blk.only h o hS
  | m kvs => obtain ⟨es, k, h, h2⟩ := h; exact ⟨es, k, (o.block b hlt hS).trans h, h2⟩
theorem BVAt.ext {w w' : World} {b : Nat} {v : BV} (h : BVAt w b v) (e : Ext w w') : BVAt w' b v := h.only e id
abbrev HL := List (Nat × BV)
abbrev Asr := HL → Prop
structure Sat (w0 w : World) (H : HL) : Prop where
  ext : Ext w0 w
  blk : ∀ x, x ∈ H → BVAt w x.1 x.2
  nd : (H.map (·.1)).Nodup
  own : ∀ x, x ∈ H → w0.heap.size ≤ x.1
theorem Sat.perm {w0 w : World} {H H' : HL} (h : Sat w0 w H) (p : H.Perm H') : Sat w0 w H' :=
  ⟨h.ext, fun x hx => h.blk x (p.mem_iff.2 hx), (p.map _).nodup_iff.1 h.nd, fun x hx => h.own x (p.mem_iff.2 hx)⟩
theorem Sat.lt {w0 w : World} {H : HL} (h : Sat w0 w H) {b : Nat} (hb : b ∈ H.map (·.1)) : b < w.heap.size := by
  obtain ⟨x, hx, rfl⟩ := List.mem_map.1 hb
  exact (h.blk x hx).lt
theorem Sat.upd {w0 w w' : World} {H1 H2 H1' : HL} {S : Nat → Prop} (h : Sat w0 w (H1 ++ H2)) (o : Only S w w') (hS : ∀ k, k < w.heap.size → S k → k ∈ H1.map (·.1)) (hH : ∀ x, x ∈ H1' → BVAt w' x.1 x.2) (hn : (H1'.map (·.1)).Nodup)
    (hk : ∀ x, x ∈ H1' → x.1 ∈ H1.map (·.1) ∨ w.heap.size ≤ x.1) : Sat w0 w' (H1' ++ H2) := by
  have hnd := h.nd
  rw [List.map_append, List.nodup_append] at hnd
  have h2lt : ∀ x, x ∈ H2 → x.1 < w.heap.size := fun x hx => h.lt (List.mem_map.2 ⟨x, List.mem_append_right _ hx, rfl⟩)
  have he := h.ext.size
  refine ⟨h.ext.step o (fun i hi hs => ?_), fun x hx => ?_, ?_, fun x hx => ?_⟩
  · obtain ⟨x, hx, rfl⟩ := List.mem_map.1 (hS i (by omega) hs)
    have := h.own x (List.mem_append_left _ hx)
    omega
  · rcases List.mem_append.1 hx with hx | hx
    · exact hH x hx
    · refine (h.blk x (List.mem_append_right _ hx)).only o (fun hs => ?_)
      exact hnd.2.2 _ (hS _ (h2lt x hx) hs) _ (List.mem_map.2 ⟨x, hx, rfl⟩) rfl
  · rw [List.map_append, List.nodup_append]
    refine ⟨hn, hnd.2.1, fun a ha b hb hab => ?_⟩
    obtain ⟨x, hx, rfl⟩ := List.mem_map.1 ha
    obtain ⟨y, hy, rfl⟩ := List.mem_map.1 hb
    rcases hk x hx with hk | hk
    · exact hnd.2.2 _ hk _ (List.mem_map.2 ⟨y, hy, rfl⟩) hab
    · have := h2lt y hy; omega
  · rcases List.mem_append.1 hx with hx | hx
    · rcases hk x hx with hk | hk
      · obtain ⟨y, hy, hyx⟩ := List.mem_map.1 hk
        rw [← hyx]; exact h.own y (List.mem_append_left _ hy)
      · omega
    · exact h.own x (List.mem_append_right _ hx)
theorem Sat.ext' {w0 w w' : World} {H : HL} (h : Sat w0 w H) (e : Ext w w') : Sat w0 w' H :=
  ⟨Only.trans h.ext e, fun x hx => (h.blk x hx).ext e, h.nd, h.own⟩
def All : List Asr → Asr
  | [], H => H = []
  | A :: r, H => ∃ H1 H2, H = H1 ++ H2 ∧ A H1 ∧ All r H2
def SH (w0 w : World) (As : List Asr) : Prop := ∃ H, All As H ∧ Sat w0 w H
theorem SH.start (w : World) : SH w w [] := ⟨[], rfl, Only.refl _ _, (fun x hx => by cases hx), List.nodup_nil, (fun x hx => by cases hx)⟩
theorem SH.ext {w0 w : World} {As : List Asr} (h : SH w0 w As) : Ext w0 w := by obtain ⟨H, _, h⟩ := h; exact h.ext
theorem SH.to {w0 w w' : World} {As : List Asr} (h : SH w0 w As) (e : Ext w w') : SH w0 w' As := by obtain ⟨H, h1, h2⟩ := h; exact ⟨H, h1, h2.ext' e⟩
theorem SH.drew {w0 w : World} {As : List Asr} (h : SH w0 w As) : SH w0 w.drew As := h.to (ext_drew w)
theorem All.perm {As Bs : List Asr} (p : As.Perm Bs) : ∀ {H : HL}, All As H → ∃ H', H.Perm H' ∧ All Bs H' := by
  induction p with
  | nil => intro H h; exact ⟨H, List.Perm.refl _, h⟩
  | cons A p ih =>
    intro H h
    obtain ⟨H1, H2, rfl, h1, h2⟩ := h
    obtain ⟨H3, p3, h3⟩ := ih h2
    exact ⟨H1 ++ H3, p3.append_left _, H1, H3, rfl, h1, h3⟩
  | swap A B r =>
    intro H h
    obtain ⟨H1, H2, rfl, h1, H3, H4, rfl, h3, h4⟩ := h
    refine ⟨H3 ++ (H1 ++ H4), ?_, H3, _, rfl, h3, H1, H4, rfl, h1, h4⟩
    rw [← List.append_assoc, ← List.append_assoc]
    exact List.perm_append_comm.append_right _
  | trans p q ih1 ih2 =>
    intro H h
    obtain ⟨H1, p1, h1⟩ := ih1 h
    obtain ⟨H2, p2, h2⟩ := ih2 h1
    exact ⟨H2, p1.trans p2, h2⟩
theorem SH.perm {w0 w : World} {As Bs : List Asr} (h : SH w0 w As) (p : As.Perm Bs) : SH w0 w Bs := by
  obtain ⟨H, h1, h2⟩ := h
  obtain ⟨H', p', h3⟩ := All.perm p h1
  exact ⟨H', h3, h2.perm p'⟩
theorem SH.p1 {w0 w : World} {A B : Asr} {F : List Asr} (h : SH w0 w (A :: B :: F)) : SH w0 w (B :: A :: F) := h.perm (List.Perm.swap _ _ _)
theorem Sat.left {w0 w : World} {H1 H2 : HL} (h : Sat w0 w (H1 ++ H2)) : Sat w0 w H2 := by
  have hnd := h.nd
  rw [List.map_append, List.nodup_append] at hnd
  exact ⟨h.ext, fun x hx => h.blk x (List.mem_append_right _ hx), hnd.2.1, fun x hx => h.own x (List.mem_append_right _ hx)⟩
theorem SH.drop {w0 w : World} {A : Asr} {F : List Asr} (h : SH w0 w (A :: F)) : SH w0 w F := by
  obtain ⟨H, ⟨H1, H2, rfl, h1, h2⟩, h3⟩ := h
  exact ⟨H2, h2, h3.left⟩
theorem All.app : ∀ {As Bs : List Asr} {H1 H2 : HL}, All As H1 → All Bs H2 → All (As ++ Bs) (H1 ++ H2)
  | [], Bs, H1, H2, h1, h2 => by cases h1; exact h2
  | A :: As, Bs, H1, H2, h1, h2 => by
    obtain ⟨H3, H4, rfl, h3, h4⟩ := h1
    exact ⟨H3, H4 ++ H2, by simp, h3, All.app h4 h2⟩
/-- What a call has made besides. -/
theorem SH.seq {w0 w w' : World} {F G : List Asr} (h : SH w0 w F) (g : SH w w' G) : SH w0 w' (G ++ F) := by
  obtain ⟨H, h1, h2⟩ := h
  obtain ⟨H', g1, g2⟩ := g
  refine ⟨H' ++ H, All.app g1 h1, Only.trans h2.ext g2.ext, fun x hx => ?_, ?_, fun x hx => ?_⟩
  · rcases List.mem_append.1 hx with hx | hx
    · exact g2.blk x hx
    · exact (h2.blk x hx).ext g2.ext
  · rw [List.map_append, List.nodup_append]
    refine ⟨g2.nd, h2.nd, fun a ha b hb hab => ?_⟩
    obtain ⟨x, hx, rfl⟩ := List.mem_map.1 ha
    have := g2.own x hx
    have := h2.lt hb
    omega
  · rcases List.mem_append.1 hx with hx | hx
    · have := g2.own x hx; have := h2.ext.size; omega
    · exact h2.own x hx
/-! ## Trees in blocks -/
inductive Ce where
  | v (x : Value)
  | sl (z : Nat) (l : List (List Ce))
mutual
/-- A cell and the blocks behind it. -/
def TC : Ce → HL → Value → Prop
  | .v x, H, c => H = [] ∧ c = x
  | .sl z l, H, c => ∃ s : Sl, c = .slice s.a s.len s.cap ∧ s.len = l.length ∧ s.len ≤ s.cap ∧ ((s.cap = 0 ∧ H = []) ∨ ∃ b cs H', s.a = some ⟨b, 0, none⟩ ∧ H = (b, .c cs) :: H' ∧ cs.length = s.cap * z ∧ TE z l H' cs)
def TL : List Ce → HL → List Value → Prop
  | [], H, cs => H = [] ∧ cs = []
  | a :: r, H, cs => ∃ H1 H2 c c2, H = H1 ++ H2 ∧ cs = c :: c2 ∧ TC a H1 c ∧ TL r H2 c2
def TE (z : Nat) : List (List Ce) → HL → List Value → Prop
  | [], H, cs => H = []
  | e :: r, H, cs => ∃ H1 H2 c1 c2, H = H1 ++ H2 ∧ cs = c1 ++ c2 ∧ c1.length = z ∧ TL e H1 c1 ∧ TE z r H2 c2
end
/-- A row of elements, under a header. -/
def aRow (s : Sl) (z : Nat) (l : List (List Ce)) : Asr := fun H => s.len = l.length ∧ s.len ≤ s.cap ∧ ((s.cap = 0 ∧ H = []) ∨ ∃ b cs H', s.a = some ⟨b, 0, none⟩ ∧ H = (b, .c cs) :: H' ∧ cs.length = s.cap * z ∧ TE z l H' cs)
def aB (b : Nat) (l : List Ce) : Asr := fun H => ∃ cs H', H = (b, .c cs) :: H' ∧ TL l H' cs
theorem TC_v {x : Value} {H : HL} {c : Value} : TC (.v x) H c ↔ H = [] ∧ c = x := by unfold TC; exact Iff.rfl
theorem TL_nil {H : HL} {cs : List Value} : TL [] H cs ↔ H = [] ∧ cs = [] := by unfold TL; exact Iff.rfl
theorem TL_cons {a : Ce} {r : List Ce} {H : HL} {cs : List Value} : TL (a :: r) H cs ↔ ∃ H1 H2 c c2, H = H1 ++ H2 ∧ cs = c :: c2 ∧ TC a H1 c ∧ TL r H2 c2 := by rw [TL.eq_def]
theorem TE_nil {z : Nat} {H : HL} {cs : List Value} : TE z [] H cs ↔ H = [] := by rw [TE.eq_def]
theorem TE_cons {z : Nat} {e : List Ce} {r : List (List Ce)} {H : HL} {cs : List Value} : TE z (e :: r) H cs ↔ ∃ H1 H2 c1 c2, H = H1 ++ H2 ∧ cs = c1 ++ c2 ∧ c1.length = z ∧ TL e H1 c1 ∧ TE z r H2 c2 := by rw [TE.eq_def]
theorem TL.raw : ∀ (vs : List Value), TL (vs.map Ce.v) [] vs
  | [] => TL_nil.2 ⟨rfl, rfl⟩
  | v :: r => TL_cons.2 ⟨[], [], v, r, rfl, rfl, TC_v.2 ⟨rfl, rfl⟩, TL.raw r⟩
theorem TL.ofRaw : ∀ {vs : List Value} {H : HL} {cs : List Value}, TL (vs.map Ce.v) H cs → H = [] ∧ cs = vs
  | [], H, cs, h => TL_nil.1 h
  | v :: r, H, cs, h => by
    obtain ⟨H1, H2, c, c2, rfl, rfl, h1, h2⟩ := TL_cons.1 h
    obtain ⟨rfl, rfl⟩ := TC_v.1 h1
    obtain ⟨rfl, rfl⟩ := TL.ofRaw h2
    exact ⟨rfl, rfl⟩
/-- One cell of many. -/
theorem TL.at : ∀ {l : List Ce} {H : HL} {cs : List Value}, TL l H cs → ∀ {i : Nat} {a : Ce}, l[i]? = some a →
    ∃ H1 Ha H2 c, H = H1 ++ (Ha ++ H2) ∧ cs[i]? = some c ∧ TC a Ha c ∧ ∀ a' Ha' c', TC a' Ha' c' → TL (l.set i a') (H1 ++ (Ha' ++ H2)) (cs.set i c')
  | [], H, cs, h, i, a, hi => by simp at hi
  | b :: r, H, cs, h, 0, a, hi => by
    simp at hi; subst hi
    obtain ⟨H1, H2, c, c2, rfl, rfl, h1, h2⟩ := TL_cons.1 h
    exact ⟨[], H1, H2, c, rfl, rfl, h1, fun a' Ha' c' h' => TL_cons.2 ⟨Ha', H2, c', c2, rfl, rfl, h', h2⟩⟩
  | b :: r, H, cs, h, i + 1, a, hi => by
    obtain ⟨H1, H2, c, c2, rfl, rfl, h1, h2⟩ := TL_cons.1 h
    obtain ⟨G1, Ga, G2, d, rfl, h3, h4, h5⟩ := TL.at h2 (i := i) (a := a) (by simpa using hi)
    exact ⟨H1 ++ G1, Ga, G2, d, by simp, by simpa using h3, h4, fun a' Ha' c' h' => TL_cons.2 ⟨H1, _, c, _, by simp, rfl, h1, h5 a' Ha' c' h'⟩⟩
/-- One element of many. -/
theorem TE.at {z : Nat} : ∀ {l : List (List Ce)} {H : HL} {cs : List Value}, TE z l H cs → ∀ {k : Nat} {e : List Ce}, l[k]? = some e →
    ∃ H1 He H2 c1 ce c2, H = H1 ++ (He ++ H2) ∧ cs = c1 ++ (ce ++ c2) ∧ c1.length = k * z ∧ ce.length = z ∧ TL e He ce ∧ ∀ e' He' ce', TL e' He' ce' → ce'.length = z → TE z (l.set k e') (H1 ++ (He' ++ H2)) (c1 ++ (ce' ++ c2))
  | [], H, cs, h, k, e, hi => by simp at hi
  | b :: r, H, cs, h, 0, e, hi => by
    simp at hi; subst hi
    obtain ⟨H1, H2, c1, c2, rfl, rfl, h1, h2, h3⟩ := TE_cons.1 h
    exact ⟨[], H1, H2, [], c1, c2, rfl, rfl, by simp, h1, h2, fun e' He' ce' h' hl => TE_cons.2 ⟨He', H2, ce', c2, rfl, rfl, hl, h', h3⟩⟩
  | b :: r, H, cs, h, k + 1, e, hi => by
    obtain ⟨H1, H2, c1, c2, rfl, rfl, h1, h2, h3⟩ := TE_cons.1 h
    obtain ⟨G1, Ge, G2, d1, de, d2, rfl, rfl, h4, h5, h6, h7⟩ := TE.at h3 (k := k) (e := e) (by simpa using hi)
    refine ⟨H1 ++ G1, Ge, G2, c1 ++ d1, de, d2, by simp, by simp, by rw [List.length_append, h1, h4, Nat.succ_mul]; omega, h5, h6, fun e' He' ce' h' hl => TE_cons.2 ⟨H1, _, c1, _, by simp, by simp, h1, h2, h7 e' He' ce' h' hl⟩⟩
theorem TE.le {z : Nat} : ∀ {l : List (List Ce)} {H : HL} {cs : List Value}, TE z l H cs → l.length * z ≤ cs.length
  | [], H, cs, h => by simp
  | e :: r, H, cs, h => by
    obtain ⟨H1, H2, c1, c2, rfl, rfl, h1, h2, h3⟩ := TE_cons.1 h
    have := h3.le
    rw [List.length_append, List.length_cons, Nat.succ_mul, h1]; omega
theorem TE.cut {z : Nat} : ∀ {l : List (List Ce)} {H : HL} {cs us : List Value}, TE z l H cs → cs.take (l.length * z) = us.take (l.length * z) → TE z l H us
  | [], H, cs, us, h, he => TE_nil.2 (TE_nil.1 h)
  | e :: r, H, cs, us, h, he => by
    obtain ⟨H1, H2, c1, c2, rfl, rfl, h1, h2, h3⟩ := TE_cons.1 h
    have hle := h3.le
    simp only [List.length_cons, Nat.succ_mul] at he
    have e1 : us.take z = c1 := by
      have := congrArg (List.take z) he
      rw [List.take_take, List.take_take, Nat.min_eq_left (by omega), ← h1, List.take_left] at this
      rw [← h1]; exact this.symm
    have e2 : c2.take (r.length * z) = (us.drop z).take (r.length * z) := by
      have := congrArg (List.drop z) he
      rw [List.drop_take, List.drop_take, show r.length * z + z - z = r.length * z by omega] at this
      rw [← this, ← h1, List.drop_left]
    exact TE_cons.2 ⟨H1, H2, c1, us.drop z, rfl, by rw [← e1, List.take_append_drop], h1, h2, h3.cut e2⟩
theorem TE.app {z : Nat} : ∀ {l r : List (List Ce)} {H1 H2 : HL} {c1 c2 : List Value}, TE z l H1 c1 → c1.length = l.length * z → TE z r H2 c2 → TE z (l ++ r) (H1 ++ H2) (c1 ++ c2)
  | [], r, H1, H2, c1, c2, h, hl, h2 => by
    obtain rfl := TE_nil.1 h
    have : c1 = [] := List.eq_nil_of_length_eq_zero (by simpa using hl)
    subst this
    simpa using h2
  | e :: l, r, H1, H2, c1, c2, h, hl, h2 => by
    obtain ⟨G1, G2, d1, d2, rfl, rfl, h3, h4, h5⟩ := TE_cons.1 h
    rw [List.length_append, List.length_cons, Nat.succ_mul, h3] at hl
    rw [List.cons_append]
    exact TE_cons.2 ⟨G1, G2 ++ H2, d1, d2 ++ c2, by simp, by simp, h3, h4, h5.app (by omega) h2⟩
theorem TE.raw {z : Nat} : ∀ (ys : List (List Value)), (∀ y, y ∈ ys → y.length = z) → ∀ r, TE z (ys.map (·.map Ce.v)) [] (ys.flatten ++ r)
  | [], h, r => TE_nil.2 rfl
  | y :: ys, h, r => TE_cons.2 ⟨[], [], y, ys.flatten ++ r, rfl, by simp, h y (by simp), TL.raw y, TE.raw ys (fun x hx => h x (by simp [hx])) r⟩
theorem TE.ofRaw {z : Nat} : ∀ {ys : List (List Value)} {H : HL} {cs : List Value}, TE z (ys.map (·.map Ce.v)) H cs → H = [] ∧ cs.take (ys.length * z) = ys.flatten
  | [], H, cs, h => ⟨TE_nil.1 h, by simp⟩
  | y :: ys, H, cs, h => by
    obtain ⟨G1, G2, d1, d2, rfl, rfl, h3, h4, h5⟩ := TE_cons.1 h
    obtain ⟨rfl, rfl⟩ := TL.ofRaw h4
    obtain ⟨rfl, h6⟩ := TE.ofRaw h5
    refine ⟨rfl, ?_⟩
    rw [List.length_cons, Nat.succ_mul, List.flatten_cons, ← h6, Nat.add_comm, ← h3, List.take_length_add_append]
end Go.Den

/- Steps over memory in parts. Conditions: none. -/
set_option linter.unusedVariables false
set_option linter.unusedSimpArgs false
namespace Go.Den
open Go
theorem SH.cut {w0 w : World} {A : Asr} {F : List Asr} (h : SH w0 w (A :: F)) : ∃ H1 H2, A H1 ∧ All F H2 ∧ Sat w0 w (H1 ++ H2) := by
  obtain ⟨H, ⟨H1, H2, rfl, h1, h2⟩, h3⟩ := h
  exact ⟨H1, H2, h1, h2, h3⟩
theorem SH.mk {w0 w : World} {A : Asr} {F : List Asr} {H1 H2 : HL} (h1 : A H1) (h2 : All F H2) (h : Sat w0 w (H1 ++ H2)) : SH w0 w (A :: F) := ⟨H1 ++ H2, ⟨H1, H2, rfl, h1, h2⟩, h⟩
theorem perm_front {α : Type _} : ∀ {As : List α} {n : Nat} {A : α}, As[n]? = some A → As.Perm (A :: As.eraseIdx n)
  | [], n, A, h => by simp at h
  | B :: r, 0, A, h => by simp at h; subst h; exact List.Perm.refl _
  | B :: r, n + 1, A, h => ((perm_front (As := r) (n := n) (by simpa using h)).cons B).trans (List.Perm.swap _ _ _)
theorem set_perm {α : Type _} : ∀ {As : List α} {n : Nat} {A B : α}, As[n]? = some A → (B :: As.eraseIdx n).Perm (As.set n B)
  | [], n, A, B, h => by simp at h
  | C :: r, 0, A, B, h => List.Perm.refl _
  | C :: r, n + 1, A, B, h => (List.Perm.swap _ _ _).trans ((set_perm (As := r) (n := n) (by simpa using h)).cons C)
/-- The assertion with this number, to the front. -/
theorem SH.front {w0 w : World} {As : List Asr} (h : SH w0 w As) {n : Nat} {A : Asr} (hA : As[n]? = some A) : SH w0 w (A :: As.eraseIdx n) := h.perm (perm_front hA)
/-! ## A block -/
theorem aB_raw {b : Nat} {vs : List Value} {H : HL} : aB b (vs.map Ce.v) H ↔ H = [(b, .c vs)] := by
  constructor
  · rintro ⟨cs, H', rfl, h⟩
    obtain ⟨rfl, rfl⟩ := TL.ofRaw h
    rfl
  · rintro rfl
    exact ⟨vs, [], rfl, TL.raw vs⟩
theorem SH.alloc {w0 w : World} {F : List Asr} (h : SH w0 w F) {c : List Value} {e : TypeId} {k : World → Prop} (hk : ∀ w1, SH w0 w1 (aB w.heap.size (c.map Ce.v) :: F) → Ext w w1 → w1.heap.size = w.heap.size + 1 → k w1) : LetW (w.alloc (.cells ⟨c⟩ e)) k := by
  refine LetW_iff.2 (hk _ ?_ (ext_alloc w _) (size_alloc w _))
  obtain ⟨H, h1, h2⟩ := h
  refine SH.mk (aB_raw.2 rfl) h1 ?_
  have h3 := Sat.upd (H1 := []) (H1' := [(w.heap.size, .c c)]) h2 (ext_alloc w (.cells ⟨c⟩ e)) (fun k _ hk => hk.elim) (fun x hx => by rw [List.mem_singleton.1 hx]; exact blk_alloc w c e) (by simp) (fun x hx => by rw [List.mem_singleton.1 hx]; exact .inr (Nat.le_refl _))
  exact h3
theorem SH.cell {w0 w : World} {As : List Asr} (h : SH w0 w As) (n : Nat) {b i : Nat} {l : List Ce} {x : Value} (hA : As[n]? = some (aB b l)) (hi : l[i]? = some (.v x)) : w.cell? ⟨b, i, none⟩ = some x := by
  obtain ⟨H1, H2, ⟨cs, H', rfl, hl⟩, h2, hs⟩ := (h.front hA).cut
  obtain ⟨G1, Ga, G2, c, rfl, hc, ht, _⟩ := hl.at hi
  obtain ⟨rfl, rfl⟩ := TC_v.1 ht
  have hb : Blk w b cs := hs.blk (b, .c cs) (by simp)
  rw [hb.cell, hc]
/-- A cell of a block written. -/
theorem SH.setF {w0 w : World} {F : List Asr} {b i : Nat} {l : List Ce} {x y : Value} (h : SH w0 w (aB b l :: F)) (hi : l[i]? = some (.v x)) : May w ⟨b, i, none⟩ ∧ SH w0 (w.setCell ⟨b, i, none⟩ y) (aB b (l.set i (.v y)) :: F) := by
  obtain ⟨H1, H2, ⟨cs, H', rfl, hl⟩, h2, hs⟩ := h.cut
  obtain ⟨G1, Ga, G2, c, rfl, hc, ht, hset⟩ := hl.at hi
  obtain ⟨rfl, rfl⟩ := TC_v.1 ht
  have hb : Blk w b cs := hs.blk (b, .c cs) (by simp)
  have hlt := (List.getElem?_eq_some_iff.1 hc).1
  have o := only_set w ⟨b, i, none⟩ y
  have hnd := hs.nd
  simp only [List.map_append, List.map_cons, List.cons_append, List.nodup_cons, List.mem_append] at hnd
  refine ⟨hb.may hlt, SH.mk (H1 := (b, .c (cs.set i y)) :: (G1 ++ ([] ++ G2))) ⟨_, _, rfl, hset (.v y) [] y (TC_v.2 ⟨rfl, rfl⟩)⟩ h2 (hs.upd o (fun k _ hk => ?_) (fun x hx => ?_) ?_ (fun x hx => ?_))⟩
  · have hk : k = b := hk
    subst hk; simp
  · rcases List.mem_cons.1 hx with rfl | hx
    · exact hb.set i y
    · refine (hs.blk x (List.mem_append_left _ (List.mem_cons_of_mem _ hx))).only o (fun hk => hnd.1 (.inl ?_))
      have hk : x.1 = b := hk
      rw [← hk]
      have := List.mem_map (f := fun y : Nat × BV => y.1).2 ⟨x, hx, rfl⟩
      simpa using this
  · have := hs.nd
    rw [List.map_append, List.nodup_append] at this
    exact this.1
  · left
    rcases List.mem_cons.1 hx with rfl | hx
    · simp
    · exact List.mem_map.2 ⟨x, List.mem_cons_of_mem _ hx, rfl⟩
theorem SH.setAt {w0 w : World} {As : List Asr} (h : SH w0 w As) (n : Nat) {b i : Nat} {l : List Ce} {x y : Value} (hA : As[n]? = some (aB b l)) (hi : l[i]? = some (.v x)) : May w ⟨b, i, none⟩ ∧ SH w0 (w.setCell ⟨b, i, none⟩ y) (As.set n (aB b (l.set i (.v y)))) := by
  obtain ⟨h1, h2⟩ := (h.front hA).setF (y := y) hi
  exact ⟨h1, h2.perm (set_perm hA)⟩
theorem SH.set {w0 w : World} {As : List Asr} (h : SH w0 w As) (n : Nat) {b i : Nat} {l : List Ce} {x y : Value} {k : World → Prop} (hA : As[n]? = some (aB b l)) (hi : l[i]? = some (.v x)) (hk : ∀ w2, SH w0 w2 (As.set n (aB b (l.set i (.v y)))) → w2.heap.size = w.heap.size → k w2) :
    May w ⟨b, i, none⟩ ∧ LetW (w.setCell ⟨b, i, none⟩ y) k := by
  obtain ⟨h1, h2⟩ := h.setAt n (y := y) hA hi
  exact ⟨h1, LetW_iff.2 (hk _ h2 (size_set w _ _))⟩
/-- The same, where all cells are raw. -/
theorem SH.setV {w0 w : World} {As : List Asr} (h : SH w0 w As) (n : Nat) {b i : Nat} {vs : List Value} {x y : Value} {k : World → Prop} (hA : As[n]? = some (aB b (vs.map Ce.v))) (hi : vs[i]? = some x) (hk : ∀ w2, SH w0 w2 (As.set n (aB b ((vs.set i y).map Ce.v))) → w2.heap.size = w.heap.size → k w2) :
    May w ⟨b, i, none⟩ ∧ LetW (w.setCell ⟨b, i, none⟩ y) k :=
  h.set n (x := x) hA (by rw [List.getElem?_map, hi]; rfl) (fun w2 h2 hs => hk w2 (by rw [List.map_set]; exact h2) hs)
/-- Cells written one behind the other. -/
def setC (l : List Ce) : Nat → List Value → List Ce
  | _, [] => l
  | i, v :: r => setC (l.set i (.v v)) (i + 1) r
theorem SH.putsF {w0 : World} {F : List Asr} {b o : Nat} : ∀ (us : List Value) {w : World} {l : List Ce} (i : Nat) (h : SH w0 w (aB b l :: F)), (∀ j, o + i ≤ j → j < o + i + us.length → ∃ x, l[j]? = some (.v x)) →
    (∀ j, i ≤ j → j < i + us.length → May w ((⟨b, o, none⟩ : Addr).add j)) ∧ SH w0 (Den.puts w ⟨b, o, none⟩ i us) (aB b (setC l (o + i) us) :: F)
  | [], w, l, i, h, hx => ⟨fun j h1 h2 => by simp at h2; omega, h⟩
  | u :: r, w, l, i, h, hx => by
    have hl : (u :: r).length = r.length + 1 := rfl
    obtain ⟨x, hi⟩ := hx (o + i) (Nat.le_refl _) (by omega)
    obtain ⟨h1, h2⟩ := h.setF (y := u) hi
    obtain ⟨h3, h4⟩ := SH.putsF (o := o) r (i + 1) h2 (fun j hj1 hj2 => by
      obtain ⟨x, hx⟩ := hx j (by omega) (by omega)
      exact ⟨x, by rw [List.getElem?_set_ne (by omega)]; exact hx⟩)
    refine ⟨fun j hj1 hj2 => ?_, ?_⟩
    · by_cases hj : j = i
      · subst hj; rw [add_mk]; exact h1
      · have := h3 j (by omega) (by omega)
        rw [add_mk] at this ⊢
        obtain ⟨y, hy⟩ := hx (o + j) (by omega) (by omega)
        have hA : (aB b l :: F)[0]? = some (aB b l) := rfl
        exact (h.setF (y := y) hy).1
    · unfold Den.puts setC
      rw [add_mk]
      exact h4
/-- Cells of a block written, from o on. -/
theorem SH.puts {w0 w : World} {As : List Asr} (h : SH w0 w As) (n : Nat) {b o m : Nat} {l : List Ce} {us : List Value} {k : World → Prop} (hA : As[n]? = some (aB b l)) (hm : us.length = m) (hx : ∀ j, j < m → ∃ x, l[o + j]? = some (.v x))
    (hk : ∀ w2, SH w0 w2 (As.set n (aB b (setC l o us))) → w2.heap.size = w.heap.size → k w2) : MayN w ⟨b, o, none⟩ m ∧ LetW (Den.puts w ⟨b, o, none⟩ 0 us) k := by
  obtain ⟨h1, h2⟩ := SH.putsF (o := o) us 0 (h.front hA) (fun j h1 h2 => by
    obtain ⟨x, hx⟩ := hx (j - o) (by omega)
    exact ⟨x, by rwa [show o + (j - o) = j by omega] at hx⟩)
  refine ⟨fun j hj => h1 j (Nat.zero_le _) (by omega), LetW_iff.2 (hk _ (h2.perm (set_perm hA)) (size_puts us w _ 0))⟩
theorem setC_all : ∀ (us vs ps : List Value), us.length = vs.length → setC ((ps ++ vs).map Ce.v) ps.length us = (ps ++ us).map Ce.v
  | [], [], ps, h => rfl
  | u :: us, v :: vs, ps, h => by
    have hs : ((ps ++ v :: vs).map Ce.v).set ps.length (Ce.v u) = ((ps ++ [u]) ++ vs).map Ce.v := by simp
    rw [setC, hs]
    have := setC_all us vs (ps ++ [u]) (by simpa using h)
    rw [show (ps ++ [u]).length = ps.length + 1 by simp] at this
    rw [this]; simp
/-- A block written whole. -/
theorem SH.put {w0 w : World} {As : List Asr} (h : SH w0 w As) (n : Nat) {b m : Nat} {vs us : List Value} {k : World → Prop} (hA : As[n]? = some (aB b (vs.map Ce.v))) (hm : us.length = m) (hv : vs.length = m)
    (hk : ∀ w2, SH w0 w2 (As.set n (aB b (us.map Ce.v))) → w2.heap.size = w.heap.size → k w2) : MayN w ⟨b, 0, none⟩ m ∧ LetW (Den.puts w ⟨b, 0, none⟩ 0 us) k := by
  refine h.puts n hA hm (fun j hj => ⟨vs[j]'(by omega), by rw [Nat.zero_add, List.getElem?_map, List.getElem?_eq_getElem (by omega)]; rfl⟩) (fun w2 h2 hs => hk w2 ?_ hs)
  have := setC_all us vs [] (by omega)
  simp only [List.nil_append, List.length_nil] at this
  rwa [this] at h2
/-! ## A row -/
theorem SH.len {w0 w : World} {As : List Asr} (h : SH w0 w As) (n : Nat) {s : Sl} {z : Nat} {l : List (List Ce)} (hA : As[n]? = some (aRow s z l)) : s.len = l.length := by
  obtain ⟨H1, H2, h1, _⟩ := (h.front hA).cut
  exact h1.1
theorem SH.lenCap {w0 w : World} {As : List Asr} (h : SH w0 w As) (n : Nat) {s : Sl} {z : Nat} {l : List (List Ce)} (hA : As[n]? = some (aRow s z l)) : s.len ≤ s.cap := by
  obtain ⟨H1, H2, h1, _⟩ := (h.front hA).cut
  exact h1.2.1
theorem SH.nil {w0 w : World} {F : List Asr} (h : SH w0 w F) (a : Option Addr) (z : Nat) : SH w0 w (aRow ⟨a, 0, 0⟩ z [] :: F) := by
  obtain ⟨H, h1, h2⟩ := h
  exact SH.mk (H1 := []) ⟨rfl, Nat.le_refl _, .inl ⟨rfl, rfl⟩⟩ h1 h2
/-- One element's cell. -/
theorem SH.elem {w0 w : World} {As : List Asr} (h : SH w0 w As) (n : Nat) {s : Sl} {z k j : Nat} {l : List (List Ce)} {e : List Ce} {x : Value} (hA : As[n]? = some (aRow s z l)) (hk : l[k]? = some e) (hj : e[j]? = some (.v x)) : ∃ q, s.a = some q ∧ w.cell? ((q.add (k * z)).add j) = some x := by
  obtain ⟨H1, H2, ⟨hlen, hle, h1⟩, h2, hs⟩ := (h.front hA).cut
  have hkl := (List.getElem?_eq_some_iff.1 hk).1
  rcases h1 with ⟨hc, _⟩ | ⟨b, cs, H', ha, rfl, hcl, ht⟩
  · omega
  obtain ⟨G1, Ge, G2, c1, ce, c2, rfl, rfl, h3, h4, h5, _⟩ := ht.at hk
  obtain ⟨K1, Ka, K2, c, rfl, hc, htc, _⟩ := h5.at hj
  obtain ⟨rfl, rfl⟩ := TC_v.1 htc
  have hb : Blk w b (c1 ++ (ce ++ c2)) := hs.blk (b, .c (c1 ++ (ce ++ c2))) (by simp)
  have hjl := (List.getElem?_eq_some_iff.1 hc).1
  refine ⟨_, ha, ?_⟩
  rw [add_mk, add_mk, Nat.zero_add, hb.cell, List.getElem?_append_right (by omega), show k * z + j - c1.length = j by omega, List.getElem?_append_left hjl, hc]
theorem SH.elem0 {w0 w : World} {As : List Asr} (h : SH w0 w As) (n : Nat) {s : Sl} {z k : Nat} {l : List (List Ce)} {e : List Ce} {x : Value} (hA : As[n]? = some (aRow s z l)) (hk : l[k]? = some e) (hj : e[0]? = some (.v x)) : ∃ q, s.a = some q ∧ w.cell? (q.add (k * z)) = some x := by
  obtain ⟨q, h1, h2⟩ := h.elem n hA hk hj
  exact ⟨q, h1, by rwa [Den.add_zero] at h2⟩
/-- Where the row lies. -/
theorem SH.addr {w0 w : World} {As : List Asr} (h : SH w0 w As) (n : Nat) {s : Sl} {z : Nat} {l : List (List Ce)} (hA : As[n]? = some (aRow s z l)) (hl : 0 < s.cap) : ∃ b, s.a = some ⟨b, 0, none⟩ ∧ b < w.heap.size ∧ w0.heap.size ≤ b := by
  obtain ⟨H1, H2, ⟨hlen, hle, h1⟩, h2, hs⟩ := (h.front hA).cut
  rcases h1 with ⟨hc, _⟩ | ⟨b, cs, H', ha, rfl, hcl, ht⟩
  · omega
  · exact ⟨b, ha, (hs.blk (b, .c cs) (by simp)).lt, hs.own (b, .c cs) (by simp)⟩
/-- A row of raw cells, as it is lent. -/
theorem SH.row {w0 w : World} {As : List Asr} (h : SH w0 w As) (n : Nat) {s : Sl} {z : Nat} {ys : List (List Value)} (hA : As[n]? = some (aRow s z (ys.map (·.map Ce.v)))) : RowAt w s.a (s.len * z) ys.flatten := by
  obtain ⟨H1, H2, ⟨hlen, hle, h1⟩, h2, hs⟩ := (h.front hA).cut
  rw [List.length_map] at hlen
  rcases h1 with ⟨hc, rfl⟩ | ⟨b, cs, H', ha, rfl, hcl, ht⟩
  · have : ys = [] := List.eq_nil_of_length_eq_zero (by omega)
    subst this
    exact ⟨by rw [hlen]; simp, fun h => by rw [hlen] at h; simp at h⟩
  · obtain ⟨rfl, h3⟩ := TE.ofRaw ht
    have hle2 := ht.le
    rw [List.length_map] at hle2
    have hb : Blk w b cs := hs.blk (b, .c cs) (by simp)
    refine ⟨by rw [← h3, List.length_take, hlen]; omega, fun _ => ⟨_, ha, fun j v hv => ?_⟩⟩
    rw [add_mk, Nat.zero_add, hb.cell]
    rw [← h3, List.getElem?_take] at hv
    split at hv
    · exact hv
    · cases hv
theorem flat_one : ∀ (l : List Value), (l.map fun x => [x]).flatten = l
  | [] => rfl
  | a :: r => by rw [List.map_cons, List.flatten_cons, flat_one r]; rfl
/-- Numbers in a row. -/
def nums (k : IntKind) (m : List Int) : List (List Ce) := m.map (fun x => [.v (.int k x)])
theorem nums_len {k : IntKind} {m : List Int} : (nums k m).length = m.length := by unfold nums; simp
theorem nums_get {k : IntKind} {m : List Int} {i : Nat} {x : Int} (h : m[i]? = some x) : (nums k m)[i]? = some [.v (.int k x)] := by unfold nums; rw [List.getElem?_map, h]; rfl
theorem nums_raw {k : IntKind} {m : List Int} : nums k m = (m.map (fun x => [Value.int k x])).map (·.map Ce.v) := by unfold nums; rw [List.map_map]; rfl
theorem SH.rowN {w0 w : World} {As : List Asr} (h : SH w0 w As) (n : Nat) {s : Sl} {k : IntKind} {m : List Int} (hA : As[n]? = some (aRow s 1 (nums k m))) : RowAt w s.a s.len (m.map (Value.int k)) := by
  have := h.row n (ys := m.map (fun x => [Value.int k x])) (by rw [hA, nums_raw])
  rw [Nat.mul_one] at this
  rw [show m.map (fun x => [Value.int k x]) = (m.map (Value.int k)).map (fun x => [x]) by rw [List.map_map]; rfl, flat_one] at this
  exact this
/-- Records in a row. -/
def recs {α : Type} (f : α → List Value) (l : List α) : List (List Ce) := l.map (fun x => (f x).map Ce.v)
theorem recs_len {α : Type} {f : α → List Value} {l : List α} : (recs f l).length = l.length := by unfold recs; simp
theorem recs_get {α : Type} {f : α → List Value} {l : List α} {i : Nat} {x : α} (h : l[i]? = some x) : (recs f l)[i]? = some ((f x).map Ce.v) := by unfold recs; rw [List.getElem?_map, h]; rfl
theorem recs_raw {α : Type} {f : α → List Value} {l : List α} : recs f l = (l.map f).map (·.map Ce.v) := by unfold recs; rw [List.map_map]; rfl
theorem recs_app {α : Type} {f : α → List Value} {a b : List α} : recs f (a ++ b) = recs f a ++ recs f b := by unfold recs; simp
theorem nums_app {k : IntKind} {a b : List Int} : nums k (a ++ b) = nums k a ++ nums k b := by unfold nums; simp
theorem SH.rowR {w0 w : World} {As : List Asr} (h : SH w0 w As) (n : Nat) {α : Type} {f : α → List Value} {s : Sl} {z : Nat} {l : List α} (hA : As[n]? = some (aRow s z (recs f l))) : RowAt w s.a (s.len * z) (l.flatMap f) := by
  have := h.row n (ys := l.map f) (by rw [hA, recs_raw])
  rwa [← List.flatMap_def] at this
end Go.Den

/- Steps over rows of memory in parts: elements written, opened; append. Conditions: none. -/
set_option linter.unusedVariables false
set_option linter.unusedSimpArgs false
namespace Go.Den
open Go
theorem aRow.at {s : Sl} {z k : Nat} {l : List (List Ce)} {e : List Ce} {H : HL} (h : aRow s z l H) (hk : l[k]? = some e) :
    ∃ b c1 ce c2 H1 He H2, s.a = some ⟨b, 0, none⟩ ∧ H = (b, .c (c1 ++ (ce ++ c2))) :: (H1 ++ (He ++ H2)) ∧ c1.length = k * z ∧ ce.length = z ∧ TL e He ce ∧ ∀ e' He' ce', TL e' He' ce' → ce'.length = z → aRow s z (l.set k e') ((b, .c (c1 ++ (ce' ++ c2))) :: (H1 ++ (He' ++ H2))) := by
  obtain ⟨hlen, hle, h1⟩ := h
  have hkl := (List.getElem?_eq_some_iff.1 hk).1
  rcases h1 with ⟨hc, _⟩ | ⟨b, cs, H', ha, rfl, hcl, ht⟩
  · omega
  obtain ⟨G1, Ge, G2, c1, ce, c2, rfl, rfl, h3, h4, h5, h6⟩ := ht.at hk
  refine ⟨b, c1, ce, c2, G1, Ge, G2, ha, rfl, h3, h4, h5, fun e' He' ce' ht' hl' => ⟨by rw [List.length_set]; exact hlen, hle, .inr ⟨b, _, _, ha, rfl, ?_, h6 e' He' ce' ht' hl'⟩⟩⟩
  rw [← hcl]; simp [hl', h4]
theorem set_self {α : Type} {l : List α} {i : Nat} {a : α} (h : l[i]? = some a) : l.set i a = l := by
  apply List.ext_getElem?
  intro j
  by_cases hj : i = j
  · subst hj
    rw [List.getElem?_set_self (List.getElem?_eq_some_iff.1 h).1, h]
  · rw [List.getElem?_set_ne hj]
theorem SH.setEF {w0 w : World} {F : List Asr} {s : Sl} {z k j : Nat} {l : List (List Ce)} {e : List Ce} {q : Addr} {x y : Value} (h : SH w0 w (aRow s z l :: F)) (hq : s.a = some q) (hk : l[k]? = some e) (hj : e[j]? = some (.v x)) :
    May w ((q.add (k * z)).add j) ∧ SH w0 (w.setCell ((q.add (k * z)).add j) y) (aRow s z (l.set k (e.set j (.v y))) :: F) := by
  obtain ⟨H1, H2, hr, h2, hs⟩ := h.cut
  obtain ⟨b, c1, ce, c2, G1, Ge, G2, ha, rfl, h3, h4, h5, h6⟩ := hr.at hk
  obtain ⟨K1, Ka, K2, c, rfl, hc, ht, hset⟩ := h5.at hj
  obtain ⟨rfl, rfl⟩ := TC_v.1 ht
  rw [hq] at ha; cases ha
  rw [add_mk, add_mk, Nat.zero_add]
  have hjl := (List.getElem?_eq_some_iff.1 hc).1
  have hb : Blk w b (c1 ++ (ce ++ c2)) := hs.blk (b, .c (c1 ++ (ce ++ c2))) (by simp)
  have o := only_set w ⟨b, k * z + j, none⟩ y
  have hset' : (c1 ++ (ce ++ c2)).set (k * z + j) y = c1 ++ (ce.set j y ++ c2) := by
    rw [List.set_append_right _ _ (by omega), show k * z + j - c1.length = j by omega, List.set_append_left _ _ hjl]
  have hnd := hs.nd
  rw [List.map_append, List.nodup_append] at hnd
  have hnd1 := hnd.1
  rw [List.map_cons, List.nodup_cons] at hnd1
  refine ⟨hb.may (by simp only [List.length_append]; omega), SH.mk (h6 _ (K1 ++ ([] ++ K2)) (ce.set j y) (hset (.v y) [] y (TC_v.2 ⟨rfl, rfl⟩)) (by rw [List.length_set]; exact h4)) h2 (hs.upd o (fun k _ hk => ?_) (fun x hx => ?_) ?_ (fun x hx => ?_))⟩
  · subst hk; simp
  · rcases List.mem_cons.1 hx with rfl | hx
    · show Blk _ b _
      rw [← hset']
      exact hb.set (k * z + j) y
    · refine (hs.blk x (List.mem_append_left _ (List.mem_cons_of_mem _ hx))).only o (fun hk => hnd1.1 ?_)
      have hk : x.1 = b := hk
      show b ∈ _
      rw [← hk]
      exact List.mem_map.2 ⟨x, hx, rfl⟩
  · exact hnd.1
  · left
    rcases List.mem_cons.1 hx with rfl | hx
    · simp
    · exact List.mem_map.2 ⟨x, List.mem_cons_of_mem _ hx, rfl⟩
theorem SH.setEAt {w0 w : World} {As : List Asr} (h : SH w0 w As) (n : Nat) {s : Sl} {z k j : Nat} {l : List (List Ce)} {e : List Ce} {q : Addr} {x y : Value} (hA : As[n]? = some (aRow s z l)) (hq : s.a = some q) (hk : l[k]? = some e) (hj : e[j]? = some (.v x)) :
    May w ((q.add (k * z)).add j) ∧ SH w0 (w.setCell ((q.add (k * z)).add j) y) (As.set n (aRow s z (l.set k (e.set j (.v y))))) := by
  obtain ⟨h1, h2⟩ := (h.front hA).setEF (y := y) hq hk hj
  exact ⟨h1, h2.perm (set_perm hA)⟩
theorem SH.setE {w0 w : World} {As : List Asr} (h : SH w0 w As) (n : Nat) {s : Sl} {z k j : Nat} {l : List (List Ce)} {e : List Ce} {q : Addr} {x y : Value} {K : World → Prop} (hA : As[n]? = some (aRow s z l)) (hq : s.a = some q) (hk : l[k]? = some e) (hj : e[j]? = some (.v x))
    (hK : ∀ w2, SH w0 w2 (As.set n (aRow s z (l.set k (e.set j (.v y))))) → w2.heap.size = w.heap.size → K w2) : May w ((q.add (k * z)).add j) ∧ LetW (w.setCell ((q.add (k * z)).add j) y) K := by
  obtain ⟨h1, h2⟩ := h.setEAt n (y := y) hA hq hk hj
  exact ⟨h1, LetW_iff.2 (hK _ h2 (size_set w _ _))⟩
theorem SH.setE0 {w0 w : World} {As : List Asr} (h : SH w0 w As) (n : Nat) {s : Sl} {z k : Nat} {l : List (List Ce)} {e : List Ce} {q : Addr} {x y : Value} {K : World → Prop} (hA : As[n]? = some (aRow s z l)) (hq : s.a = some q) (hk : l[k]? = some e) (hj : e[0]? = some (.v x))
    (hK : ∀ w2, SH w0 w2 (As.set n (aRow s z (l.set k (e.set 0 (.v y))))) → w2.heap.size = w.heap.size → K w2) : May w (q.add (k * z)) ∧ LetW (w.setCell (q.add (k * z)) y) K := by
  have := h.setE n (K := K) (y := y) hA hq hk hj hK
  rwa [Den.add_zero] at this
theorem SH.rdE {w0 w : World} {As : List Asr} (h : SH w0 w As) (n : Nat) {s : Sl} {z k j : Nat} {l : List (List Ce)} {e : List Ce} {q : Addr} {x : Value} (hA : As[n]? = some (aRow s z l)) (hq : s.a = some q) (hk : l[k]? = some e) (hj : e[j]? = some (.v x)) : w.cell? ((q.add (k * z)).add j) = some x := by
  obtain ⟨p, hp, hc⟩ := h.elem n hA hk hj
  rw [hq] at hp; cases hp; exact hc
/-! ## append -/
theorem flatten_length {z : Nat} : ∀ {ys : List (List Value)}, (∀ u, u ∈ ys → u.length = z) → ys.flatten.length = ys.length * z
  | [], h => by simp
  | y :: r, h => by rw [List.flatten_cons, List.length_append, h y (by simp), flatten_length (fun u hu => h u (by simp [hu])), List.length_cons, Nat.succ_mul]; omega
/-- What an append does to an owned row: in its place, or in a new block. -/
theorem SH.appCore {w0 w : World} {F : List Asr} {e n : Nat} {ti : TI} {s : Sl} {z : Nat} {l : List (List Ce)} {ys : List (List Value)} {vs : List Value} {K : Sl → World → Prop} (h : SH w0 w (aRow s z l :: F)) (hvs : vs = ys.flatten) (hys : ys.length = n) (hyz : ∀ u, u ∈ ys → u.length = z)
    (hzero : ti.zero.length = z)
    (hk : ∀ s' w', SH w0 w' (aRow s' z (l ++ ys.map (·.map Ce.v)) :: F) → s'.len = l.length + n → w.heap.size ≤ w'.heap.size → K s' w') :
    ∃ os, RowAt w s.a (s.len * z) os ∧ (s.len + n ≤ s.cap → (∃ p, s.a = some p ∧ MayN w (p.add (s.len * z)) vs.length ∧ K ⟨s.a, s.len + n, s.cap⟩ (Den.puts w (p.add (s.len * z)) 0 vs)) ∨ (s.a = none ∧ K ⟨none, s.len + n, s.cap⟩ w)) ∧
      (s.cap < s.len + n → ∀ cap, s.len + n ≤ cap → K ⟨some ⟨w.heap.size, 0, none⟩, s.len + n, cap⟩ (w.drew.alloc (.cells ⟨os ++ vs ++ zerosOf ti.zero (cap - (s.len + n))⟩ e))) := by
  have hl2 : vs.length = n * z := by rw [hvs, flatten_length hyz, hys]
  obtain ⟨H1, H2, ⟨hl, hle, h1⟩, h2, hs⟩ := h.cut
  have hnl : (l ++ ys.map (·.map Ce.v)).length = l.length + n := by simp [hys]
  rcases h1 with ⟨hc, rfl⟩ | ⟨b, cs, H', ha, rfl, hcl, ht⟩
  · have hl0 : l = [] := List.eq_nil_of_length_eq_zero (by omega)
    subst hl0
    have hsl : s.len = 0 := hl
    refine ⟨[], ⟨by rw [hsl]; simp, fun h => by rw [hsl] at h; simp at h⟩, fun hin => ?_, fun hgrow cap hcap => ?_⟩
    · have hy0 : n = 0 := by omega
      have hys0 : ys = [] := List.eq_nil_of_length_eq_zero (by omega)
      subst hys0
      subst hvs
      have hown : SH w0 w (aRow ⟨s.a, s.len + n, s.cap⟩ z ([] ++ ([] : List (List Value)).map (·.map Ce.v)) :: F) := SH.mk (H1 := []) ⟨by show s.len + n = _; rw [hy0, hsl]; rfl, by show s.len + n ≤ s.cap; omega, .inl ⟨hc, rfl⟩⟩ h2 hs
      rcases hsa : s.a with _ | p
      · right
        refine ⟨rfl, ?_⟩
        rw [← hsa]
        exact hk _ _ hown (by show s.len + n = _; rw [hsl]; rfl) (Nat.le_refl _)
      · left
        refine ⟨p, rfl, fun i hi => absurd hi (by simp), ?_⟩
        rw [← hsa]
        exact hk _ _ hown (by show s.len + n = _; rw [hsl]; rfl) (Nat.le_refl _)
    · have hso : s.len + n = n := by omega
      refine hk _ _ (SH.mk (H1 := [(w.drew.heap.size, .c ([] ++ vs ++ zerosOf ti.zero (cap - (s.len + n))))]) ⟨by rw [hnl]; show s.len + n = _; rw [hsl]; rfl, hcap, .inr ⟨_, _, [], rfl, rfl, ?_, ?_⟩⟩ h2 ?_) (by show s.len + n = _; rw [hsl]; rfl) (by rw [size_alloc, size_drew]; omega)
      · rw [List.nil_append, List.length_append, zerosOf_length, hzero, hl2, ← Nat.add_mul]
        show (n + (cap - (s.len + n))) * z = cap * z
        congr 1; omega
      · rw [List.nil_append, List.nil_append, hvs]; exact TE.raw ys hyz _
      · have h3 := Sat.upd (H1 := []) (H1' := [(w.drew.heap.size, .c ([] ++ vs ++ zerosOf ti.zero (cap - (s.len + n))))]) (hs.ext' (ext_drew w)) (ext_alloc w.drew (.cells ⟨[] ++ vs ++ zerosOf ti.zero (cap - (s.len + n))⟩ e)) (fun k _ hk => hk.elim) (fun x hx => by rw [List.mem_singleton.1 hx]; exact blk_alloc w.drew _ e) (by simp) (fun x hx => by rw [List.mem_singleton.1 hx]; exact .inr (Nat.le_refl _))
        exact h3
  · have hbl : Blk w b cs := hs.blk (b, .c cs) (by simp)
    have hts := ht.le
    have hos : RowAt w s.a (s.len * z) (cs.take (s.len * z)) := by
      refine ⟨by rw [List.length_take]; rw [← hl] at hts; omega, fun _ => ⟨_, ha, fun j v hv => ?_⟩⟩
      rw [add_mk, Nat.zero_add, hbl.cell]
      rw [List.getElem?_take] at hv
      split at hv
      · exact hv
      · cases hv
    have hosl := hos.1
    refine ⟨cs.take (s.len * z), hos, fun hin => ?_, fun hgrow cap hcap => ?_⟩
    · left
      have hfit : s.len * z + vs.length ≤ cs.length := by rw [hcl, hl2, ← Nat.add_mul]; exact Nat.mul_le_mul_right _ hin
      have o := only_puts vs w ⟨b, s.len * z, none⟩ 0
      have hnd := hs.nd
      rw [List.map_append, List.nodup_append] at hnd
      have hnd1 := hnd.1
      rw [List.map_cons, List.nodup_cons] at hnd1
      have hbp := Blk.puts vs hbl (s.len * z) 0
      rw [Nat.add_zero] at hbp
      refine ⟨_, ha, ?_, ?_⟩
      · rw [add_mk, Nat.zero_add]; exact hbl.mayN hfit
      · rw [add_mk, Nat.zero_add]
        refine hk _ _ (SH.mk (H1 := (b, .c (setAll cs (s.len * z) vs)) :: H') ⟨by rw [hnl]; show s.len + n = _; rw [hl], hin, .inr ⟨b, _, H', ha, rfl, by rw [setAll_length]; exact hcl, ?_⟩⟩ h2 (hs.upd o (fun k _ hk => ?_) (fun x hx => ?_) ?_ (fun x hx => ?_))) (by show s.len + n = _; rw [hl]) (by rw [size_puts]; omega)
        · rw [setAll_eq _ _ _ hfit, List.append_assoc]
          have h3 : TE z l H' (cs.take (s.len * z)) := ht.cut (by rw [List.take_take, hl, Nat.min_self])
          have h4 := h3.app (by rw [hosl, hl]) (TE.raw ys hyz (cs.drop (s.len * z + vs.length)))
          rw [List.append_nil, ← hvs] at h4
          exact h4
        · subst hk; simp
        · rcases List.mem_cons.1 hx with rfl | hx
          · exact hbp
          · refine (hs.blk x (List.mem_append_left _ (List.mem_cons_of_mem _ hx))).only o (fun hk => hnd1.1 ?_)
            have hk : x.1 = b := hk
            show b ∈ _
            rw [← hk]
            exact List.mem_map.2 ⟨x, hx, rfl⟩
        · exact hnd.1
        · left
          rcases List.mem_cons.1 hx with rfl | hx
          · simp
          · exact List.mem_map.2 ⟨x, List.mem_cons_of_mem _ hx, rfl⟩
    · have hs2 : Sat w0 w (H' ++ H2) := Sat.left (H1 := [(b, .c cs)]) (by simpa using hs)
      have hlt : ∀ x, x ∈ H' → x.1 < w.heap.size := fun x hx => (hs2.blk x (List.mem_append_left _ hx)).lt
      refine hk _ _ (SH.mk (H1 := (w.drew.heap.size, .c (cs.take (s.len * z) ++ vs ++ zerosOf ti.zero (cap - (s.len + n)))) :: H') ⟨by rw [hnl]; show s.len + n = _; rw [hl], hcap, .inr ⟨_, _, H', rfl, rfl, ?_, ?_⟩⟩ h2 ?_) (by show s.len + n = _; rw [hl]) (by rw [size_alloc, size_drew]; omega)
      · rw [List.length_append, List.length_append, hosl, hl2, zerosOf_length, hzero, ← Nat.add_mul, ← Nat.add_mul]
        show (s.len + n + (cap - (s.len + n))) * z = cap * z
        congr 1; omega
      · have h3 : TE z l H' (cs.take (s.len * z)) := ht.cut (by rw [List.take_take, hl, Nat.min_self])
        have h4 := h3.app (by rw [hosl, hl]) (TE.raw ys hyz (zerosOf ti.zero (cap - (s.len + n))))
        rw [List.append_nil, ← hvs, ← List.append_assoc] at h4
        exact h4
      · have h3 := Sat.upd (H1 := []) (H1' := [(w.drew.heap.size, .c (cs.take (s.len * z) ++ vs ++ zerosOf ti.zero (cap - (s.len + n))))]) (hs2.ext' (ext_drew w)) (ext_alloc w.drew (.cells ⟨cs.take (s.len * z) ++ vs ++ zerosOf ti.zero (cap - (s.len + n))⟩ e)) (fun k _ hk => hk.elim) (fun x hx => by rw [List.mem_singleton.1 hx]; exact blk_alloc w.drew _ e) (by simp) (fun x hx => by rw [List.mem_singleton.1 hx]; exact .inr (Nat.le_refl _))
        simpa using h3
theorem SH.append {w0 w : World} {F : List Asr} {e : Nat} {ti : TI} {s y : Sl} {z : Nat} {l : List (List Ce)} {ys : List (List Value)} {vs : List Value} {K : Sl → World → Prop} (h : SH w0 w (aRow s z l :: F)) (hy : RowAt w y.a (y.len * z) vs) (hvs : vs = ys.flatten) (hys : ys.length = y.len) (hyz : ∀ u, u ∈ ys → u.length = z)
    (hz : ti.sh.length = z) (hzero : ti.zero.length = z) (hb : 0 < ti.bytes) (hlen : (l.length + y.len) * ti.bytes ≤ 140737488355328) (hpl : ∀ v, v ∈ vs → plainB v = true)
    (hk : ∀ s' w', SH w0 w' (aRow s' z (l ++ ys.map (·.map Ce.v)) :: F) → s'.len = l.length + y.len → w.heap.size ≤ w'.heap.size → K s' w') : AppendW e ti s y w K := by
  have hl := h.len 0 rfl
  obtain ⟨os, h1, h2, h3⟩ := SH.appCore (e := e) (ti := ti) h hvs hys hyz hzero hk
  exact ⟨os, vs, hz ▸ h1, hz ▸ hy, by rw [hl]; exact hlen, hb, hpl, hz ▸ h2, h3⟩
theorem zerosOf_flat (zero : List Value) : ∀ n, zerosOf zero n = (List.replicate n zero).flatten
  | 0 => rfl
  | n + 1 => by rw [zerosOf, zerosOf_flat zero n, List.replicate_succ, List.flatten_cons]
/-- append of n zeros to an owned row. -/
theorem SH.appendZ {w0 w : World} {F : List Asr} {e : Nat} {ti : TI} {s : Sl} {x : Int} {z : Nat} {l : List (List Ce)} {K : Sl → World → Prop} (h : SH w0 w (aRow s z l :: F)) (hx : 0 ≤ x)
    (hz : ti.sh.length = z) (hzero : ti.zero.length = z) (hb : 0 < ti.bytes) (hlen : (l.length + x.toNat) * ti.bytes ≤ 140737488355328) (hpl : ∀ v, v ∈ ti.zero → plainB v = true)
    (hk : ∀ s' w', SH w0 w' (aRow s' z (l ++ List.replicate x.toNat (ti.zero.map Ce.v)) :: F) → s'.len = l.length + x.toNat → w.heap.size ≤ w'.heap.size → K s' w') : AppendZW e ti s x w K := by
  have hl := h.len 0 rfl
  obtain ⟨os, h1, h2, h3⟩ := SH.appCore (e := e) (ti := ti) (n := x.toNat) (ys := List.replicate x.toNat ti.zero) h (zerosOf_flat ti.zero x.toNat) (by simp) (fun u hu => by rw [(List.mem_replicate.1 hu).2]; exact hzero) hzero (fun s' w' h1 h2 h3 => hk s' w' (by simpa using h1) h2 h3)
  refine ⟨hx, os, hz ▸ h1, by rw [hl]; exact hlen, hb, fun v hv => ?_, hz ▸ h2, h3⟩
  rw [zerosOf_flat] at hv
  obtain ⟨u, hu, hv⟩ := List.mem_flatten.1 hv
  rw [(List.mem_replicate.1 hu).2] at hv
  exact hpl v hv
/-- append to a row that is full and anybody's: a new one. -/
theorem SH.appGrow {w0 w : World} {F : List Asr} {e n cap : Nat} {ti : TI} {z : Nat} {xs ys : List (List Value)} {m : Nat} (h : SH w0 w F) (hxs : xs.length = m) (hxz : ∀ u, u ∈ xs → u.length = z) (hys : ys.length = n) (hyz : ∀ u, u ∈ ys → u.length = z) (hzero : ti.zero.length = z) (hcap : m + n ≤ cap) :
    SH w0 (w.drew.alloc (.cells ⟨xs.flatten ++ ys.flatten ++ zerosOf ti.zero (cap - (m + n))⟩ e)) (aRow ⟨some ⟨w.heap.size, 0, none⟩, m + n, cap⟩ z ((xs ++ ys).map (·.map Ce.v)) :: F) := by
  obtain ⟨H, h1, hs⟩ := h
  refine SH.mk (H1 := [(w.drew.heap.size, .c (xs.flatten ++ ys.flatten ++ zerosOf ti.zero (cap - (m + n))))]) ⟨by simp [hxs, hys], hcap, .inr ⟨_, _, [], rfl, rfl, ?_, ?_⟩⟩ h1 ?_
  · rw [List.length_append, List.length_append, flatten_length hxz, flatten_length hyz, zerosOf_length, hzero, hxs, hys, ← Nat.add_mul, ← Nat.add_mul]
    show (m + n + (cap - (m + n))) * z = cap * z
    congr 1; omega
  · rw [← List.flatten_append]
    exact TE.raw _ (fun u hu => by rcases List.mem_append.1 hu with hu | hu; exact hxz u hu; exact hyz u hu) _
  · have h3 := Sat.upd (H1 := []) (H1' := [(w.drew.heap.size, .c (xs.flatten ++ ys.flatten ++ zerosOf ti.zero (cap - (m + n))))]) (hs.ext' (ext_drew w)) (ext_alloc w.drew (.cells ⟨xs.flatten ++ ys.flatten ++ zerosOf ti.zero (cap - (m + n))⟩ e)) (fun k _ hk => hk.elim) (fun x hx => by rw [List.mem_singleton.1 hx]; exact blk_alloc w.drew _ e) (by simp) (fun x hx => by rw [List.mem_singleton.1 hx]; exact .inr (Nat.le_refl _))
    exact h3
/-- append of one element, laid in a block of its own; the block is forgotten. -/
theorem SH.append1 {w0 w : World} {F : List Asr} {e e' : Nat} {ti : TI} {s : Sl} {z : Nat} {l : List (List Ce)} {x : List Value} {K : Sl → World → Prop} (h : SH w0 w (aRow s z l :: F)) (hx : x.length = z)
    (hz : ti.sh.length = z) (hzero : ti.zero.length = z) (hb : 0 < ti.bytes) (hlen : (l.length + 1) * ti.bytes ≤ 140737488355328) (hpl : ∀ v, v ∈ x → plainB v = true)
    (hk : ∀ s' w', SH w0 w' (aRow s' z (l ++ [x.map Ce.v]) :: F) → s'.len = l.length + 1 → w.heap.size ≤ w'.heap.size → K s' w') :
    AppendW e ti s ⟨some ⟨w.heap.size, 0, none⟩, 1, 1⟩ (w.alloc (.cells ⟨x⟩ e')) K := by
  have ha := ext_alloc w (.cells ⟨x⟩ e')
  refine SH.append (ys := [x]) (h.to ha) (row_of_blk (blk_alloc w x e') (by rw [hx, Nat.one_mul])) (by simp) rfl (fun u hu => by rw [List.mem_singleton.1 hu]; exact hx) hz hzero hb hlen hpl (fun s' w' h1 h2 h3 => hk s' w' (by simpa using h1) h2 (by rw [size_alloc] at h3; omega))
/-- append of numbers that are lent. -/
theorem SH.appendN {w0 w : World} {F : List Asr} {e : Nat} {ti : TI} {s y : Sl} {k : IntKind} {m us : List Int} {K : Sl → World → Prop} (h : SH w0 w (aRow s 1 (nums k m) :: F)) (hy : RowAt w y.a y.len (us.map (Value.int k)))
    (hz : ti.sh.length = 1) (hzero : ti.zero.length = 1) (hb : 0 < ti.bytes) (hlen : (m.length + us.length) * ti.bytes ≤ 140737488355328)
    (hk : ∀ s' w', SH w0 w' (aRow s' 1 (nums k (m ++ us)) :: F) → s'.len = m.length + us.length → w.heap.size ≤ w'.heap.size → K s' w') : AppendW e ti s y w K := by
  have hul : us.length = y.len := by have := hy.1; simpa using this
  refine SH.append (z := 1) (ys := us.map (fun x => [Value.int k x])) h (by rw [Nat.mul_one]; exact hy) ?_ (by simpa using hul) (fun u hu => by obtain ⟨x, _, rfl⟩ := List.mem_map.1 hu; rfl) hz hzero hb (by rw [nums_len, ← hul]; exact hlen) (fun v hv => by obtain ⟨x, _, rfl⟩ := List.mem_map.1 hv; rfl) (fun s' w' h1 h2 h3 => hk s' w' ?_ (by rw [h2, nums_len]; omega) h3)
  · rw [show us.map (fun x => [Value.int k x]) = (us.map (Value.int k)).map (fun x => [x]) by rw [List.map_map]; rfl, flat_one]
  · rw [nums_app, nums_raw (m := us)]; exact h1
/-- append of one number. -/
theorem SH.appendN1 {w0 w : World} {F : List Asr} {e e' : Nat} {ti : TI} {s : Sl} {k : IntKind} {m : List Int} {n : Int} {K : Sl → World → Prop} (h : SH w0 w (aRow s 1 (nums k m) :: F))
    (hz : ti.sh.length = 1) (hzero : ti.zero.length = 1) (hb : 0 < ti.bytes) (hlen : (m.length + 1) * ti.bytes ≤ 140737488355328)
    (hk : ∀ s' w', SH w0 w' (aRow s' 1 (nums k (m ++ [n])) :: F) → s'.len = m.length + 1 → w.heap.size ≤ w'.heap.size → K s' w') :
    AppendW e ti s ⟨some ⟨w.heap.size, 0, none⟩, 1, 1⟩ (w.alloc (.cells ⟨[.int k n]⟩ e')) K :=
  SH.append1 (x := [.int k n]) h rfl hz hzero hb (by rw [nums_len]; omega) (fun v hv => by simp at hv; subst hv; rfl) (fun s' w' h1 h2 h3 => hk s' w' (by rw [nums_app]; exact h1) (by rw [h2, nums_len]) h3)
/-- append of records that are lent. -/
theorem SH.appendR {w0 w : World} {F : List Asr} {e : Nat} {ti : TI} {s y : Sl} {z : Nat} {α : Type} {f : α → List Value} {l us : List α} {K : Sl → World → Prop} (h : SH w0 w (aRow s z (recs f l) :: F)) (hy : RowAt w y.a (y.len * z) (us.flatMap f)) (hu : us.length = y.len) (hf : ∀ x, (f x).length = z)
    (hz : ti.sh.length = z) (hzero : ti.zero.length = z) (hb : 0 < ti.bytes) (hlen : (l.length + us.length) * ti.bytes ≤ 140737488355328) (hpl : ∀ x v, v ∈ f x → plainB v = true)
    (hk : ∀ s' w', SH w0 w' (aRow s' z (recs f (l ++ us)) :: F) → s'.len = l.length + us.length → w.heap.size ≤ w'.heap.size → K s' w') : AppendW e ti s y w K := by
  refine SH.append (ys := us.map f) h hy (List.flatMap_def ..) (by simpa using hu) (fun u hu => by obtain ⟨x, _, rfl⟩ := List.mem_map.1 hu; exact hf x) hz hzero hb (by rw [recs_len, ← hu]; exact hlen) (fun v hv => by obtain ⟨x, _, hx⟩ := List.mem_flatMap.1 hv; exact hpl x v hx) (fun s' w' h1 h2 h3 => hk s' w' ?_ (by rw [h2, recs_len, hu]) h3)
  rw [recs_app, recs_raw (l := us)]; exact h1
/-- append of one record. -/
theorem SH.appendR1 {w0 w : World} {F : List Asr} {e e' : Nat} {ti : TI} {s : Sl} {z : Nat} {α : Type} {f : α → List Value} {l : List α} {x : α} {K : Sl → World → Prop} (h : SH w0 w (aRow s z (recs f l) :: F)) (hf : (f x).length = z)
    (hz : ti.sh.length = z) (hzero : ti.zero.length = z) (hb : 0 < ti.bytes) (hlen : (l.length + 1) * ti.bytes ≤ 140737488355328) (hpl : ∀ v, v ∈ f x → plainB v = true)
    (hk : ∀ s' w', SH w0 w' (aRow s' z (recs f (l ++ [x])) :: F) → s'.len = l.length + 1 → w.heap.size ≤ w'.heap.size → K s' w') :
    AppendW e ti s ⟨some ⟨w.heap.size, 0, none⟩, 1, 1⟩ (w.alloc (.cells ⟨f x⟩ e')) K :=
  SH.append1 (x := f x) h hf hz hzero hb (by rw [recs_len]; omega) hpl (fun s' w' h1 h2 h3 => hk s' w' (by rw [recs_app]; exact h1) (by rw [h2, recs_len]) h3)
/-- A new block is a row. -/
theorem SH.toRow {w0 w : World} {F : List Asr} {b n z : Nat} {vs : List Value} {ys : List (List Value)} (h : SH w0 w (aB b (vs.map Ce.v) :: F)) (hvs : vs = ys.flatten) (hys : ys.length = n) (hyz : ∀ u, u ∈ ys → u.length = z) : SH w0 w (aRow ⟨some ⟨b, 0, none⟩, n, n⟩ z (ys.map (·.map Ce.v)) :: F) := by
  obtain ⟨H1, H2, h1, h2, h3⟩ := h.cut
  obtain rfl := aB_raw.1 h1
  refine SH.mk (H1 := [(b, .c vs)]) ⟨by simp [hys], Nat.le_refl _, .inr ⟨b, vs, [], rfl, rfl, by rw [hvs, flatten_length hyz, hys], ?_⟩⟩ h2 h3
  have := TE.raw ys hyz []
  rwa [List.append_nil, ← hvs] at this
/-- A row of zeros. -/
theorem SH.zeros {w0 w : World} {F : List Asr} {e : TypeId} {n z : Nat} {zero : List Value} {k : World → Prop} (h : SH w0 w F) (hz : zero.length = z) (hk : ∀ w1, SH w0 w1 (aRow ⟨some ⟨w.heap.size, 0, none⟩, n, n⟩ z (List.replicate n (zero.map Ce.v)) :: F) → w1.heap.size = w.heap.size + 1 → k w1) : LetW (w.alloc (.cells ⟨zerosOf zero n⟩ e)) k :=
  h.alloc (fun w1 h1 _ hs => hk w1 (by
    have := h1.toRow (ys := List.replicate n zero) (n := n) (z := z) (zerosOf_flat zero n) (by simp) (fun u hu => by rw [(List.mem_replicate.1 hu).2]; exact hz)
    simpa using this) hs)
end Go.Den

/- From memory in parts to trees: results. Conditions: none. -/
set_option linter.unusedVariables false
set_option linter.unusedSimpArgs false
namespace Go.Den
open Go
/-! ## Rows made otherwise -/
/-- The bytes of a constant text, in a new block. -/
theorem mark_new {w : World} {c : List Value} {e : TypeId} {k : World → Prop} (hk : ∀ w3, Ext w w3 → RowAt w3 (some ⟨w.heap.size, 0, none⟩) c.length c → k w3) : MarkW ⟨w.heap.size, 0, none⟩ (w.alloc (.cells ⟨c⟩ e)) k := by
  refine ⟨_, _, _, block_alloc w _, hk _ ⟨rfl, rfl, rfl, ?_, fun j hj _ => ?_⟩ ⟨rfl, fun _ => ⟨_, rfl, fun j v hv => ?_⟩⟩⟩
  · unfold World.freeze
    rw [if_neg (by decide)]
    simp
  · unfold World.freeze
    rw [if_neg (by decide)]
    show ((w.alloc _).heap.modify w.heap.size _)[j]? = _
    rw [Array.getElem?_modify, if_neg (by omega)]
    exact Go.RowKit.Below.heap_alloc _ _ _ hj
  · rw [add_mk, Nat.zero_add]
    unfold World.freeze
    rw [if_neg (by decide)]
    have hb : ((w.alloc (.cells ⟨c⟩ e)).heap.modify w.heap.size fun o => match o with
      | .cells c elem (lo, hi) => .cells c elem (if lo == hi then (c.size, c.size + 1) else (min lo c.size, max hi (c.size + 1)))
      | o => o)[w.heap.size]? = some (.cells ⟨c⟩ e (c.length, c.length + 1)) := by
      rw [Array.getElem?_modify, if_pos rfl, block_alloc]; rfl
    unfold World.cell?
    simp only [Array.getElem?_modify, if_true, block_alloc, Option.map_some]
    simpa using hv
/-! ## Sets of numbers, kept as maps to bool -/
end Go.Den

/- Rows whose elements own rows: append. Conditions: none. -/
set_option linter.unusedVariables false
set_option linter.unusedSimpArgs false
namespace Go.Den
open Go
theorem SH.drops {w0 w : World} : ∀ {As Bs : List Asr}, SH w0 w (As ++ Bs) → SH w0 w Bs
  | [], Bs, h => h
  | A :: As, Bs, h => SH.drops (As := As) (SH.drop (show SH w0 w (A :: (As ++ Bs)) from h))
/-- The first ones alone. -/
theorem SH.take {w0 w : World} {As : List Asr} (h : SH w0 w As) (n : Nat) : SH w0 w (As.take n) := by
  have h1 : SH w0 w (As.drop n ++ As.take n) := h.perm (by
    have := List.perm_append_comm (l₁ := As.take n) (l₂ := As.drop n)
    rwa [List.take_append_drop] at this)
  exact h1.drops
end Go.Den

/- Lent rows of records; places of elements; bits of 64-bit numbers. Conditions: none. -/
set_option linter.unusedVariables false
set_option linter.unusedSimpArgs false
namespace Go.Den
open Go
/-- A row of records that is lent. -/
structure RecsAt {α : Type} (w : World) (s : Sl) (z : Nat) (f : α → List Value) (l : List α) : Prop where
  len : s.len = l.length
  row : RowAt w s.a (s.len * z) (l.flatMap f)
  few : l.length ≤ 1099511627776
  fz : ∀ x, (f x).length = z
theorem RecsAt.ext {α : Type} {w w' : World} {s : Sl} {z : Nat} {f : α → List Value} {l : List α} (h : RecsAt w s z f l) (e : Ext w w') : RecsAt w' s z f l := ⟨h.len, e.row h.row, h.few, h.fz⟩
theorem RecsAt.get {α : Type} {w : World} {s : Sl} {z : Nat} {f : α → List Value} {l : List α} (h : RecsAt w s z f l) (hz : 0 < z) {i : Nat} {x : α} (hx : l[i]? = some x) : ∃ p, s.a = some p ∧ ∀ j v, (f x)[j]? = some v → w.cell? ((p.add (i * z)).add j) = some v :=
  RowAt.elem h.fz h.row hx hz
theorem SH.recsAt {α : Type} {w0 w : World} {As : List Asr} (h : SH w0 w As) (n : Nat) {s : Sl} {z : Nat} {f : α → List Value} {l : List α} (hA : As[n]? = some (aRow s z (recs f l))) (hf : ∀ x, (f x).length = z) (hl : l.length ≤ 1099511627776) : RecsAt w s z f l :=
  ⟨by rw [h.len n hA, recs_len], h.rowR n hA, hl, hf⟩
end Go.Den
namespace Go.Den
open Go
/-- Bytes that are lent. -/
structure ByAt (w : World) (s : Sl) (m : List Int) : Prop where
  len : s.len = m.length
  cap : s.len ≤ s.cap
  row : RowAt w s.a s.len (m.map (Value.int .u8))
  rng : ∀ x, x ∈ m → 0 ≤ x ∧ x ≤ 255
  small : m.length ≤ 1099511627776
theorem ByAt.ext {w w' : World} {s : Sl} {m : List Int} (h : ByAt w s m) (e : Ext w w') : ByAt w' s m := ⟨h.len, h.cap, e.row h.row, h.rng, h.small⟩
theorem SH.byAt {w0 w : World} {As : List Asr} (h : SH w0 w As) (n : Nat) {s : Sl} {m : List Int} (hA : As[n]? = some (aRow s 1 (nums .u8 m))) (hr : ∀ x, x ∈ m → 0 ≤ x ∧ x ≤ 255) (hs : m.length ≤ 1099511627776) : ByAt w s m :=
  ⟨by rw [h.len n hA, nums_len], h.lenCap n hA, h.rowN n hA, hr, hs⟩
/-! ## Joins whose second value is a call's -/
end Go.Den

/- Pointers that are known; joins of several things. Conditions: none. -/
set_option linter.unusedVariables false
namespace Go.Den
open Go
theorem JoinW.cut0 {f : JT [] → Prop} {k : JT []} (J : World → Prop) (h : f J) (hk : ∀ w, J w → k w) : JoinW [] f k := ⟨J, fun _ w h => hk w h, h⟩
end Go.Den

/- Rows of records of one's own: read, written field by field, cut. Conditions: none. -/
set_option linter.unusedVariables false
set_option linter.unusedSimpArgs false
namespace Go.Den
open Go
theorem SH.rdR {α : Type} {w0 w : World} {As : List Asr} (h : SH w0 w As) (n : Nat) {s : Sl} {z k j : Nat} {f : α → List Value} {l : List α} {x : α} {q : Addr} {v : Value} (hA : As[n]? = some (aRow s z (recs f l))) (hq : s.a = some q) (hx : l[k]? = some x) (hj : (f x)[j]? = some v) : w.cell? ((q.add (k * z)).add j) = some v :=
  h.rdE n hA hq (recs_get hx) (by rw [List.getElem?_map, hj]; rfl)
theorem SH.rowQ {α : Type} {w0 w : World} {As : List Asr} (h : SH w0 w As) (n : Nat) {s : Sl} {z k : Nat} {f : α → List Value} {l : List α} {x : α} (hA : As[n]? = some (aRow s z (recs f l))) (hx : l[k]? = some x) : ∃ q, s.a = some q := by
  have hk := (List.getElem?_eq_some_iff.1 hx).1
  have h1 := h.len n hA
  have h2 := h.lenCap n hA
  rw [recs_len] at h1
  obtain ⟨b, hb, _⟩ := h.addr n hA (by omega)
  exact ⟨_, hb⟩
theorem recs_set {α : Type} {f : α → List Value} {l : List α} {k : Nat} {x : α} : recs f (l.set k x) = (recs f l).set k ((f x).map Ce.v) := by unfold recs; rw [List.map_set]
/-- One field of one record written. -/
theorem SH.setR {α : Type} {w0 w : World} {As : List Asr} (h : SH w0 w As) (n : Nat) {s : Sl} {z k j : Nat} {f : α → List Value} {l : List α} {x : α} (x' : α) {q : Addr} {y : Value} {K : World → Prop} (hA : As[n]? = some (aRow s z (recs f (l.set k x)))) (hq : s.a = some q) (hk : k < l.length) (hj : j < (f x).length) (hy : f x' = (f x).set j y)
    (hK : ∀ w2, SH w0 w2 (As.set n (aRow s z (recs f (l.set k x')))) → w2.heap.size = w.heap.size → K w2) : May w ((q.add (k * z)).add j) ∧ LetW (w.setCell ((q.add (k * z)).add j) y) K := by
  refine h.setE n (x := (f x)[j]) hA hq (recs_get (x := x) (by rw [List.getElem?_set_self hk])) (by rw [List.getElem?_map, List.getElem?_eq_getElem hj]; rfl) (fun w2 h2 hs => hK w2 ?_ hs)
  rw [recs_set, List.set_set] at h2
  rw [recs_set, hy, List.map_set]
  exact h2
theorem SH.dropAt {w0 w : World} {As : List Asr} (h : SH w0 w As) (n : Nat) : SH w0 w (As.eraseIdx n) := by
  rcases hA : As[n]? with _ | A
  · rw [List.eraseIdx_of_length_le (by simpa using hA)]; exact h
  · exact (h.front hA).drop
/-! ## A block under its address -/
theorem SH.cellP {w0 w : World} {As : List Asr} (h : SH w0 w As) (n : Nat) {b i : Nat} {l : List Ce} {x : Value} (hA : As[n]? = some (aB b l)) (hi : l[i]? = some (.v x)) : w.cell? ((⟨b, 0, none⟩ : Addr).add i) = some x := by
  rw [add_mk, Nat.zero_add]; exact h.cell n hA hi
theorem SH.setVP {w0 w : World} {As : List Asr} (h : SH w0 w As) (n : Nat) {b i : Nat} {vs : List Value} {x y : Value} {k : World → Prop} (hA : As[n]? = some (aB b (vs.map Ce.v))) (hi : vs[i]? = some x) (hk : ∀ w2, SH w0 w2 (As.set n (aB b ((vs.set i y).map Ce.v))) → w2.heap.size = w.heap.size → k w2) :
    May w ((⟨b, 0, none⟩ : Addr).add i) ∧ LetW (w.setCell ((⟨b, 0, none⟩ : Addr).add i) y) k := by
  rw [add_mk, Nat.zero_add]; exact h.setV n hA hi hk
/-! ## Parts of a row -/
theorem cutA_z (a : Option Addr) (m z : Nat) : cutA a m 0 z = a := by
  unfold cutA
  split
  · rfl
  · rw [Nat.zero_mul]; cases a <;> rfl
end Go.Den

/- Bits of 64-bit signed numbers that are not negative: sets of small numbers. Conditions: none. -/
set_option linter.unusedVariables false
set_option linter.unusedSimpArgs false
namespace Go.Den
open Go
/-! ## Sets -/
/-! ## The program's ways of asking and writing -/
/-! ## Sets of the numbers 1 .. 15 -/
def bvI (s : Int) : Nat := (BitVec.ofInt 64 s).toNat
end Go.Den

/- Parts with contents that are not told: blocks of ints of which only a property is kept; a cursor over bytes. Conditions: none. -/
set_option linter.unusedVariables false
set_option linter.unusedSimpArgs false
namespace Go.Den
open Go
theorem All.exAt {α : Type} {B : α → Asr} : ∀ {As : List Asr} {H : HL} (n : Nat) {A : Asr}, All As H → As[n]? = some A → (∀ H, A H → ∃ x, B x H) → ∃ x, All (As.set n (B x)) H
  | [], H, n, A, h, hA, hex => by simp at hA
  | A0 :: r, H, 0, A, h, hA, hex => by
    simp at hA; subst hA
    obtain ⟨H1, H2, rfl, h1, h2⟩ := h
    obtain ⟨x, hx⟩ := hex H1 h1
    exact ⟨x, H1, H2, rfl, hx, h2⟩
  | A0 :: r, H, n + 1, A, h, hA, hex => by
    obtain ⟨H1, H2, rfl, h1, h2⟩ := h
    obtain ⟨x, hx⟩ := All.exAt n h2 (by simpa using hA) hex
    exact ⟨x, H1, H2, rfl, h1, hx⟩
/-- A part is opened. -/
theorem SH.exAt {α : Type} {B : α → Asr} {w0 w : World} {As : List Asr} (h : SH w0 w As) (n : Nat) {A : Asr} (hA : As[n]? = some A) (hex : ∀ H, A H → ∃ x, B x H) : ∃ x, SH w0 w (As.set n (B x)) := by
  obtain ⟨H, h1, h2⟩ := h
  obtain ⟨x, hx⟩ := All.exAt n h1 hA hex
  exact ⟨x, H, hx, h2⟩
theorem SH.weak {w0 w : World} {As : List Asr} (h : SH w0 w As) (n : Nat) {A B : Asr} (hA : As[n]? = some A) (hex : ∀ H, A H → B H) : SH w0 w (As.set n B) := by
  obtain ⟨_, h⟩ := h.exAt (α := Unit) (B := fun _ => B) n hA (fun H hH => ⟨(), hex H hH⟩)
  exact h
abbrev vInt (x : Int) : Value := .int .i64 x
/-- A block of k ints, of which each has a property. -/
def aI (b k : Nat) (P : Int → Prop) : Asr := fun H => ∃ xs : List Int, (xs.length = k ∧ ∀ x, x ∈ xs → P x) ∧ aB b ((xs.map vInt).map Ce.v) H
theorem SH.openI {w0 w : World} {As : List Asr} (h : SH w0 w As) (n : Nat) {b k : Nat} {P : Int → Prop} (hA : As[n]? = some (aI b k P)) : ∃ xs : List Int, (xs.length = k ∧ ∀ x, x ∈ xs → P x) ∧ SH w0 w (As.set n (aB b ((xs.map vInt).map Ce.v))) := by
  obtain ⟨⟨xs, hx⟩, h⟩ := h.exAt (α := { xs : List Int // xs.length = k ∧ ∀ x, x ∈ xs → P x }) (B := fun y => aB b ((y.1.map vInt).map Ce.v)) n hA (fun H ⟨xs, hx, hH⟩ => ⟨⟨xs, hx⟩, hH⟩)
  exact ⟨xs, hx, h⟩
theorem SH.toI {w0 w : World} {As : List Asr} (h : SH w0 w As) (n : Nat) {b : Nat} {vs : List Value} (xs : List Int) {P : Int → Prop} (hA : As[n]? = some (aB b (vs.map Ce.v))) (hv : vs = xs.map vInt) (hP : ∀ x, x ∈ xs → P x) : SH w0 w (As.set n (aI b xs.length P)) := by
  subst hv
  exact h.weak n hA (fun H hH => ⟨xs, ⟨rfl, hP⟩, hH⟩)
/-- One of them is read. -/
theorem SH.rI {w0 w : World} {As : List Asr} (h : SH w0 w As) (n : Nat) {b k i : Nat} {P : Int → Prop} {G : Int → Prop} (hA : As[n]? = some (aI b k P)) (hi : i < k) (hk : ∀ x, P x → G x) : ∃ x : Int, w.cell? ⟨b, i, none⟩ = some (.int .i64 x) ∧ G x := by
  obtain ⟨xs, ⟨hl, hP⟩, h⟩ := h.openI n hA
  have hn := (List.getElem?_eq_some_iff.1 hA).1
  have hx : xs[i]? = some xs[i] := List.getElem?_eq_getElem (by omega)
  exact ⟨xs[i], h.cell n (List.getElem?_set_self hn) (by rw [List.getElem?_map, List.getElem?_map, hx]; rfl), hk _ (hP _ (List.mem_of_getElem? hx))⟩
theorem SH.rIP {w0 w : World} {As : List Asr} (h : SH w0 w As) (n : Nat) {b k i : Nat} {P : Int → Prop} {G : Int → Prop} (hA : As[n]? = some (aI b k P)) (hi : i < k) (hk : ∀ x, P x → G x) : ∃ x : Int, w.cell? ((⟨b, 0, none⟩ : Addr).add i) = some (.int .i64 x) ∧ G x := by
  obtain ⟨x, h1, h2⟩ := h.rI n (i := i) hA hi hk
  exact ⟨x, by rw [add_mk, Nat.zero_add]; exact h1, h2⟩
/-- One of them by a number that was counted. -/
theorem SH.rIx {w0 w : World} {As : List Asr} (h : SH w0 w As) (n : Nat) {b k i : Nat} {P : Int → Prop} {G : Int → Prop} (hA : As[n]? = some (aI b k P)) (hi : i < k) (hk : ∀ x, P x → G x) : ∃ x : Int, w.cell? ((⟨b, 0, none⟩ : Addr).add (i * 1)) = some (.int .i64 x) ∧ G x := by
  rw [Nat.mul_one]; exact h.rIP n hA hi hk
/-- One of them is written. -/
theorem SH.sI {w0 w : World} {As : List Asr} (h : SH w0 w As) (n : Nat) {b k i : Nat} {P : Int → Prop} {y : Int} {K : World → Prop} (hA : As[n]? = some (aI b k P)) (hi : i < k) (hy : P y) (hk : ∀ w2, SH w0 w2 As → K w2) : May w ⟨b, i, none⟩ ∧ LetW (w.setCell ⟨b, i, none⟩ (.int .i64 y)) K := by
  obtain ⟨xs, ⟨hl, hP⟩, h⟩ := h.openI n hA
  have hn := (List.getElem?_eq_some_iff.1 hA).1
  have hx : xs[i]? = some xs[i] := List.getElem?_eq_getElem (by omega)
  have hi' : i < xs.length := by omega
  refine h.setV n (vs := xs.map vInt) (x := vInt xs[i]) (List.getElem?_set_self hn) (by rw [List.getElem?_map, hx]; rfl) (fun w2 h2 _ => hk w2 ?_)
  rw [List.set_set] at h2
  have h3 := h2.toI n (vs := (xs.map vInt).set i (vInt y)) (xs.set i y) (P := P) (List.getElem?_set_self hn) (by rw [List.map_set]) (fun x hxm => by
    rcases List.mem_or_eq_of_mem_set hxm with h4 | rfl
    · exact hP x h4
    · exact hy)
  rw [List.set_set, List.length_set, hl, set_self hA] at h3
  exact h3
/-- All of them are written. -/
theorem SH.pI {w0 w : World} {As : List Asr} (h : SH w0 w As) (n : Nat) {b k : Nat} {P : Int → Prop} (ys : List Int) {us : List Value} {K : World → Prop} (hA : As[n]? = some (aI b k P)) (hu : us = ys.map vInt) (hl : ys.length = k) (hy : ∀ y, y ∈ ys → P y) (hk : ∀ w2, SH w0 w2 As → K w2) : MayN w ⟨b, 0, none⟩ k ∧ LetW (Den.puts w ⟨b, 0, none⟩ 0 us) K := by
  obtain ⟨xs, ⟨hlx, hP⟩, h⟩ := h.openI n hA
  have hn := (List.getElem?_eq_some_iff.1 hA).1
  subst hu
  refine h.put n (vs := xs.map vInt) (List.getElem?_set_self hn) (by rw [List.length_map]; exact hl) (by rw [List.length_map]; exact hlx) (fun w2 h2 _ => hk w2 ?_)
  rw [List.set_set] at h2
  have h3 := h2.toI n ys (P := P) (List.getElem?_set_self hn) rfl hy
  rw [List.set_set, hl, set_self hA] at h3
  exact h3
/-! ## The cursor of a draw -/
/-- The bytes it runs over are lent. -/
structure CurB (w : World) (s : Sl) : Prop where
  few : s.len ≤ 1048576
  at_ : ∀ k, k < s.len → ∃ q n, s.a = some q ∧ w.cell? (q.add (k * 1)) = some (.int .u8 n) ∧ 0 ≤ n ∧ n ≤ 255
def aC (b : Nat) (s : Sl) : Asr := fun H => ∃ y : Int × Int, (0 ≤ y.1 ∧ y.1 ≤ 1048576) ∧ aB b ([Value.slice s.a s.len s.cap, .int .i64 y.1, .int .i64 y.2].map Ce.v) H
theorem SH.openC {w0 w : World} {As : List Asr} (h : SH w0 w As) (n : Nat) {b : Nat} {s : Sl} (hA : As[n]? = some (aC b s)) : ∃ i x : Int, (0 ≤ i ∧ i ≤ 1048576) ∧ SH w0 w (As.set n (aB b ([Value.slice s.a s.len s.cap, .int .i64 i, .int .i64 x].map Ce.v))) := by
  obtain ⟨⟨y, hy⟩, h⟩ := h.exAt (α := { y : Int × Int // 0 ≤ y.1 ∧ y.1 ≤ 1048576 }) (B := fun z => aB b ([Value.slice s.a s.len s.cap, .int .i64 z.1.1, .int .i64 z.1.2].map Ce.v)) n hA (fun H ⟨y, hy, hH⟩ => ⟨⟨y, hy⟩, hH⟩)
  exact ⟨y.1, y.2, hy, h⟩
theorem SH.closeC {w0 w : World} {As Bs : List Asr} (n : Nat) {b : Nat} {s : Sl} {i x : Int} (hA : As[n]? = some (aC b s)) (h : SH w0 w Bs) (hB : Bs = As.set n (aB b ([Value.slice s.a s.len s.cap, .int .i64 i, .int .i64 x].map Ce.v))) (hi : 0 ≤ i ∧ i ≤ 1048576) : SH w0 w As := by
  subst hB
  have hn := (List.getElem?_eq_some_iff.1 hA).1
  have h3 := h.weak n (B := aC b s) (List.getElem?_set_self hn) (fun H hH => ⟨(i, x), hi, hH⟩)
  rw [List.set_set, set_self hA] at h3
  exact h3
theorem andI_255 (x : Int) : 0 ≤ andI .i64 x 255 ∧ andI .i64 x 255 ≤ 255 := by
  have h : andI .i64 x 255 = IntKind.i64.wrap ((bvI x &&& 255 : Nat) : Int) := by
    unfold andI
    show IntKind.i64.wrap ((BitVec.ofInt 64 x &&& BitVec.ofInt 64 255).toNat : Int) = _
    rw [BitVec.toNat_and]; rfl
  have hl : bvI x &&& 255 ≤ 255 := Nat.and_le_right
  rw [h, w64 (by omega) (by omega)]
  omega
/-- What a draw of a number answers: the parts are as they were. -/
def KD (w0 : World) (As : List Asr) (P : Int → Prop) (v : Value) (w' : World) : Prop := ∃ x : Int, v = .int .i64 x ∧ P x ∧ SH w0 w' As
def KDb (w0 : World) (As : List Asr) (v : Value) (w' : World) : Prop := ∃ b : Bool, v = .bool b ∧ SH w0 w' As
abbrev below (n x : Int) : Prop := 0 ≤ x ∧ (x < n ∨ (n ≤ 0 ∧ x = 0))
end Go.Den

/- Structs of numbers compared cell by cell: SameAt from a table check. Conditions: none. -/
set_option linter.unusedVariables false
set_option linter.unusedSimpArgs false
namespace Go.Den
open Go
end Go.Den

/- Rows of records written over in their places (copy within a row), rows made shorter. Conditions: none. -/
set_option linter.unusedVariables false
set_option linter.unusedSimpArgs false
namespace Go.Den
open Go
theorem flatMap_take {α : Type} {f : α → List Value} {z : Nat} (hf : ∀ x, (f x).length = z) : ∀ (l : List α) (i : Nat), (l.flatMap f).take (i * z) = (l.take i).flatMap f
  | [], i => by simp
  | x :: r, 0 => by simp
  | x :: r, i + 1 => by
    rw [List.flatMap_cons, List.take_succ_cons, List.flatMap_cons, ← flatMap_take hf r i, Nat.succ_mul, Nat.add_comm (i * z) z, ← hf x, List.take_length_add_append]
/-- A row made shorter. -/
theorem SH.shrinkR {α : Type} {f : α → List Value} {w0 w : World} {F : List Asr} {s : Sl} {z : Nat} {a b : List α} (hf : ∀ x, (f x).length = z) (h : SH w0 w (aRow s z (recs f (a ++ b)) :: F)) : SH w0 w (aRow ⟨s.a, a.length, s.cap⟩ z (recs f a) :: F) := by
  obtain ⟨H1, H2, ⟨hl, hle, h1⟩, h2, hs⟩ := h.cut
  rw [recs_len, List.length_append] at hl
  refine SH.mk (H1 := H1) ⟨by rw [recs_len], by show a.length ≤ s.cap; omega, ?_⟩ h2 hs
  rcases h1 with ⟨hc, rfl⟩ | ⟨b', cs, H', ha, rfl, hcl, ht⟩
  · exact .inl ⟨hc, rfl⟩
  · rw [recs_raw] at ht
    obtain ⟨rfl, htk⟩ := TE.ofRaw ht
    refine .inr ⟨b', cs, [], ha, rfl, hcl, ?_⟩
    rw [recs_raw]
    have h4 := TE.raw (a.map f) (z := z) (fun u hu => by obtain ⟨x, _, rfl⟩ := List.mem_map.1 hu; exact hf x) (cs.drop (a.length * z))
    have h5 : (a.map f).flatten = cs.take (a.length * z) := by
      rw [List.length_map, ← List.flatMap_def] at htk
      rw [← List.flatMap_def, ← List.take_left (l₁ := a) (l₂ := b), ← flatMap_take hf, ← htk, List.take_take, Nat.min_eq_left]
      · simp
      · rw [List.length_append]; exact Nat.mul_le_mul_right _ (by simp)
    rw [h5, List.take_append_drop] at h4
    exact h4
end Go.Den

/- Bags: parts that belong to the elements of a list, as one part. Conditions: none. -/
set_option linter.unusedVariables false
set_option linter.unusedSimpArgs false
namespace Go.Den
open Go
theorem All_app {As Bs : List Asr} : ∀ {H : HL}, All (As ++ Bs) H ↔ ∃ H1 H2, H = H1 ++ H2 ∧ All As H1 ∧ All Bs H2 := by
  induction As with
  | nil => intro H; exact ⟨fun h => ⟨[], H, rfl, rfl, h⟩, fun ⟨H1, H2, e, h1, h2⟩ => by have h1 : H1 = [] := h1; subst h1; rw [e]; exact h2⟩
  | cons A As ih =>
    intro H
    constructor
    · rintro ⟨G1, G2, rfl, hA, h⟩
      obtain ⟨H1, H2, rfl, h1, h2⟩ := ih.1 h
      exact ⟨G1 ++ H1, H2, by simp, ⟨G1, H1, rfl, hA, h1⟩, h2⟩
    · rintro ⟨H1, H2, rfl, ⟨G1, G2, rfl, hA, h1⟩, h2⟩
      exact ⟨G1, G2 ++ H2, by simp, hA, ih.2 ⟨G2, H2, rfl, h1, h2⟩⟩
/-- Parts as one part. -/
theorem SH.allIn {w0 w : World} {As F : List Asr} (h : SH w0 w (As ++ F)) : SH w0 w (All As :: F) := by
  obtain ⟨H, h1, h2⟩ := h
  obtain ⟨H1, H2, rfl, h3, h4⟩ := All_app.1 h1
  exact ⟨_, ⟨H1, H2, rfl, h3, h4⟩, h2⟩
theorem SH.allOut {w0 w : World} {As F : List Asr} (h : SH w0 w (All As :: F)) : SH w0 w (As ++ F) := by
  obtain ⟨H, ⟨H1, H2, rfl, h3, h4⟩, h2⟩ := h
  exact ⟨_, All_app.2 ⟨H1, H2, rfl, h3, h4⟩, h2⟩
def aBag {α : Type} (f : α → Asr) (l : List α) : Asr := All (l.map f)
theorem SH.bagNil {α : Type} {w0 w : World} {F : List Asr} (f : α → Asr) (h : SH w0 w F) : SH w0 w (aBag f [] :: F) := SH.allIn (As := []) h
theorem SH.bagPerm {α : Type} {w0 w : World} {F : List Asr} {f : α → Asr} {l l' : List α} (h : SH w0 w (aBag f l :: F)) (p : l.Perm l') : SH w0 w (aBag f l' :: F) :=
  SH.allIn ((SH.allOut h).perm ((p.map f).append_right F))
theorem SH.bagCons {α : Type} {w0 w : World} {F : List Asr} {f : α → Asr} {x : α} {l : List α} (h : SH w0 w (f x :: aBag f l :: F)) : SH w0 w (aBag f (x :: l) :: F) := by
  have h := SH.allOut h.p1
  refine SH.allIn (h.perm ?_)
  show (l.map f ++ f x :: F).Perm (f x :: (l.map f ++ F))
  exact List.perm_middle
theorem SH.bagUn {α : Type} {w0 w : World} {F : List Asr} {f : α → Asr} {x : α} {l : List α} (h : SH w0 w (aBag f (x :: l) :: F)) : SH w0 w (f x :: aBag f l :: F) := by
  have h := SH.allOut h
  have h : SH w0 w (f x :: (l.map f ++ F)) := h
  have h : SH w0 w (l.map f ++ (f x :: F)) := h.perm List.perm_middle.symm
  exact (SH.allIn h).p1
theorem SH.bagSnoc {α : Type} {w0 w : World} {F : List Asr} {f : α → Asr} {x : α} {l : List α} (h : SH w0 w (f x :: aBag f l :: F)) : SH w0 w (aBag f (l ++ [x]) :: F) :=
  (SH.bagCons h).bagPerm (List.perm_append_comm (l₁ := [x]) (l₂ := l))
theorem SH.bagOut {α : Type} {w0 w : World} {F : List Asr} {f : α → Asr} {l : List α} (h : SH w0 w (aBag f l :: F)) {i : Nat} {x : α} (hx : l[i]? = some x) : SH w0 w (f x :: aBag f (l.eraseIdx i) :: F) :=
  (h.bagPerm (perm_front hx)).bagUn
theorem SH.bagIn {α : Type} {w0 w : World} {F : List Asr} {f : α → Asr} {l : List α} {i : Nat} {x y : α} (hx : l[i]? = some x) (h : SH w0 w (f y :: aBag f (l.eraseIdx i) :: F)) : SH w0 w (aBag f (l.set i y) :: F) :=
  (SH.bagCons h).bagPerm (set_perm hx)
theorem SH.bagSplit {α : Type} {w0 w : World} {F : List Asr} {f : α → Asr} {a b : List α} (h : SH w0 w (aBag f (a ++ b) :: F)) : SH w0 w (aBag f a :: aBag f b :: F) := by
  have h := SH.allOut h
  rw [List.map_append, List.append_assoc] at h
  have h := SH.allIn h
  have h : SH w0 w (b.map f ++ (aBag f a :: F)) := h.perm (by exact List.perm_middle.symm)
  exact (SH.allIn h).p1
end Go.Den

/- The types of the program as the plainer reading wants them, held against the program. Conditions: none. -/
namespace Go.Proofs.Ytenhcpjlkmbedaa
open Go Go.Den
def ti0 : TI := ⟨.tuple [], [.any], [.tuple #[]], 0⟩
theorem tiok0 : TIOk Try.prog 0 ti0 := ⟨⟨Try.t0, (.tuple #[] : Value), by kernel_rfl, by kernel_rfl, by kernel_rfl, by kernel_rfl, by kernel_rfl⟩, Try.underlying0, by kernel_rfl, by kernel_rfl⟩
def ti2 : TI := ⟨.int .i64, [.int .i64], [.int .i64 0], 8⟩
theorem tiok2 : TIOk Try.prog 2 ti2 := ⟨⟨Try.t2, (.int .i64 0 : Value), by kernel_rfl, by kernel_rfl, by kernel_rfl, by kernel_rfl, by kernel_rfl⟩, Try.underlying2, by kernel_rfl, by kernel_rfl⟩
def ti3 : TI := ⟨.int .i64, [.int .i64], [.int .i64 0], 8⟩
theorem tiok3 : TIOk Try.prog 3 ti3 := ⟨⟨Try.t3, (.int .i64 0 : Value), by kernel_rfl, by kernel_rfl, by kernel_rfl, by kernel_rfl, by kernel_rfl⟩, Try.underlying3, by kernel_rfl, by kernel_rfl⟩
def ti4 : TI := ⟨.bool, [.bool], [.bool false], 1⟩
theorem tiok4 : TIOk Try.prog 4 ti4 := ⟨⟨Try.t4, (.bool false : Value), by kernel_rfl, by kernel_rfl, by kernel_rfl, by kernel_rfl, by kernel_rfl⟩, Try.underlying4, by kernel_rfl, by kernel_rfl⟩
def ti5 : TI := ⟨.int .u8, [.int .u8], [.int .u8 0], 1⟩
theorem tiok5 : TIOk Try.prog 5 ti5 := ⟨⟨Try.t5, (.int .u8 0 : Value), by kernel_rfl, by kernel_rfl, by kernel_rfl, by kernel_rfl, by kernel_rfl⟩, Try.underlying5, by kernel_rfl, by kernel_rfl⟩
def ti9 : TI := ⟨.str, [.str], [.string (⟨#[]⟩ : ByteArray)], 16⟩
theorem tiok9 : TIOk Try.prog 9 ti9 := ⟨⟨Try.t9, (.string (⟨#[]⟩ : ByteArray) : Value), by kernel_rfl, by kernel_rfl, by kernel_rfl, by kernel_rfl, by kernel_rfl⟩, Try.underlying9, by kernel_rfl, by kernel_rfl⟩
def ti41 : TI := ⟨.slice 5, [.slice], [.slice none 0 0], 24⟩
theorem tiok41 : TIOk Try.prog 41 ti41 := ⟨⟨Try.t41, (.slice none 0 0 : Value), by kernel_rfl, by kernel_rfl, by kernel_rfl, by kernel_rfl, by kernel_rfl⟩, Try.underlying41, by kernel_rfl, by kernel_rfl⟩
def ti43 : TI := ⟨.slice 107, [.slice], [.slice none 0 0], 24⟩
theorem tiok43 : TIOk Try.prog 43 ti43 := ⟨⟨Try.t43, (.slice none 0 0 : Value), by kernel_rfl, by kernel_rfl, by kernel_rfl, by kernel_rfl, by kernel_rfl⟩, Try.underlying43, by kernel_rfl, by kernel_rfl⟩
def ti45 : TI := ⟨.struct [(2, 0), (43, 1)], [.int .i64, .slice], [.int .i64 0, .slice none 0 0], 32⟩
theorem tiok45 : TIOk Try.prog 45 ti45 := ⟨⟨Try.t45, (.agg #[.int .i64 0, .slice none 0 0] : Value), by kernel_rfl, by kernel_rfl, by kernel_rfl, by kernel_rfl, by kernel_rfl⟩, ⟨_, Try.underlying45, by kernel_rfl⟩, by kernel_rfl, by kernel_rfl⟩
def ti47 : TI := ⟨.tuple [41, 4], [.any], [.tuple #[.slice none 0 0, .bool false]], 0⟩
theorem tiok47 : TIOk Try.prog 47 ti47 := ⟨⟨Try.t47, (.tuple #[.slice none 0 0, .bool false] : Value), by kernel_rfl, by kernel_rfl, by kernel_rfl, by kernel_rfl, by kernel_rfl⟩, Try.underlying47, by kernel_rfl, by kernel_rfl⟩
def ti50 : TI := ⟨.tuple [45, 2], [.any], [.tuple #[.agg #[.int .i64 0, .slice none 0 0], .int .i64 0]], 0⟩
theorem tiok50 : TIOk Try.prog 50 ti50 := ⟨⟨Try.t50, (.tuple #[.agg #[.int .i64 0, .slice none 0 0], .int .i64 0] : Value), by kernel_rfl, by kernel_rfl, by kernel_rfl, by kernel_rfl, by kernel_rfl⟩, Try.underlying50, by kernel_rfl, by kernel_rfl⟩
def ti102 : TI := ⟨.ptr 175, [.ptr], [.pointer none], 8⟩
theorem tiok102 : TIOk Try.prog 102 ti102 := ⟨⟨Try.t102, (.pointer none : Value), by kernel_rfl, by kernel_rfl, by kernel_rfl, by kernel_rfl, by kernel_rfl⟩, Try.underlying102, by kernel_rfl, by kernel_rfl⟩
def ti107 : TI := ⟨.struct [(2, 0), (2, 1), (2, 2), (41, 3)], [.int .i64, .int .i64, .int .i64, .slice], [.int .i64 0, .int .i64 0, .int .i64 0, .slice none 0 0], 48⟩
theorem tiok107 : TIOk Try.prog 107 ti107 := ⟨⟨Try.t107, (.agg #[.int .i64 0, .int .i64 0, .int .i64 0, .slice none 0 0] : Value), by kernel_rfl, by kernel_rfl, by kernel_rfl, by kernel_rfl, by kernel_rfl⟩, ⟨_, Try.underlying107, by kernel_rfl⟩, by kernel_rfl, by kernel_rfl⟩
def ti108 : TI := ⟨.int .u64, [.int .u64], [.int .u64 0], 8⟩
theorem tiok108 : TIOk Try.prog 108 ti108 := ⟨⟨Try.t108, (.int .u64 0 : Value), by kernel_rfl, by kernel_rfl, by kernel_rfl, by kernel_rfl, by kernel_rfl⟩, Try.underlying108, by kernel_rfl, by kernel_rfl⟩
def ti112 : TI := ⟨.tuple [108, 4], [.any], [.tuple #[.int .u64 0, .bool false]], 0⟩
theorem tiok112 : TIOk Try.prog 112 ti112 := ⟨⟨Try.t112, (.tuple #[.int .u64 0, .bool false] : Value), by kernel_rfl, by kernel_rfl, by kernel_rfl, by kernel_rfl, by kernel_rfl⟩, Try.underlying112, by kernel_rfl, by kernel_rfl⟩
def ti119 : TI := ⟨.tuple [45, 4], [.any], [.tuple #[.agg #[.int .i64 0, .slice none 0 0], .bool false]], 0⟩
theorem tiok119 : TIOk Try.prog 119 ti119 := ⟨⟨Try.t119, (.tuple #[.agg #[.int .i64 0, .slice none 0 0], .bool false] : Value), by kernel_rfl, by kernel_rfl, by kernel_rfl, by kernel_rfl, by kernel_rfl⟩, Try.underlying119, by kernel_rfl, by kernel_rfl⟩
def ti124 : TI := ⟨.slice 2, [.slice], [.slice none 0 0], 24⟩
theorem tiok124 : TIOk Try.prog 124 ti124 := ⟨⟨Try.t124, (.slice none 0 0 : Value), by kernel_rfl, by kernel_rfl, by kernel_rfl, by kernel_rfl, by kernel_rfl⟩, Try.underlying124, by kernel_rfl, by kernel_rfl⟩
def ti175 : TI := ⟨.struct [(41, 0), (3, 1), (2, 2)], [.slice, .int .i64, .int .i64], [.slice none 0 0, .int .i64 0, .int .i64 0], 40⟩
theorem tiok175 : TIOk Try.prog 175 ti175 := ⟨⟨Try.t175, (.agg #[.slice none 0 0, .int .i64 0, .int .i64 0] : Value), by kernel_rfl, by kernel_rfl, by kernel_rfl, by kernel_rfl, by kernel_rfl⟩, ⟨_, Try.underlying175, by kernel_rfl⟩, by kernel_rfl, by kernel_rfl⟩
def ti200 : TI := ⟨.struct [(2, 0), (2, 1), (2, 2), (2, 3), (2, 4)], [.int .i64, .int .i64, .int .i64, .int .i64, .int .i64], [.int .i64 0, .int .i64 0, .int .i64 0, .int .i64 0, .int .i64 0], 40⟩
theorem tiok200 : TIOk Try.prog 200 ti200 := ⟨⟨Try.t200, (.agg #[.int .i64 0, .int .i64 0, .int .i64 0, .int .i64 0, .int .i64 0] : Value), by kernel_rfl, by kernel_rfl, by kernel_rfl, by kernel_rfl, by kernel_rfl⟩, ⟨_, Try.underlying200, by kernel_rfl⟩, by kernel_rfl, by kernel_rfl⟩
def ti214 : TI := ⟨.slice 9, [.slice], [.slice none 0 0], 24⟩
theorem tiok214 : TIOk Try.prog 214 ti214 := ⟨⟨Try.t214, (.slice none 0 0 : Value), by kernel_rfl, by kernel_rfl, by kernel_rfl, by kernel_rfl, by kernel_rfl⟩, Try.underlying214, by kernel_rfl, by kernel_rfl⟩
def tt : Tab := [(0, ti0), (2, ti2), (3, ti3), (4, ti4), (5, ti5), (9, ti9), (41, ti41), (43, ti43), (45, ti45), (47, ti47), (50, ti50), (102, ti102), (107, ti107), (108, ti108), (112, ti112), (119, ti119), (124, ti124), (175, ti175), (200, ti200), (214, ti214)]
theorem tt_ok : TabOk Try.prog tt := ⟨tiok0, tiok2, tiok3, tiok4, tiok5, tiok9, tiok41, tiok43, tiok45, tiok47, tiok50, tiok102, tiok107, tiok108, tiok112, tiok119, tiok124, tiok175, tiok200, tiok214, trivial⟩
theorem mix : Try.prog.follows .mixedOrders = true := by kernel_rfl
end Go.Proofs.Ytenhcpjlkmbedaa
