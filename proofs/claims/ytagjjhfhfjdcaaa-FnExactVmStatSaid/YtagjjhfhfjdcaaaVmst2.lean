/- Part 2 of 5: plain readings of code, rules for them, and a proof over them, joined by a program. Conditions: none. -/
import Derived.Test.YtagjjhfhfjdcaaaVmst1
import Derived.Below
import Derived.IntWalk
import Derived.Laws.Externs
import Derived.Laws.Strings
import Derived.WideShapes
import Derived.Deep.Slices
import Derived.Laws.StructEq
import Derived.Test.YtagjjhfhfjdcaaaProg
/- A region whose order is drawn, where several orders of what is done are left open: all of them, checked, are enough. Conditions: the table of types is the program's (TabOk); the program follows the departure of mixed orders. -/
set_option linter.unusedVariables false
set_option linter.unusedSimpArgs false
namespace Go.Den
variable {P : Program}
section
variable {ops : Array Oper} {Q : Exit → Act → World → Prop} {quiet : Nat → Bool} {anc : Nat → Nat → Bool}
def GoodT (P : Program) (ops : Array Oper) (Q : Exit → Act → World → Prop) (quiet : Nat → Bool) (anc : Nat → Nat → Bool) : OT → List (Nat × (World → Prop)) → Act → World → Prop
  | .leaf, pend, a, w => Q .normal a w
  | .stop, pend, a, w => True
  | .alt l t more, pend, a, w => Good P ops (fun pend' a' w' => GoodT P ops Q quiet anc t pend' a' w') quiet anc l pend a w ∧ GoodT P ops Q quiet anc more pend a w
theorem GoodT.mono : ∀ (t : OT), RMono (GoodT P ops Q quiet anc t)
  | .leaf => fun pend pend' a w hp h => h
  | .stop => fun pend pend' a w hp h => trivial
  | .alt l t more => fun pend pend' a w hp h => by
    unfold GoodT at h ⊢
    exact ⟨Good.pend (GoodT.mono t) hp h.1, GoodT.mono more _ _ _ _ hp h.2⟩
theorem Good.app {R : List (Nat × (World → Prop)) → Act → World → Prop} : ∀ (A B : List Nat) (pend : List (Nat × (World → Prop))) (a : Act) (w : World), Good P ops (fun p a w => Good P ops R quiet anc B p a w) quiet anc A pend a w → Good P ops R quiet anc (A ++ B) pend a w
  | [], B, pend, a, w, h => h
  | i :: A, B, pend, a, w, h => by
    obtain ⟨o, ho, h1, h2, h3⟩ := h
    refine ⟨o, ho, fun hw hq => ?_, fun hw hq => ?_, fun hw => Good.app A B _ _ _ (h3 hw)⟩
    · obtain ⟨v, hr, hg⟩ := h1 hw hq
      exact ⟨v, hr, Good.app A B _ _ _ hg⟩
    · exact Oper.wp_mono (fun a' w' hk => ⟨hk.1, Good.app A B _ _ _ hk.2⟩) (h2 hw hq)
theorem Good.ends {R R' : List (Nat × (World → Prop)) → Act → World → Prop} (hR : ∀ p a w, R p a w → R' p a w) : ∀ (A : List Nat) (pend : List (Nat × (World → Prop))) (a : Act) (w : World), Good P ops R quiet anc A pend a w → Good P ops R' quiet anc A pend a w
  | [], pend, a, w, h => hR _ _ _ h
  | i :: A, pend, a, w, h => by
    obtain ⟨o, ho, h1, h2, h3⟩ := h
    refine ⟨o, ho, fun hw hq => ?_, fun hw hq => ?_, fun hw => Good.ends hR A _ _ _ (h3 hw)⟩
    · obtain ⟨v, hr, hg⟩ := h1 hw hq
      exact ⟨v, hr, Good.ends hR A _ _ _ hg⟩
    · exact Oper.wp_mono (fun a' w' hk => ⟨hk.1, Good.ends hR A _ _ _ hk.2⟩) (h2 hw hq)
end
theorem memN_iff {i : Nat} : ∀ {l : List Nat}, memN i l = true ↔ i ∈ l
  | [] => by simp [memN]
  | x :: r => by
    unfold memN
    split
    · rename_i h; simp [Nat.eq_of_beq_eq_true h]
    · rename_i h
      have := Nat.ne_of_beq_eq_false h
      rw [memN_iff]; simp [Ne.symm this]
theorem rmN_out {i : Nat} : ∀ {l l' : List Nat}, rmN i l = some l' → l.Perm (i :: l')
  | [], l', h => by simp [rmN] at h
  | x :: r, l', h => by
    unfold rmN at h
    split at h
    · rename_i hb; injection h with h; subst h; rw [Nat.eq_of_beq_eq_true hb]
    · split at h
      · cases h
      · rename_i l hl
        injection h with h; subst h
        exact ((rmN_out hl).cons x).trans (List.Perm.swap i x l)
theorem rmAll_out : ∀ {L S S' : List Nat}, rmAll L S = some S' → S.Perm (L ++ S')
  | [], S, S', h => by injection h with h; subst h; exact List.Perm.refl _
  | i :: r, S, S', h => by
    unfold rmAll at h
    split at h
    · cases h
    · rename_i S1 h1
      exact (rmN_out h1).trans ((rmAll_out h).cons i)
theorem anyAnc_out {m : Nat} : ∀ {l : List Nat}, anyAnc m l = true → ∃ x, x ∈ l ∧ Nat.testBit m x = true
  | [], h => by cases h
  | x :: r, h => by
    unfold anyAnc at h
    split at h
    · rename_i hb; exact ⟨x, by simp, hb⟩
    · obtain ⟨y, hy, hb⟩ := anyAnc_out h; exact ⟨y, by simp [hy], hb⟩
theorem coverOk_out {al hs S : List Nat} : ∀ {l : List Nat}, coverOk al hs S l = true → ∀ j, j ∈ l → j ∈ hs ∨ ∃ x, x ∈ S ∧ ancF al j x = true
  | [], h, j, hj => by cases hj
  | y :: r, h, j, hj => by
    unfold coverOk at h
    split at h
    · cases h
    · rename_i h0
      rcases List.mem_cons.1 hj with rfl | hj
      · by_cases h1 : memN j hs = true
        · exact .inl (memN_iff.1 h1)
        · have h1 : memN j hs = false := by simpa using h1
          by_cases h2 : anyAnc (nth al j) S = true
          · exact .inr (anyAnc_out h2)
          · exact absurd (by simpa using h2) (h0 h1)
      · exact coverOk_out h j hj
theorem quietAll_out {all : List Oper} : ∀ {l : List Nat}, quietAll all l = true → ∀ i, i ∈ l → quietF all i = true
  | [], h, i, hi => by cases hi
  | y :: r, h, i, hi => by
    unfold quietAll at h
    split at h
    · rename_i o q hd
      split at h
      · rename_i hq
        rcases List.mem_cons.1 hi with rfl | hi
        · simp only [quietF, hd]; exact hq
        · exact quietAll_out h i hi
      · cases h
    · cases h
/-- A choice among what may be done first. -/
theorem headsT_get {ops : Array Oper} {Q : Exit → Act → World → Prop} {all : List Oper} {al A S : List Nat} {i : Nat} : ∀ {T : OT}, treeOk all al T A S = true → i ∈ headsT T →
    ∃ L t S', rmAll (i :: L) S = some S' ∧ pairsOk1 all al i A = true ∧ quietAll all L = true ∧ pairsOk all al A L = true ∧ topOk al S' t = true ∧ treeOk all al t (A ++ L) S' = true ∧
      ∀ pend a w, GoodT P ops Q (quietF all) (ancF al) T pend a w → Good P ops (GoodT P ops Q (quietF all) (ancF al) t) (quietF all) (ancF al) (i :: L) pend a w
  | .leaf, h, hi => by cases hi
  | .stop, h, hi => by cases hi
  | .alt [] t more, h, hi => by cases hi
  | .alt (j :: L) t more, h, hi => by
    unfold treeOk at h
    simp only at h
    split at h
    · cases h
    · rename_i S' hS
      split at h
      · rename_i h1 h2 h3 h4 h5 h6
        by_cases hij : i = j
        · subst hij
          exact ⟨L, t, S', hS, h1, h2, h3, h4, h5, fun pend a w hg => by unfold GoodT at hg; exact hg.1⟩
        · have hi' : i ∈ headsT more := by
            unfold headsT at hi
            rcases List.mem_cons.1 hi with h | h
            · exact absurd h hij
            · exact h
          obtain ⟨L', t', S'', g1, g2, g3, g4, g5, g6, g7⟩ := headsT_get h6 hi'
          exact ⟨L', t', S'', g1, g2, g3, g4, g5, g6, fun pend a w hg => by unfold GoodT at hg; exact g7 pend a w hg.2⟩
      · cases h
theorem good_anyT {all : List Oper} {al : List Nat} {Q : Exit → Act → World → Prop} (hsel : ∀ (j : Nat) (o : Oper) cs b, all.toArray[j]? = some o → o.op ≠ .select cs b)
    (hedge : ∀ i o, all.toArray[i]? = some o → ∀ e ∈ o.after, Region.binds .any e = true → e.on < i)
    (hanc : ∀ i o, all.toArray[i]? = some o → ∀ x, ancF al i x = true → ∃ e ∈ o.after, Region.binds .any e = true ∧ (e.on = x ∨ ancF al e.on x = true)) :
    ∀ (fuel : Nat) (listed : Array Bool) (A A0 S : List Nat) (T : OT) (a : Act) (w : World), listed.size = all.toArray.size → (A ++ S).length ≤ fuel → (A ++ S).Nodup → (∀ j, j < all.toArray.size → (listed.getD j true = false ↔ j ∈ A ++ S)) → (∀ j, j ∈ A ++ S → j < all.toArray.size) →
      (∀ i o, all.toArray[i]? = some o → i ∉ A ++ S → ∀ e ∈ o.after, Region.binds .any e = true → e.on ∉ A ++ S) →
      (∀ x, x ∈ A → x ∈ A0) → (∀ x, x ∈ A → quietF all x = true) → A.Pairwise (fun x i => pairOk all al x i = true) → topOk al S T = true → treeOk all al T A0 S = true →
      Good P all.toArray (GoodT P all.toArray Q (quietF all) (ancF al) T) (quietF all) (ancF al) A [] a w → wpAny P .any all.toArray Q fuel listed a w := by
  intro fuel
  induction fuel with
  | zero =>
    intro listed A A0 S T a w hsz hlen hnd hl hlt hcl hsub hqu hpw htop htr hg
    have h0 : A ++ S = [] := List.eq_nil_of_length_eq_zero (by omega)
    obtain ⟨rfl, rfl⟩ := List.append_eq_nil_iff.1 h0
    have hT : T = .leaf := by unfold topOk at htop; cases T <;> first | rfl | cases htop
    subst hT
    refine ⟨?_, hg⟩
    apply List.eq_nil_iff_forall_not_mem.2
    intro j hj
    rw [mem_ready] at hj
    obtain ⟨h0, o, ho, _⟩ := hj
    have hjl : j < all.toArray.size := (Array.getElem?_eq_some_iff.1 ho).1
    have := (hl j hjl).1 h0
    simp at this
  | succ fuel ih =>
    intro listed A A0 S T a w hsz hlen hnd hl hlt hcl hsub hqu hpw htop htr hg
    have ancl : ∀ i, i < all.toArray.size → (∀ o, all.toArray[i]? = some o → ∀ e ∈ o.after, Region.binds .any e = true → e.on ∉ A ++ S) → ∀ x, ancF al i x = true → x ∉ A ++ S := by
      intro i
      induction i using Nat.strongRecOn with
      | _ i ihi =>
        intro hi hh x hx
        have ho : all.toArray[i]? = some all.toArray[i] := Array.getElem?_eq_getElem hi
        obtain ⟨e, he, hb, hor⟩ := hanc i _ ho x hx
        have hei := hedge i _ ho e he hb
        have hen := hh _ ho e he hb
        rcases hor with rfl | hor
        · exact hen
        · exact ihi e.on hei (by omega) (fun o' ho' => hcl e.on o' ho' hen) x hor
    refine ⟨fun hr => ?_, fun i hi => ?_⟩
    · by_cases h0 : A ++ S = []
      · obtain ⟨rfl, rfl⟩ := List.append_eq_nil_iff.1 h0
        have hT : T = .leaf := by unfold topOk at htop; cases T <;> first | rfl | cases htop
        subst hT
        exact hg
      · exfalso
        obtain ⟨m, hm, hmin⟩ := exists_min (A ++ S) h0
        have hml := hlt m hm
        have ho : all.toArray[m]? = some all.toArray[m] := Array.getElem?_eq_getElem hml
        have : m ∈ Region.ready .any all.toArray listed := by
          rw [mem_ready]
          refine ⟨(hl m hml).2 hm, _, ho, fun e he hb => ?_⟩
          have h1 := hedge m _ ho e he hb
          have h2 : e.on ∉ A ++ S := fun hh => by have := hmin _ hh; omega
          have h3 : e.on < all.toArray.size := by omega
          have h4 : ¬ listed.getD e.on true = false := fun hh => h2 ((hl _ h3).1 hh)
          have h5 : listed.getD e.on false = listed.getD e.on true := by
            simp [Array.getD_eq_getD_getElem?, Array.getElem?_eq_getElem (show e.on < listed.size by omega)]
          rw [h5]; simpa using h4
        rw [hr] at this
        cases this
    · rw [mem_ready] at hi
      obtain ⟨h0, o, ho, hrdy⟩ := hi
      have hil : i < all.toArray.size := (Array.getElem?_eq_some_iff.1 ho).1
      have hir := (hl i hil).1 h0
      have hnotrem : ∀ o', all.toArray[i]? = some o' → ∀ e ∈ o'.after, Region.binds .any e = true → e.on ∉ A ++ S := by
        intro o' ho' e he hb hmem
        rw [ho] at ho'; injection ho' with ho'; subst ho'
        have h1 := hrdy e he hb
        have h3 := hlt _ hmem
        have h4 := (hl _ h3).2 hmem
        have h5 : listed.getD e.on false = listed.getD e.on true := by
          simp [Array.getD_eq_getD_getElem?, Array.getElem?_eq_getElem (show e.on < listed.size by omega)]
        rw [h5, h4] at h1; cases h1
      -- one step: i is done, what is left is A1 ++ S1
      have step : ∀ (A1 A01 S1 : List Nat) (T1 : OT), (A ++ S).Perm (i :: (A1 ++ S1)) → (∀ x, x ∈ A1 → x ∈ A01) → (∀ x, x ∈ A1 → quietF all x = true) → A1.Pairwise (fun x i => pairOk all al x i = true) → topOk al S1 T1 = true → treeOk all al T1 A01 S1 = true →
          Good P all.toArray (GoodT P all.toArray Q (quietF all) (ancF al) T1) (quietF all) (ancF al) (i :: A1) [] a w → wpOp P all.toArray Q i (wpAny P .any all.toArray Q fuel (listed.setIfInBounds i true)) a w := by
        intro A1 A01 S1 T1 hperm hsub1 hqu1 hpw1 htop1 htr1 hg1
        have hnd1 := hperm.nodup_iff.1 hnd
        rw [List.nodup_cons] at hnd1
        have next : ∀ a' w', Good P all.toArray (GoodT P all.toArray Q (quietF all) (ancF al) T1) (quietF all) (ancF al) A1 [] a' w' → wpAny P .any all.toArray Q fuel (listed.setIfInBounds i true) a' w' := by
          intro a' w' hg'
          refine ih _ A1 A01 S1 T1 a' w' (by simp at hsz ⊢; exact hsz) ?_ hnd1.2 ?_ ?_ ?_ hsub1 hqu1 hpw1 htop1 htr1 hg'
          · have := hperm.length_eq
            simp only [List.length_cons] at this
            omega
          · intro j hj
            by_cases hji : i = j
            · subst hji
              have : (listed.setIfInBounds i true).getD i true = true := by
                rw [Array.getD_eq_getD_getElem?, Array.getElem?_setIfInBounds_self_of_lt (by omega)]; rfl
              rw [this]
              simp only [Bool.true_eq_false, false_iff]
              exact hnd1.1
            · rw [getD_set_ne true hji, hl j hj, hperm.mem_iff]
              simp [Ne.symm hji]
          · intro j hj; exact hlt j (hperm.mem_iff.2 (List.mem_cons_of_mem _ hj))
          · intro j oj hoj hj e he hb hmem
            have hmem' : e.on ∈ A ++ S := hperm.mem_iff.2 (List.mem_cons_of_mem _ hmem)
            by_cases hji : j = i
            · subst hji; exact hnotrem oj hoj e he hb hmem'
            · refine hcl j oj hoj (fun hh => hj ?_) e he hb hmem'
              rcases List.mem_cons.1 (hperm.mem_iff.1 hh) with h | h
              · exact absurd h hji
              · exact h
        obtain ⟨o', ho', g1, g2, g3⟩ := hg1
        rw [ho] at ho'; injection ho' with ho'; subst ho'
        unfold wpOp
        rw [ho]
        simp only
        cases hw : Region.wanted o (yielded all.toArray a.tmps) with
        | true =>
          rw [if_pos rfl]
          refine .inl ?_
          cases hq : quietF all i with
          | true =>
            obtain ⟨v, hr, hg'⟩ := g1 hw hq
            exact wp_of_value hr (next _ _ (hg'.pend (GoodT.mono T1) (fun x p hx => by simp at hx)))
          | false =>
            exact Oper.wp_mono (fun a' w' hk => next a' w' hk.2) (wp_any (Q := Q) (g2 hw hq))
        | false =>
          rw [if_neg (by simp)]
          exact next _ _ (g3 hw)
      -- what may be moved behind i
      have front : ∀ (B : List Nat) (T1 : OT) (A1 : List Nat), (∀ x, x ∈ A1 → x ∈ A) → (∀ x, x ∈ A1 → pairOk all al x i = true) → Good P all.toArray (GoodT P all.toArray Q (quietF all) (ancF al) T1) (quietF all) (ancF al) (A1 ++ i :: B) [] a w →
          Good P all.toArray (GoodT P all.toArray Q (quietF all) (ancF al) T1) (quietF all) (ancF al) (i :: (A1 ++ B)) [] a w := by
        intro B T1 A1 hA1 hp hg1
        refine Good.front (GoodT.mono T1) hsel A1 B [] a w (fun x hx => ?_) hg1
        have hna : ancF al i x = false := by
          cases hh : ancF al i x with
          | false => rfl
          | true => exact absurd (List.mem_append_left _ (hA1 x hx)) (ancl i hil hnotrem x hh)
        rcases pairOk_out (hp x hx) with h1 | ⟨h1, h2⟩
        · rw [hna] at h1; cases h1
        · exact ⟨h1, hna, h2⟩
      rcases List.mem_append.1 hir with hiA | hiS
      · obtain ⟨A1, A2, rfl⟩ := List.append_of_mem hiA
        have hpw' := hpw
        rw [List.pairwise_append] at hpw'
        obtain ⟨q1, q2, q3⟩ := hpw'
        rw [List.pairwise_cons] at q2
        refine step (A1 ++ A2) A0 S T ?_ (fun x hx => hsub x ?_) (fun x hx => hqu x ?_) ?_ htop htr ?_
        · rw [List.append_assoc, List.append_assoc]; exact List.perm_middle
        · rcases List.mem_append.1 hx with h | h <;> simp [h]
        · rcases List.mem_append.1 hx with h | h <;> simp [h]
        · rw [List.pairwise_append]
          exact ⟨q1, q2.2, fun x hx y hy => q3 x hx y (by simp [hy])⟩
        · exact front A2 T A1 (fun x hx => by simp [hx]) (fun x hx => q3 x hx i (by simp)) hg
      · have hne : S ≠ [] := fun h => by rw [h] at hiS; cases hiS
        have hcov : coverOk al (headsT T) S S = true := by
          unfold topOk at htop
          cases S with
          | nil => exact absurd rfl hne
          | cons y r => exact htop
        rcases coverOk_out hcov i hiS with hh | ⟨x, hx, hax⟩
        · obtain ⟨L, t, S', g1, g2, g3, g4, g5, g6, g7⟩ := headsT_get (P := P) (ops := all.toArray) (Q := Q) htr hh
          have hp := rmAll_out g1
          have hg2 := Good.app A (i :: L) [] a w (Good.ends (fun p a w h => g7 p a w h) A [] a w hg)
          refine step (A ++ L) (A0 ++ L) S' t ?_ (fun x hx => ?_) (fun x hx => ?_) ?_ g5 g6 (front L t A (fun x hx => hx) (fun x hx => pairsOk1_out g2 x (hsub x hx)) hg2)
          · refine (List.Perm.append_left A hp).trans ?_
            rw [List.append_assoc]
            exact List.perm_middle
          · rcases List.mem_append.1 hx with h | h
            · exact List.mem_append_left _ (hsub x h)
            · exact List.mem_append_right _ h
          · rcases List.mem_append.1 hx with h | h
            · exact hqu x h
            · exact quietAll_out g3 x h
          · rw [List.pairwise_append]
            refine ⟨hpw, ?_, fun x hx y hy => ?_⟩
            · rw [List.pairwise_iff_getElem]
              intro m n hm hn hmn
              have hs : L = L.take n ++ L[n] :: L.drop (n + 1) := by rw [← List.drop_eq_getElem_cons hn, List.take_append_drop]
              exact pairsOk_out g4 (L.take n) L[n] (L.drop (n + 1)) hs L[m] (.inr (by
                rw [List.mem_iff_getElem]
                exact ⟨m, by simp; omega, by simp⟩))
            · obtain ⟨B1, B2, rfl⟩ := List.append_of_mem hy
              exact pairsOk_out g4 B1 y B2 rfl x (.inl (hsub x hx))
        · exact absurd (List.mem_append_right A hx) (ancl i hil hnotrem x hax)
theorem upTo_mem : ∀ {n j : Nat}, j ∈ upTo n ↔ j < n
  | 0, j => by simp [upTo]
  | n + 1, j => by
    unfold upTo
    rw [List.mem_cons, upTo_mem]; omega
theorem upTo_nodup : ∀ {n : Nat}, (upTo n).Nodup
  | 0 => List.nodup_nil
  | n + 1 => by
    unfold upTo
    rw [List.nodup_cons, upTo_mem]
    exact ⟨by omega, upTo_nodup⟩
theorem upTo_length : ∀ {n : Nat}, (upTo n).length = n
  | 0 => rfl
  | n + 1 => by unfold upTo; rw [List.length_cons, upTo_length]
theorem denTree_sound {tt : Tab} (htt : TabOk P tt) {n : Nat} {all : List Oper} {al : List Nat} {Q : Exit → Act → World → Prop} (hm : opMods all < 2 ^ n) : ∀ (t : OT) (e : Env) (a : Act) (w : World) (K : Env → World → Prop) (pend pg : List (Nat × (World → Prop))),
    St n e a → PendR pg pend → denTree P tt all al t pend e w K → (∀ e' a' w', K e' w' → St n e' a' → Same (opMods all) a a' → Q .normal a' w') → GoodT P all.toArray Q (quietF all) (ancF al) t pg a w
  | .leaf, e, a, w, K, pend, pg, hst, hpr, h, hQ => hQ e a w h hst (Same.refl _ _)
  | .stop, e, a, w, K, pend, pg, hst, hpr, h, hQ => trivial
  | .alt l t more, e, a, w, K, pend, pg, hst, hpr, h, hQ => by
    unfold denTree at h
    unfold GoodT
    refine ⟨denDraw_sound htt hm l e a w _ pend pg hst hpr h.1 (fun e' a' w' pend' pg' hpr' hk hs hsame => ?_), denTree_sound htt hm more e a w K pend pg hst hpr h.2 hQ⟩
    exact denTree_sound htt hm t e' a' w' K pend' pg' hs hpr' hk (fun e'' a'' w'' hk' hs' hsame' => hQ e'' a'' w'' hk' hs' ((hsame.trans hsame').mono fun j hj => by rw [Nat.testBit_or, hj]; rfl))
theorem drawT_sound {tt : Tab} (htt : TabOk P tt) (hmix : P.follows .mixedOrders = true) {n id : Nat} {all : List Oper} {al ord : List Nat} {t : OT} {Q : Exit → Act → World → Prop} (hm : opMods all < 2 ^ n) (hok : treeAllOk all al ord t = true) {e : Env} {a : Act} {w : World} {K : Env → World → Prop}
    (hst : St n e a) (h : denDraw P tt all al ord e w.drew [] (fun pend e w => denTree P tt all al t pend e w K)) (hQ : ∀ e' a' w', K e' w' → St n e' a' → Same (opMods all) a a' → Q .normal a' w') : (Code.region id all.toArray true).wp P Q a w := by
  unfold treeAllOk at hok
  split at hok
  · rename_i S h1 h2
    split at hok
    · rename_i k1 k2 k3 k4
      have hg := denDraw_sound htt (R := GoodT P all.toArray Q (quietF all) (ancF al) t) hm ord e a w.drew _ [] [] hst (fun x q hx => by simp at hx) h (fun e' a' w' pend' pg' hpr hk hs hsame =>
        denTree_sound htt hm t e' a' w' K pend' pg' hs hpr hk (fun e'' a'' w'' hk' hs' hsame' => hQ e'' a'' w'' hk' hs' ((hsame.trans hsame').mono fun j hj => by rw [Nat.testBit_or, hj]; rfl)))
      have ho := opsOk_out h1
      have hperm := rmAll_out h2
      refine wp_region_any hmix ?_
      refine good_anyT ?_ ?_ ?_ all.toArray.size _ ord ord S t a w.drew (by simp) ?_ (hperm.nodup_iff.1 upTo_nodup) ?_ ?_ ?_ (fun x hx => hx) (quietAll_out k1) ?_ k3 k4 hg
      · intro j o cs b hj hs
        have := (ho j o (by simpa using hj)).1
        rw [hs] at this
        cases this
      · intro i o hi e he hb
        have := (ho i o (by simpa using hi)).2.1 e he hb
        simpa using this
      · intro i o hi x hx
        exact (ho i o (by simpa using hi)).2.2 x (by simpa [ancF] using hx)
      · rw [← hperm.length_eq, upTo_length]; simp
      · intro j hj
        have hj' : j < all.length := by simpa using hj
        rw [← hperm.mem_iff, upTo_mem]
        simp [Array.getD_eq_getD_getElem?, hj']
      · intro j hj
        have := upTo_mem.1 (hperm.mem_iff.2 hj)
        simpa using this
      · intro i o hi hni
        exact absurd (hperm.mem_iff.1 (upTo_mem.2 (by have := (Array.getElem?_eq_some_iff.1 hi).1; simpa using this))) hni
      · rw [List.pairwise_iff_getElem]
        intro m n hm hn hmn
        have hs : ord = ord.take n ++ ord[n] :: ord.drop (n + 1) := by rw [← List.drop_eq_getElem_cons hn, List.take_append_drop]
        exact pairsOk_out k2 (ord.take n) ord[n] (ord.drop (n + 1)) hs ord[m] (.inr (by
          rw [List.mem_iff_getElem]
          exact ⟨m, by simp; omega, by simp⟩))
    · cases hok
  · cases hok
end Go.Den

/- A piece of code, and a function, of the plainer reading are the model's. Conditions: the table of types is the program's (TabOk); the slots lie in the frame (fnOk). -/
set_option linter.unusedVariables false
set_option linter.unusedSimpArgs false
namespace Go.Den
variable {P : Program}
/-! ## What is handed on -/
theorem app_cur : ∀ (l : List Sh) (f : Vals l → World → Prop) (v : Vals l) (w : World), app l (cur l f) v w = f v w
  | [], f, (), w => rfl
  | s :: r, f, v, w => app_cur r (fun u => f (v.1, u)) v.2 w
theorem Sh.ask_some {s : Sh} {u : Value} {K : s.T → Prop} (h : s.ask u K) : ∃ x, u = s.mk x ∧ K x := by
  cases s with
  | int k =>
    cases u <;> simp only [Sh.ask] at h
    split at h
    · rename_i hk; obtain rfl := kEq_ok hk; exact ⟨_, rfl, h⟩
    · exact h.elim
  | any => exact ⟨u, rfl, by cases u <;> exact h⟩
  | slice => cases u <;> simp only [Sh.ask] at h; exact ⟨⟨_, _, _⟩, rfl, h⟩
  | fn =>
    cases u with
    | func f x c => cases f with
      | func g => exact ⟨⟨g, x.toList, c.toList⟩, rfl, h⟩
      | _ => exact h.elim
    | _ => exact h.elim
  | _ => cases u <;> simp only [Sh.ask] at h; exact ⟨_, rfl, h⟩
theorem ask_some {a : Act} {e : Env} (ha : Agree e a) : ∀ {c : List (Nat × Sh)} {K : Vals (shsOf c) → Prop}, ask e c K → ∃ v, K v ∧ Agree (entries c v) a
  | [], K, h => ⟨(), h, fun i v hv => by simp [entries, Env.find] at hv⟩
  | (j, s) :: r, K, h => by
    unfold ask at h
    split at h
    · exact h.elim
    · rename_i u hu
      obtain ⟨x, hx, h2⟩ := Sh.ask_some h
      clear h
      subst hx
      obtain ⟨v, hk, hv⟩ := ask_some ha h2
      refine ⟨(x, v), hk, fun i y hy => ?_⟩
      simp only [entries, find_cons] at hy
      by_cases hi : i = j
      · rw [if_pos hi] at hy; injection hy with hy; subst hy; subst hi; exact ha _ _ hu
      · rw [if_neg hi] at hy; exact hv i y hy
theorem find_append (e1 e2 : Env) (i : Nat) : Env.find (e1 ++ e2) i = (match Env.find e1 i with | some v => some v | none => Env.find e2 i) := by
  induction e1 with
  | nil => rfl
  | cons x r ih =>
    obtain ⟨j, v⟩ := x
    rw [List.cons_append, find_cons, find_cons, ih]
    by_cases h : i = j <;> simp [h]
theorem Agree.append {e1 e2 : Env} {a : Act} (h1 : Agree e1 a) (h2 : Agree e2 a) : Agree (e1 ++ e2) a := fun i v hv => by
  rw [find_append] at hv
  split at hv
  · rename_i u hu; injection hv with hv; subst hv; exact h1 i _ hu
  · exact h2 i v hv
theorem find_keep (m : Nat) (e : Env) (i : Nat) (v : Value) (h : Env.find (Env.keep m e) i = some v) : Nat.testBit m i = true ∧ Env.find e i = some v := by
  induction e with
  | nil => simp [Env.keep, Env.find] at h
  | cons x r ih =>
    obtain ⟨j, u⟩ := x
    unfold Env.keep at h
    split at h
    · rename_i hb
      rw [find_cons] at h ⊢
      by_cases hi : i = j
      · rw [if_pos hi] at h ⊢; subst hi; exact ⟨hb, h⟩
      · rw [if_neg hi] at h ⊢; exact ih h
    · rename_i hb
      have := ih h
      rw [find_cons]
      by_cases hi : i = j
      · subst hi; rw [this.1] at hb; cases hb
      · rw [if_neg hi]; exact this
theorem Agree.keep {e : Env} {a a' : Act} (h : Agree e a) {m ms : Nat} (hs : Same ms a a') (hd : Nat.beq (m &&& ms) 0 = true) : Agree (e.keep m) a' := fun i v hv => by
  obtain ⟨hb, hf⟩ := find_keep m e i v hv
  have hz := Nat.eq_of_beq_eq_true hd
  have : Nat.testBit ms i = false := by
    have hh : Nat.testBit (m &&& ms) i = false := by rw [hz]; simp
    rw [Nat.testBit_and, hb, Bool.true_and] at hh
    exact hh
  rw [hs i this]
  exact h i v hf
theorem opMods_append : ∀ (a b : List Oper), opMods (a ++ b) = opMods a ||| opMods b
  | [], b => by simp [opMods]
  | o :: r, b => by rw [List.cons_append, opMods_cons, opMods_cons, opMods_append r b, Nat.or_assoc]
theorem or_lt {a b n : Nat} (h : a ||| b < 2 ^ n) : a < 2 ^ n ∧ b < 2 ^ n := ⟨Nat.lt_of_le_of_lt Nat.left_le_or h, Nat.lt_of_le_of_lt Nat.right_le_or h⟩

theorem denSegs_sound {tt : Tab} (htt : TabOk P tt) {n : Nat} {all : List Oper} {Q : Exit → Act → World → Prop} : ∀ (segs : List (Nat × Option (Nat × List (Nat × Sh)))) (ops : List Oper) (e : Env) (a : Act) (w : World) (K : Env → World → Prop),
    opMods ops < 2 ^ n → St n e a → denSegs P tt all segs ops e w K → (∀ e' a' w', K e' w' → St n e' a' → Same (opMods ops) a a' → Q .normal a' w') → wpList P all.toArray Q ops a w
  | [], ops, e, a, w, K, hm, hst, h, hQ => by
    have := denOps_sound htt (all := all) (Q := Q) ops e a w K [] hm hst h (fun e' a' w' hk hs hsame => wpList_nil (hQ e' a' w' hk hs hsame))
    simpa using this
  | (k, none) :: r, ops, e, a, w, K, hm, hst, h, hQ => by
    have hsplit : opMods ops = opMods (ops.take k) ||| opMods (ops.drop k) := by rw [← opMods_append, List.take_append_drop]
    have hm2 := or_lt (hsplit ▸ hm)
    have := denOps_sound htt (all := all) (Q := Q) (ops.take k) e a w _ (ops.drop k) hm2.1 hst h (fun e' a' w' hk hs hsame =>
      denSegs_sound htt r (ops.drop k) e' a' w' K hm2.2 hs hk (fun e'' a'' w'' hk' hs' hsame' => hQ e'' a'' w'' hk' hs' (by rw [hsplit]; exact hsame.trans hsame')))
    rwa [List.take_append_drop] at this
  | (k, some (m, c)) :: r, ops, e, a, w, K, hm, hst, h, hQ => by
    have hsplit : opMods ops = opMods (ops.take k) ||| opMods (ops.drop k) := by rw [← opMods_append, List.take_append_drop]
    have hm2 := or_lt (hsplit ▸ hm)
    unfold denSegs at h
    split at h
    · rename_i hb
      obtain ⟨J, hJ, h⟩ := h
      have := denOps_sound htt (all := all) (Q := Q) (ops.take k) e a w _ (ops.drop k) hm2.1 hst h (fun e' a' w' hk hs hsame => by
        obtain ⟨v, hv, hag⟩ := ask_some hs.agree hk
        have hv := hJ v w' hv
        rw [app_cur] at hv
        exact denSegs_sound htt r (ops.drop k) _ a' w' K hm2.2 ⟨hs.size, hs.defers, hag.append (hst.agree.keep hsame hb)⟩ hv (fun e'' a'' w'' hk' hs' hsame' => hQ e'' a'' w'' hk' hs' (by rw [hsplit]; exact hsame.trans hsame')))
      rwa [List.take_append_drop] at this
    · exact h.elim

/-! ## Code -/
def Post (n : Nat) (K : Kont) (m : Nat) (a0 : Act) : Exit → Act → World → Prop
  | .normal, a, w => Same m a0 a ∧ ∃ e, St n e a ∧ K.norm e w
  | .ret, a, w => ∃ e, St n e a ∧ K.ret e w
  | .exit id, a, w => Same m a0 a ∧ ∃ e k, St n e a ∧ findK K.exits id = some k ∧ k e w
  | _, _, _ => False
theorem findK_cons (id : Nat) (k : Env → World → Prop) (r : List (Nat × (Env → World → Prop))) (i : Nat) : findK ((id, k) :: r) i = if i = id then some k else findK r i := by
  simp only [findK]
  split
  · rename_i h; rw [if_pos (Nat.eq_of_beq_eq_true h)]
  · rename_i h; rw [if_neg (Nat.ne_of_beq_eq_false h)]
theorem Post.mono {n : Nat} {K : Kont} {m m' : Nat} {a0 a1 : Act} (h : ∀ a, Same m a1 a → Same m' a0 a) {e : Exit} {a : Act} {w : World} (hp : Post n K m a1 e a w) : Post n K m' a0 e a w := by
  cases e with
  | normal => exact ⟨h a hp.1, hp.2⟩
  | ret => exact hp
  | exit id => exact ⟨h a hp.1, hp.2⟩
  | goto l => exact hp
  | panic c => exact hp
  | outgrown => exact hp
theorem exists_least {p : Nat → Prop} (h : ∃ k, p k) : ∃ k, p k ∧ ∀ j, p j → k ≤ j := by
  obtain ⟨k, hk⟩ := h
  induction k using Nat.strongRecOn with
  | _ k ih =>
    by_cases hl : ∃ j, j < k ∧ p j
    · obtain ⟨j, hj, hp⟩ := hl; exact ih j hj hp
    · exact ⟨k, hk, fun j hj => Nat.le_of_not_lt fun hlt => hl ⟨j, hlt, hj⟩⟩
open Classical in
noncomputable def least (p : Nat → Prop) : Nat := if h : ∃ k, p k then (exists_least h).choose else 0
theorem least_spec {p : Nat → Prop} (h : ∃ k, p k) : p (least p) ∧ ∀ j, p j → least p ≤ j := by
  unfold least
  rw [dif_pos h]
  exact (exists_least h).choose_spec
theorem loop_sound {c : Code} {Q : Exit → Act → World → Prop} {a0 : Act} {w0 : World} (R : Nat → Act → World → Prop) (h0 : ∃ k, R k a0 w0)
    (round : ∀ k a w, R k a w → c.wp P (Exit.then (fun a' w' => ∃ k', k' < k ∧ R k' a' w') Q) a w) :
    (Code.loop c).wp P Q a0 w0 := by
  refine wp_loop (fun a w => ∃ k, R k a w) (fun a w => least (fun k => R k a w)) h0 (fun a w hI => ?_)
  have hk := (least_spec hI).1
  refine wp_mono (round _ a w hk) (fun e a' w' hq => ?_)
  cases e with
  | normal =>
    obtain ⟨k', hlt, hr⟩ := hq
    exact ⟨⟨k', hr⟩, Nat.lt_of_le_of_lt ((least_spec (p := fun k => R k a' w') ⟨k', hr⟩).2 k' hr) hlt⟩
  | ret => exact hq
  | exit id => exact hq
  | goto l => exact hq
  | panic c => exact hq
  | outgrown => exact hq
theorem den_sound {tt : Tab} (htt : TabOk P tt) (hmix : P.follows .mixedOrders = true) {n : Nat} : ∀ (c : Code) (an : Ann) (e : Env) (w : World) (K : Kont) (a : Act), mods c < 2 ^ n → den P tt c an e w K → St n e a → c.wp P (Post n K (mods c) a) a w := by
  intro c
  induction c with
  | skip =>
    intro an e w K a hm h hst
    exact wp_skip ⟨Same.refl _ _, e, hst, h⟩
  | region id ops d =>
    intro an e w K a hm h hst
    unfold den at h
    unfold denReg at h
    split at h
    · refine wp_region_list ?_
      have := denSegs_sound htt (all := ops.toList) (Q := Post n K (mods (.region id ops false)) a) _ ops.toList e a w K.norm hm hst h (fun e' a' w' hk hs hsame => ⟨hsame, e', hs, hk⟩)
      simpa using this
    · split at h
      · split at h
        · rename_i hok
          exact draw_sound htt hmix (all := ops.toList) (Q := Post n K (mods (.region id ops true)) a) hm hok hst h (fun e' a' w' hk hs hsame => ⟨hsame, e', hs, hk⟩)
        · exact h.elim
      · split at h
        · rename_i hok
          exact drawT_sound htt hmix (all := ops.toList) (Q := Post n K (mods (.region id ops true)) a) hm hok hst h (fun e' a' w' hk hs hsame => ⟨hsame, e', hs, hk⟩)
        · exact h.elim
      · exact h.elim
  | seq x y ihx ihy =>
    intro an e w K a hm h hst
    have hm2 := or_lt (show mods x ||| mods y < 2 ^ n from hm)
    unfold den at h
    split at h
    · rename_i ax ay
      refine wp_seq (wp_mono (ihx ax e w _ a hm2.1 h hst) (fun ex a' w' hp => ?_))
      cases ex with
      | normal =>
        obtain ⟨hsame, e', hs, hk⟩ := hp
        exact wp_mono (ihy ay e' w' K a' hm2.2 hk hs) (fun ex' a'' w'' hp' => hp'.mono (fun b hb => hsame.trans hb))
      | ret => exact hp
      | exit id => exact ⟨hp.1.left, hp.2⟩
      | goto l => exact hp
      | panic c => exact hp
      | outgrown => exact hp
    · rename_i m cs ax ay
      split at h
      · rename_i hb
        obtain ⟨J, hJ, h⟩ := h
        refine wp_seq (wp_mono (ihx ax e w _ a hm2.1 h hst) (fun ex a' w' hp => ?_))
        cases ex with
        | normal =>
          obtain ⟨hsame, e', hs, hk⟩ := hp
          obtain ⟨v, hv, hag⟩ := ask_some hs.agree hk
          have hv := hJ v w' hv
          rw [app_cur] at hv
          exact wp_mono (ihy ay _ w' K a' hm2.2 hv ⟨hs.size, hs.defers, hag.append (hst.agree.keep hsame hb)⟩) (fun ex' a'' w'' hp' => hp'.mono (fun b hb => hsame.trans hb))
        | ret => exact hp
        | exit id => exact ⟨hp.1.left, hp.2⟩
        | goto l => exact hp
        | panic c => exact hp
        | outgrown => exact hp
      · exact h.elim
    · exact h.elim
  | cond o x y ihx ihy =>
    intro an e w K a hm h hst
    have hm2 := or_lt (show mods x ||| mods y < 2 ^ n from hm)
    unfold den at h
    split at h
    · rename_i ax ay
      split at h
      · rename_i t ht
        refine wp_cond_split (hst.agree.ev ht) (fun hh => ?_) (fun hh => ?_)
        · subst hh
          exact wp_mono (ihx ax e w K a hm2.1 h hst) (fun ex a' w' hp => hp.mono (fun b hb => hb.left))
        · subst hh
          exact wp_mono (ihy ay e w K a hm2.2 h hst) (fun ex a' w' hp => hp.mono (fun b hb => hb.right))
      · exact h.elim
    · exact h.elim
  | block id c ih =>
    intro an e w K a hm h hst
    unfold den at h
    split at h
    · rename_i ax
      refine wp_block (wp_mono (ih ax e w _ a hm h hst) (fun ex a' w' hp => ?_))
      cases ex with
      | normal => exact hp
      | ret => exact hp
      | exit i =>
        obtain ⟨hsame, e', k, hs, hf, hk⟩ := hp
        rw [findK_cons] at hf
        simp only [Exit.inBlock]
        by_cases hi : i = id
        · rw [if_pos hi] at hf ⊢
          injection hf with hf
          subst hf
          exact ⟨hsame, e', hs, hk⟩
        · rw [if_neg hi] at hf ⊢
          exact ⟨hsame, e', k, hs, hf, hk⟩
      | goto l => exact hp
      | panic c => exact hp
      | outgrown => exact hp
    · exact h.elim
  | loop c ih =>
    intro an e w K a hm h hst
    unfold den at h
    split at h
    · rename_i m cs ax
      split at h
      · rename_i hb
        obtain ⟨v0, h, hv0⟩ := ask_some hst.agree h
        obtain ⟨I, ⟨k0, hk0⟩, hround⟩ := h
        refine loop_sound (fun k a' w' => ∃ v, app (shsOf cs) (I k) v w' ∧ St n (entries cs v ++ e.keep m) a' ∧ Same (mods c) a a')
          ⟨k0, v0, hk0, ⟨hst.size, hst.defers, hv0.append (hst.agree.keep (Same.refl (mods c) a) hb)⟩, Same.refl _ _⟩ (fun k a1 w1 hR => ?_)
        obtain ⟨v, hv, hs, hsame⟩ := hR
        have hr := hround k v w1 hv
        rw [app_cur] at hr
        refine wp_mono (ih ax _ w1 _ a1 hm hr hs) (fun ex a' w' hp => ?_)
        cases ex with
        | normal =>
          obtain ⟨hsame', e', hs', hk⟩ := hp
          obtain ⟨v', hv', hag⟩ := ask_some hs'.agree hk
          rw [app_cur] at hv'
          obtain ⟨k', hlt, hv'⟩ := hv'
          have hsame2 : Same (mods c) a a' := (hsame.trans hsame').mono fun i hi => by rw [Nat.testBit_or, hi]; rfl
          exact ⟨k', hlt, v', hv', ⟨hs'.size, hs'.defers, hag.append (hst.agree.keep hsame2 hb)⟩, hsame2⟩
        | ret => exact hp
        | exit i => exact ⟨(hsame.trans hp.1).mono fun i hi => by rw [Nat.testBit_or, show Nat.testBit (mods c) i = false from hi]; rfl, hp.2⟩
        | goto l => exact hp
        | panic c => exact hp
        | outgrown => exact hp
      · exact h.elim
    · exact h.elim
  | exit id =>
    intro an e w K a hm h hst
    unfold den at h
    split at h
    · rename_i k hk
      exact wp_exit ⟨Same.refl _ _, e, k, hst, hk, h⟩
    · exact h.elim
  | ret =>
    intro an e w K a hm h hst
    exact wp_ret ⟨e, hst, h⟩
  | rangeFunc f p x y => intro an e w K a hm h hst; exact absurd h (by simp [den])
  | scope x => intro an e w K a hm h hst; exact absurd h (by simp [den])
  | label l => intro an e w K a hm h hst; exact absurd h (by simp [den])
  | goto l => intro an e w K a hm h hst; exact absurd h (by simp [den])
  | refuse s => intro an e w K a hm h hst; exact absurd h (by simp [den])
/-! ## A function -/
def resOf (tmps : Array Value) : ResultVar → Sem Value
  | .tmp t => pure (tmps.getD t undef)
  | .cell d t => do loadVar t (← asAddr (tmps.getD d undef))
theorem results_eq (fn : Func) (tmps : Array Value) : results fn tmps = (do let vs ← fn.results.mapM (resOf tmps); pure (if h : vs.size = 1 then vs[0] else .tuple vs)) := by
  unfold results
  congr 1
theorem resVals_run {tt : Tab} (htt : TabOk P tt) {e : Env} {a : Act} (ha : Agree e a) {w : World} : ∀ (rs : List ResultVar) (K : List Value → Prop), resVals tt e w rs K →
    ∃ vs, K vs ∧ (rs.mapM (resOf a.tmps)).run P w = .ok vs w
  | [], K, h => ⟨[], h, by simp⟩
  | .tmp t :: r, K, h => by
    unfold resVals at h
    split at h
    · rename_i v hv
      obtain ⟨vs, hk, hr⟩ := resVals_run htt ha r _ h
      refine ⟨v :: vs, hk, ?_⟩
      have h1 : (resOf a.tmps (.tmp t)).run P w = .ok v w := by simp only [resOf, ha t v hv, Sem.run_pure]
      rw [List.mapM_cons]
      simp only [Sem.run_bind, Sem.run_pure, h1, Result.andThen]
      rw [hr]
    · exact h.elim
  | .cell d t :: r, K, h => by
    unfold resVals at h
    obtain ⟨ti, hti, h1⟩ := tiOf_some h
    obtain ⟨p, hp, h2⟩ := addrOf_some h1
    obtain ⟨v, h3, hl⟩ := ld_run (htt.find hti) h2
    obtain ⟨vs, hk, hr⟩ := resVals_run htt ha r _ h3
    refine ⟨v :: vs, hk, ?_⟩
    have h4 : (resOf a.tmps (.cell d t)).run P w = .ok v w := by simp [resOf, ha d _ hp, asAddr, hl]
    rw [List.mapM_cons]
    simp only [Sem.run_bind, Sem.run_pure, h4, Result.andThen]
    rw [hr]
theorem argEnv_agree : ∀ (args : List Value) (i : Nat) (tmps : Array Value), (∀ j, j < args.length → tmps.getD (i + j) undef = args[j]?.getD undef) → ∀ k v, Env.find (argEnv i args) k = some v → tmps.getD k undef = v
  | [], i, tmps, h, k, v, hk => by simp [argEnv, Env.find] at hk
  | x :: r, i, tmps, h, k, v, hk => by
    simp only [argEnv, find_cons] at hk
    by_cases hki : k = i
    · rw [if_pos hki] at hk; injection hk with hk; subst hk; subst hki
      have := h 0 (by simp)
      simpa using this
    · rw [if_neg hki] at hk
      exact argEnv_agree r (i + 1) tmps (fun j hj => by
        have := h (j + 1) (by simpa using hj)
        rw [show i + 1 + j = i + (j + 1) by omega]
        simpa using this) k v hk
theorem denFn_sound {tt : Tab} (htt : TabOk P tt) (hmix : P.follows .mixedOrders = true) {f : Nat} {fn : Func} {an : Ann} {args : List Value} {w : World} {K : Value → World → Prop} (hf : P.funcs[f]? = some fn) (hok : fnOk fn args.length = true) (h : denFn P tt fn an args w K) :
    Calls P f ⟨args⟩ w (fun e w' => ∃ v, e = .returned v ∧ K v w') := by
  unfold denFn at h
  unfold fnOk at hok
  split at h
  · rename_i c hb
    rw [hb] at hok
    simp only [Bool.and_eq_true] at hok
    have h1 := Nat.le_of_ble_eq_true hok.1
    have h2 := Nat.le_of_ble_eq_true hok.2
    rw [Nat.one_shiftLeft] at h1
    refine calls_of_wp hf hb ?_
    have hst : St fn.ntmps (argEnv 0 args) { tmps := (⟨args⟩ : Array Value) ++ Array.replicate (fn.ntmps - (⟨args⟩ : Array Value).size) undef, defers := [] } := by
      refine ⟨by simp; omega, rfl, fun i v hv => argEnv_agree args 0 _ (fun j hj => ?_) i v hv⟩
      simp [Array.getD_eq_getD_getElem?, Array.getElem?_append, hj]
    refine wp_mono (den_sound htt hmix c an _ w _ _ (by omega) h hst) (fun ex a w' hp => ?_)
    have fin : ∀ e, St fn.ntmps e a → retK tt fn.results.toList K e w' → a.defers = [] ∧ ∃ v, (results fn a.tmps).run P w' = .ok v w' ∧ ∃ u, Ending.returned v = .returned u ∧ K u w' := by
      intro e hs hk
      obtain ⟨vs, hk, hr⟩ := resVals_run htt hs.agree fn.results.toList _ hk
      refine ⟨hs.defers, oneOf vs, ?_, _, rfl, hk⟩
      rw [results_eq]
      simp only [Array.mapM_eq_mapM_toList, bind_map_left, Sem.run_bind, hr, Result.andThen, Sem.run_pure]
      congr 1
      cases vs with
      | nil => rfl
      | cons v r => cases r <;> rfl
    cases ex with
    | normal => obtain ⟨_, e, hs, hk⟩ := hp; exact fin e hs hk
    | ret => obtain ⟨e, hs, hk⟩ := hp; exact fin e hs hk
    | exit id => obtain ⟨_, e, k, _, hk, _⟩ := hp; simp [findK] at hk
    | goto l => exact hp.elim
    | panic c => exact hp.elim
    | outgrown => exact hp.elim
  · exact h.elim
end Go.Den

/- Rules for proofs over plain readings: ways, joins, loops, calls. Conditions: none. -/
set_option linter.unusedVariables false
set_option linter.unusedSimpArgs false
namespace Go.Den
open Go.RowKit
/-! ## Ways -/
theorem BIf.of {x : Bool} {A B : Prop} (h1 : x = true → A) (h2 : x = false → B) : BIf x A B := by
  cases x
  · exact h2 rfl
  · exact h1 rfl
theorem BIf.dec {P : Prop} [Decidable P] {A B : Prop} (h1 : P → A) (h2 : ¬ P → B) : BIf (decide P) A B := BIf.of (fun h => h1 (of_decide_eq_true h)) (fun h => h2 (of_decide_eq_false h))
theorem BIf.eq {a b : Int} {A B : Prop} (h1 : a = b → A) (h2 : a ≠ b → B) : BIf (a == b) A B := BIf.of (fun h => h1 (eq_of_beq h)) (fun h => h2 (by simpa using h))
theorem BIf.f {x : Bool} {A B : Prop} (hx : x = false) (h : B) : BIf x A B := by subst hx; exact h
theorem LetW_iff {w : World} {k : World → Prop} : LetW w k ↔ k w := Iff.rfl
/-! ## Joins -/
theorem JoinW.cut1 {s : Sh} {f : JT [s] → Prop} {k : JT [s]} (J : s.T → World → Prop) (h : f J) (hk : ∀ x w, J x w → k x w) : JoinW [s] f k := ⟨J, fun v w h => hk v.1 w h, h⟩
/-- The short circuits: one value. -/
theorem join_if {s : Sh} {c : Bool} {a b : s.T} {w : World} {k : s.T → World → Prop} : JoinW [s] (fun J => BIf c (J a w) (J b w)) k ↔ k (if c then a else b) w := by
  constructor
  · rintro ⟨J, hJ, h⟩
    cases c
    · exact hJ (b, ()) w h
    · exact hJ (a, ()) w h
  · intro h
    refine ⟨k, fun _ _ h => h, ?_⟩
    cases c
    · exact h
    · exact h
theorem join_and {c : Bool} {b : Bool} {w : World} {k : Bool → World → Prop} : JoinW [.bool] (fun J => BIf c (J b w) (J false w)) k ↔ k (c && b) w := by
  refine (join_if (s := .bool) (a := b) (b := false)).trans ?_
  cases c <;> rfl
theorem join_or {c : Bool} {b : Bool} {w : World} {k : Bool → World → Prop} : JoinW [.bool] (fun J => BIf c (J true w) (J b w)) k ↔ k (c || b) w := by
  refine (join_if (s := .bool) (a := true) (b := b)).trans ?_
  cases c <;> rfl
/-! ## Loops -/
theorem LoopW.m1 {s : Sh} {body : JT [s] → JT [s]} {x : s.T} {w : World} (Inv : s.T → World → Prop) (μ : s.T → World → Nat) (h0 : Inv x w)
    (step : ∀ x w, Inv x w → ∀ J : s.T → World → Prop, (∀ x' w', Inv x' w' → μ x' w' < μ x w → J x' w') → (body J : s.T → World → Prop) x w) : LoopW [s] body (x, ()) w :=
  ⟨fun n x w => Inv x w ∧ μ x w = n, ⟨_, h0, rfl⟩, fun n v w h => step v.1 w h.1 _ (fun x' w' hi hm => ⟨μ x' w', h.2 ▸ hm, hi, rfl⟩)⟩
theorem LoopW.m2 {s t : Sh} {body : JT [s, t] → JT [s, t]} {x : s.T} {y : t.T} {w : World} (Inv : s.T → t.T → World → Prop) (μ : s.T → t.T → World → Nat) (h0 : Inv x y w)
    (step : ∀ x y w, Inv x y w → ∀ J : s.T → t.T → World → Prop, (∀ x' y' w', Inv x' y' w' → μ x' y' w' < μ x y w → J x' y' w') → (body J : s.T → t.T → World → Prop) x y w) : LoopW [s, t] body (x, (y, ())) w :=
  ⟨fun n x y w => Inv x y w ∧ μ x y w = n, ⟨_, h0, rfl⟩, fun n v w h => step v.1 v.2.1 w h.1 _ (fun x' y' w' hi hm => ⟨μ x' y' w', h.2 ▸ hm, hi, rfl⟩)⟩
/-! ## Calls -/
theorem CallW.mono {P : Program} {f : Nat} {args : Array Value} {w : World} {K K' : Value → World → Prop} (h : CallW P f args w K) (hk : ∀ v w', K v w' → K' v w') : CallW P f args w K' := by
  rcases h with ⟨h1, h2⟩ | ⟨v, w', h1, h2⟩
  · exact .inl ⟨h1, h2.mono fun e w' ⟨v, he, hK⟩ => ⟨v, he, hk _ _ hK⟩⟩
  · exact .inr ⟨v, w', h1, hk _ _ h2⟩
/-! ## Numbers -/
theorem w64 {n : Int} (h1 : -9223372036854775808 ≤ n) (h2 : n ≤ 9223372036854775807) : IntKind.i64.wrap n = n := by rw [IntKind.wrap_i64]; omega
/-! ## Worlds -/
/-- Nothing that was there has turned, but the blocks of S. -/
structure Only (S : Nat → Prop) (w w' : World) : Prop where
  os : w'.os = w.os
  tape : w'.tape = w.tape
  output : w'.output = w.output
  size : w.heap.size ≤ w'.heap.size
  block : ∀ k, k < w.heap.size → ¬ S k → w'.heap[k]? = w.heap[k]?
theorem Only.refl (S : Nat → Prop) (w : World) : Only S w w := ⟨rfl, rfl, rfl, Nat.le_refl _, fun _ _ _ => rfl⟩
theorem Only.trans {S : Nat → Prop} {a b c : World} (h : Only S a b) (k : Only S b c) : Only S a c :=
  ⟨k.os.trans h.os, k.tape.trans h.tape, k.output.trans h.output, Nat.le_trans h.size k.size, fun i hi hs => (k.block i (Nat.lt_of_lt_of_le hi h.size) hs).trans (h.block i hi hs)⟩
theorem Only.mono {S T : Nat → Prop} {w w' : World} (h : Only S w w') (hS : ∀ k, k < w.heap.size → S k → T k) : Only T w w' := ⟨h.os, h.tape, h.output, h.size, fun k hk ht => h.block k hk (fun hs => ht (hS k hk hs))⟩
/-- Behind a step that turned only blocks of S or blocks made since a. -/
theorem Only.step {S T : Nat → Prop} {a b c : World} (h : Only S a b) (k : Only T b c) (hT : ∀ i, i < a.heap.size → T i → S i) : Only S a c :=
  ⟨k.os.trans h.os, k.tape.trans h.tape, k.output.trans h.output, Nat.le_trans h.size k.size, fun i hi hs => (k.block i (Nat.lt_of_lt_of_le hi h.size) (fun ht => hs (hT i hi ht))).trans (h.block i hi hs)⟩
/-- Nothing has turned. -/
abbrev Ext (w w' : World) : Prop := Only (fun _ => False) w w'
theorem Ext.any {S : Nat → Prop} {w w' : World} (h : Ext w w') : Only S w w' := h.mono (fun _ _ h => h.elim)
theorem Ext.below {w w' : World} (h : Ext w w') : Below w.heap.size w w' := ⟨h.os, h.tape, h.output, h.size, fun k hk => h.block k hk id⟩
theorem ext_drew (w : World) : Ext w w.drew := ⟨rfl, rfl, rfl, Nat.le_refl _, fun _ _ _ => rfl⟩
theorem ext_alloc (w : World) (o : Obj) : Ext w (w.alloc o) := ⟨rfl, rfl, rfl, by simp, fun k hk _ => Below.heap_alloc _ _ _ hk⟩
theorem only_set (w : World) (p : Addr) (v : Value) : Only (fun k => k = p.block) w (w.setCell p v) := ⟨rfl, rfl, rfl, by simp [World.setCell], fun k hk h => Below.heap_setCell _ _ _ _ h⟩
theorem only_puts : ∀ (vs : List Value) (w : World) (p : Addr) (i : Nat), Only (fun k => k = p.block) w (puts w p i vs)
  | [], w, p, i => Only.refl _ w
  | v :: r, w, p, i => by
    have h1 := only_set w (p.add i) v
    have h2 := only_puts r (w.setCell (p.add i) v) p (i + 1)
    have hb : (p.add i).block = p.block := by unfold Addr.add; split <;> rfl
    rw [hb] at h1
    exact h1.trans h2
theorem Only.cell {S : Nat → Prop} {w w' : World} (h : Only S w w') {p : Addr} {v : Value} (hp : w.cell? p = some v) (hS : ¬ S p.block) : w'.cell? p = some v := by
  have hlt : p.block < w.heap.size := by
    unfold World.cell? at hp
    rcases hb : w.heap[p.block]? with _ | o
    · rw [hb] at hp; exact absurd hp (by simp)
    · exact (Array.getElem?_eq_some_iff.1 hb).1
  rw [← hp]
  exact World.cell?_of_block (w := w) (h.block _ hlt hS)
theorem add_block (p : Addr) (n : Nat) : (p.add n).block = p.block := by unfold Addr.add; split <;> rfl
theorem add_add (p : Addr) (a b : Nat) : (p.add a).add b = p.add (a + b) := by
  unfold Addr.add
  by_cases ha : a = 0
  · simp [ha]
  · by_cases hb : b = 0
    · simp [ha, hb]
    · simp [ha, hb]; omega
theorem add_zero (p : Addr) : p.add 0 = p := rfl
theorem add_mk (b o n : Nat) : (⟨b, o, none⟩ : Addr).add n = ⟨b, o + n, none⟩ := by unfold Addr.add; split <;> simp_all
theorem Only.row {S : Nat → Prop} {w w' : World} (h : Only S w w') {a : Option Addr} {n : Nat} {vs : List Value} (hr : RowAt w a n vs) (hS : ∀ p, a = some p → ¬ S p.block) : RowAt w' a n vs := by
  refine ⟨hr.1, fun hn => ?_⟩
  obtain ⟨p, hp, hc⟩ := hr.2 hn
  exact ⟨p, hp, fun j v hv => h.cell (hc j v hv) (by rw [add_block]; exact hS p hp)⟩
theorem Ext.cell {w w' : World} (h : Ext w w') {p : Addr} {v : Value} (hp : w.cell? p = some v) : w'.cell? p = some v := Only.cell h hp id
theorem Ext.row {w w' : World} (h : Ext w w') {a : Option Addr} {n : Nat} {vs : List Value} (hr : RowAt w a n vs) : RowAt w' a n vs := Only.row h hr (fun _ _ => id)
/-! ## A new block -/
theorem size_alloc (w : World) (o : Obj) : (w.alloc o).heap.size = w.heap.size + 1 := by simp
theorem size_drew (w : World) : w.drew.heap.size = w.heap.size := rfl
theorem size_set (w : World) (p : Addr) (v : Value) : (w.setCell p v).heap.size = w.heap.size := by simp [World.setCell]
theorem size_puts : ∀ (vs : List Value) (w : World) (p : Addr) (i : Nat), (puts w p i vs).heap.size = w.heap.size
  | [], _, _, _ => rfl
  | v :: r, w, p, i => (size_puts r _ p (i + 1)).trans (size_set w _ v)
theorem block_alloc (w : World) (o : Obj) : (w.alloc o).heap[w.heap.size]? = some o := by show (w.heap.push _)[w.heap.size]? = _; simp
/-! ## A block of cells, in the open -/
/-- Block b has these cells, none of them frozen. -/
def Blk (w : World) (b : Nat) (vs : List Value) : Prop := ∃ e, w.heap[b]? = some (.cells ⟨vs⟩ e (0, 0))
theorem Blk.lt {w : World} {b : Nat} {vs : List Value} (h : Blk w b vs) : b < w.heap.size := by obtain ⟨e, h⟩ := h; exact (Array.getElem?_eq_some_iff.1 h).1
theorem blk_alloc (w : World) (vs : List Value) (e : TypeId) : Blk (w.alloc (.cells ⟨vs⟩ e)) w.heap.size vs := ⟨e, block_alloc w _⟩
theorem Blk.cell {w : World} {b : Nat} {vs : List Value} (h : Blk w b vs) (i : Nat) : w.cell? ⟨b, i, none⟩ = vs[i]? := by
  obtain ⟨e, h⟩ := h
  simp [World.cell?, h]
theorem Blk.may {w : World} {b : Nat} {vs : List Value} (h : Blk w b vs) {i : Nat} (hi : i < vs.length) : May w ⟨b, i, none⟩ := by
  refine ⟨by rw [h.cell]; simp [hi], ?_⟩
  obtain ⟨e, h⟩ := h
  simp [World.frozen?, h]
theorem Blk.mayN {w : World} {b : Nat} {vs : List Value} (h : Blk w b vs) {o n : Nat} (hi : o + n ≤ vs.length) : MayN w ⟨b, o, none⟩ n := by
  intro i hn
  rw [add_mk]
  exact h.may (by omega)
theorem Blk.set {w : World} {b : Nat} {vs : List Value} (h : Blk w b vs) (i : Nat) (v : Value) : Blk (w.setCell ⟨b, i, none⟩ v) b (vs.set i v) := by
  obtain ⟨e, h⟩ := h
  refine ⟨e, ?_⟩
  simp [World.setCell, Array.getElem?_modify, h]
theorem Blk.only {S : Nat → Prop} {w w' : World} {b : Nat} {vs : List Value} (h : Blk w b vs) (ho : Only S w w') (hS : ¬ S b) : Blk w' b vs := by
  have hlt := h.lt
  obtain ⟨e, h⟩ := h
  exact ⟨e, (ho.block b hlt hS).trans h⟩
theorem Blk.ext {w w' : World} {b : Nat} {vs : List Value} (h : Blk w b vs) (ho : Ext w w') : Blk w' b vs := h.only ho id
/-- Cells written one behind the other. -/
def setAll (vs : List Value) : Nat → List Value → List Value
  | _, [] => vs
  | i, v :: r => setAll (vs.set i v) (i + 1) r
theorem setAll_length : ∀ (us : List Value) (vs : List Value) (i : Nat), (setAll vs i us).length = vs.length
  | [], _, _ => rfl
  | u :: r, vs, i => by rw [setAll, setAll_length r]; simp
theorem setAll_get : ∀ (us vs : List Value) (i j : Nat), i + us.length ≤ vs.length → (setAll vs i us)[j]? = if i ≤ j ∧ j < i + us.length then us[j - i]? else vs[j]?
  | [], vs, i, j, h => by simp [setAll]; intro h1 h2; omega
  | u :: r, vs, i, j, h => by
    have h' : i + (r.length + 1) ≤ vs.length := by simpa using h
    rw [setAll, setAll_get r (vs.set i u) (i + 1) j (by simp only [List.length_set]; omega)]
    have hl : (u :: r).length = r.length + 1 := rfl
    by_cases h1 : i + 1 ≤ j ∧ j < i + 1 + r.length
    · rw [if_pos h1, if_pos (by omega)]
      rw [show j - i = (j - (i + 1)) + 1 by omega]; simp
    · rw [if_neg h1]
      by_cases h2 : i = j
      · subst h2
        rw [if_pos (by omega), List.getElem?_set_self (by omega), Nat.sub_self]
        rfl
      · rw [if_neg (by omega), List.getElem?_set_ne h2]
theorem setAll_eq (us vs : List Value) (i : Nat) (h : i + us.length ≤ vs.length) : setAll vs i us = vs.take i ++ us ++ vs.drop (i + us.length) := by
  apply List.ext_getElem?
  intro j
  rw [setAll_get us vs i j h]
  by_cases h1 : j < i
  · rw [if_neg (by omega), List.append_assoc, List.getElem?_append_left (by simp; omega)]
    simp [h1]
  · by_cases h2 : j < i + us.length
    · rw [if_pos (by omega), List.getElem?_append_left (by simp; omega), List.getElem?_append_right (by simp; omega)]
      simp
      congr 1
      omega
    · rw [if_neg (by omega), List.getElem?_append_right (by simp; omega)]
      simp
      congr 1
      omega
theorem Blk.puts : ∀ (us : List Value) {w : World} {b : Nat} {vs : List Value} (h : Blk w b vs) (o i : Nat), Blk (puts w ⟨b, o, none⟩ i us) b (setAll vs (o + i) us)
  | [], w, b, vs, h, o, i => h
  | u :: r, w, b, vs, h, o, i => by
    unfold Den.puts setAll
    rw [add_mk]
    exact Blk.puts r (h.set (o + i) u) o (i + 1)
end Go.Den

/- Rules for proofs over plain readings: slices whose row is the call's own, append. Conditions: none. -/
set_option linter.unusedVariables false
set_option linter.unusedSimpArgs false
namespace Go.Den
theorem zerosOf_length (zero : List Value) : ∀ n, (zerosOf zero n).length = n * zero.length
  | 0 => by simp [zerosOf]
  | n + 1 => by rw [zerosOf, List.length_append, zerosOf_length zero n, Nat.succ_mul]; omega
theorem Ext.own {S : Nat → Prop} {a b c : World} (h : Ext a b) (k : Only S b c) (hS : ∀ i, S i → a.heap.size ≤ i) : Ext a c := h.step k (fun i hi hs => by have := hS i hs; omega)
theorem row_of_blk {w : World} {b : Nat} {vs : List Value} (h : Blk w b vs) {n : Nat} (hn : vs.length = n) : RowAt w (some ⟨b, 0, none⟩) n vs :=
  ⟨hn, fun _ => ⟨_, rfl, fun j v hv => by rw [add_mk, h.cell, Nat.zero_add]; exact hv⟩⟩
/-! ## Rows of structs -/
/-- The cells of a list of elements. -/
theorem flatMap_get {α : Type} (f : α → List Value) (z : Nat) (hf : ∀ a, (f a).length = z) : ∀ (l : List α) (i j : Nat) (hj : j < z) (a : α), l[i]? = some a → (l.flatMap f)[i * z + j]? = (f a)[j]?
  | [], i, j, hj, a, h => by simp at h
  | b :: r, 0, j, hj, a, h => by
    have : b = a := by simpa using h
    subst this
    rw [List.flatMap_cons, Nat.zero_mul, Nat.zero_add, List.getElem?_append_left (by rw [hf]; exact hj)]
  | b :: r, i + 1, j, hj, a, h => by
    rw [List.flatMap_cons, List.getElem?_append_right (by rw [hf, Nat.succ_mul]; omega), hf, show (i + 1) * z + j - z = i * z + j by rw [Nat.succ_mul]; omega]
    exact flatMap_get f z hf r i j hj a (by simpa using h)
theorem flatMap_length {α : Type} (f : α → List Value) (z : Nat) (hf : ∀ a, (f a).length = z) : ∀ (l : List α), (l.flatMap f).length = l.length * z
  | [] => by simp
  | b :: r => by rw [List.flatMap_cons, List.length_append, hf, flatMap_length f z hf r, List.length_cons, Nat.succ_mul]; omega
theorem RowAt.cell {w : World} {a : Option Addr} {n : Nat} {vs : List Value} (h : RowAt w a n vs) {i : Nat} {v : Value} (hv : vs[i]? = some v) : ∃ p, a = some p ∧ w.cell? (p.add i) = some v := by
  have hi : i < vs.length := (List.getElem?_eq_some_iff.1 hv).1
  obtain ⟨p, hp, hc⟩ := h.2 (by rw [← h.1]; omega)
  exact ⟨p, hp, hc i v hv⟩
end Go.Den

/- Rules for proofs over plain readings: texts. Conditions: none. -/
set_option linter.unusedVariables false
set_option linter.unusedSimpArgs false
namespace Go.Den
end Go.Den

/- Rules for proofs over plain readings: a cell of one's own row written. Conditions: none. -/
set_option linter.unusedVariables false
set_option linter.unusedSimpArgs false
namespace Go.Den
end Go.Den

/- A law's arguments, opened: what lies in memory, as a value of Lean's. Conditions: none. -/
set_option linter.unusedVariables false
set_option linter.unusedSimpArgs false
namespace Go.Den
open Go.ChangeShapes Go.WideShapes
/-- How a value of a type lies in cells. -/
structure Cod (α : Type) where
  z : Nat
  is : World → List Value → α → Prop
def cInt (k : IntKind) : Cod Int := ⟨1, fun _ cs n => cs = [.int k n] ∧ (Lit.int k n).wf = true⟩
def cBool : Cod Bool := ⟨1, fun _ cs b => cs = [.bool b]⟩
def cUnit : Cod Unit := ⟨0, fun _ cs _ => cs = []⟩
def cPair {α β : Type} (c : Cod α) (d : Cod β) : Cod (α × β) := ⟨c.z + d.z, fun w cs x => ∃ c1 c2, cs = c1 ++ c2 ∧ c1.length = c.z ∧ c.is w c1 x.1 ∧ d.is w c2 x.2⟩
def cMap {α β : Type} (c : Cod α) (f : α → β) : Cod β := ⟨c.z, fun w cs y => ∃ x, f x = y ∧ c.is w cs x⟩
/-- The elements of a slice, in memory. -/
def ElemsAt {α : Type} (c : Cod α) (w : World) (a : Option Addr) (l : List α) : Prop :=
  ∀ i x, l[i]? = some x → ∃ p es, a = some p ∧ es.length = c.z ∧ (∀ j v, es[j]? = some v → w.cell? ((p.add (i * c.z)).add j) = some v) ∧ c.is w es x
def cSlice {α : Type} (c : Cod α) : Cod (List α) := ⟨1, fun w cs l => ∃ a cap, cs = [.slice a l.length cap] ∧ l.length ≤ cap ∧ cap ≤ maxLen ∧ ElemsAt c w a l⟩
section
variable {H : Type} {enc : TypeId × Value → H} {P : Program}
/-- What the model reads at a type is a value of the codec. -/
structure Opens (P : Program) {α : Type} (t : TypeId) (c : Cod α) : Prop where
  at_ : ∀ {H : Type} (enc : TypeId × Value → H) (w : World) (fuel : Nat) (cs : List Value) (x : DataW H × List MemPlace), DataW.trod enc P w 0 (fun _ => true) true fuel t cs = some x → cs.length = c.z ∧ ∃ a, c.is w cs a
theorem opens_int {t : TypeId} {k : IntKind} (h : P.underlying t = some (.int k)) : Opens P t (cInt k) := by
  refine ⟨fun {H} enc w fuel cs x hx => ?_⟩
  obtain ⟨n, rfl, _, hw⟩ := DataW.trod_int h hx
  exact ⟨rfl, n, rfl, hw⟩
theorem opens_bool {t : TypeId} (h : P.underlying t = some .bool) : Opens P t cBool := by
  refine ⟨fun {H} enc w fuel cs x hx => ?_⟩
  obtain ⟨b, rfl, _⟩ := DataW.trod_bool h hx
  exact ⟨rfl, b, rfl⟩
theorem exists_list {α : Type} {Q : Nat → α → Prop} : ∀ (n : Nat), (∀ i, i < n → ∃ x, Q i x) → ∃ l : List α, l.length = n ∧ ∀ i x, l[i]? = some x → Q i x
  | 0, _ => ⟨[], rfl, fun i x h => by simp at h⟩
  | n + 1, h => by
    obtain ⟨l, hl, hq⟩ := exists_list n (fun i hi => h i (by omega))
    obtain ⟨y, hy⟩ := h n (by omega)
    refine ⟨l ++ [y], by simp [hl], fun i x hx => ?_⟩
    by_cases hi : i < l.length
    · rw [List.getElem?_append_left hi] at hx; exact hq i x hx
    · rw [List.getElem?_append_right (by omega)] at hx
      have : i - l.length = 0 := by
        have := (List.getElem?_eq_some_iff.1 hx).1
        simp at this; omega
      rw [this] at hx
      simp at hx
      subst hx
      rw [show i = n by omega]; exact hy
theorem opens_slice {α : Type} {t e : TypeId} {c : Cod α} (ht : P.underlying t = some (.slice e)) (hz : P.cellsOf e = c.z) (he : Opens P e c) : Opens P t (cSlice c) := by
  refine ⟨fun {H} enc w fuel cs x hx => ?_⟩
  rcases Deep.open_slice ht hx with ⟨rfl, _⟩ | ⟨a, len, cap, m, n, D, Pl, rfl, _, hl, hm, hmm, _, hel⟩
  · exact ⟨rfl, [], none, 0, rfl, Nat.le_refl _, Nat.zero_le _, fun i x h => by simp at h⟩
  · refine ⟨rfl, ?_⟩
    have hm' : m = cap := by rw [hmm]; rfl
    obtain ⟨l, hll, hq⟩ := exists_list (Q := fun i x => ∃ es, es.length = c.z ∧ (∀ j v, es[j]? = some v → w.cell? ((a.add (i * c.z)).add j) = some v) ∧ c.is w es x) len (fun i hi => by
      obtain ⟨es, h1, h2⟩ := hel i (by omega)
      obtain ⟨_, h3, h4⟩ := World.cells?_some h1
      obtain ⟨h5, y, h6⟩ := he.at_ enc w n es _ h2
      refine ⟨y, es, h5, fun j v hj => ?_, h6⟩
      have hj' := (List.getElem?_eq_some_iff.1 hj).1
      rw [hz] at h4 h3
      rw [h4 j (by omega), hj])
    refine ⟨l, some a, cap, by rw [hll], by omega, hm, fun i x hx => ?_⟩
    obtain ⟨es, h⟩ := hq i x hx
    exact ⟨a, es, rfl, h⟩
/-- The fields of a struct, one behind the other, from a place on. -/
structure OpensF (P : Program) {α : Type} (fs : List Field) (off : Nat) (c : Cod α) : Prop where
  at_ : ∀ {H : Type} (enc : TypeId × Value → H) (w : World) (fuel : Nat) (cs : List Value), cs.length = off + c.z →
    (∀ f, f ∈ fs → ∃ x, DataW.trod enc P w 0 (fun _ => true) true fuel f.type ((cs.drop f.offset).take (P.cellsOf f.type)) = some x) → ∃ a, c.is w (cs.drop off) a
theorem opensF_nil {off : Nat} : OpensF P [] off cUnit := by
  refine ⟨fun {H} enc w fuel cs hl _ => ?_⟩
  exact ⟨(), List.drop_eq_nil_of_le (by rw [hl]; exact Nat.le_refl _)⟩
theorem opensF_cons {α β : Type} {f : Field} {fs : List Field} {off : Nat} {c : Cod α} {d : Cod β} (ho : f.offset = off) (hz : P.cellsOf f.type = c.z) (hf : Opens P f.type c) (hfs : OpensF P fs (off + c.z) d) : OpensF P (f :: fs) off (cPair c d) := by
  refine ⟨fun {H} enc w fuel cs hl hm => ?_⟩
  obtain ⟨y, hy⟩ := hm f (by simp)
  obtain ⟨h1, a, ha⟩ := hf.at_ enc w fuel _ _ hy
  obtain ⟨b, hb⟩ := hfs.at_ enc w fuel cs (by rw [hl]; show off + (c.z + d.z) = _; omega) (fun g hg => hm g (by simp [hg]))
  rw [ho, hz] at ha h1
  refine ⟨(a, b), _, _, ?_, h1, ha, hb⟩
  rw [← List.drop_drop, List.take_append_drop]
theorem opens_struct {α : Type} {t : TypeId} {fs : Array Field} {c : Cod α} (ht : P.underlying t = some (.struct fs)) (hz : P.cellsOf t = c.z) (hf : OpensF P fs.toList 0 c) : Opens P t c := by
  refine ⟨fun {H} enc w fuel cs x hx => ?_⟩
  obtain ⟨xs, n, _, _, h1, h2, h3⟩ := DataW.trod_struct ht hx
  have hl : cs.length = c.z := by rw [h1, hz]
  obtain ⟨a, ha⟩ := hf.at_ enc w n cs (by rw [hl]; omega) (fun f hf => by
    obtain ⟨i, hi, he⟩ := List.getElem_of_mem hf
    have hfi : fs[i]? = some f := by rw [← Array.getElem?_toList, List.getElem?_eq_getElem hi, he]
    have := h3 i f hfi
    have hix : i < xs.length := by rw [h2]; simpa using hi
    rw [List.getElem?_eq_getElem hix] at this
    exact ⟨_, this⟩)
  exact ⟨hl, a, by simpa using ha⟩
theorem opens_map {α β : Type} {t : TypeId} {c : Cod α} (f : α → β) (h : Opens P t c) : Opens P t (cMap c f) := by
  refine ⟨fun {H} enc w fuel cs x hx => ?_⟩
  obtain ⟨h1, a, ha⟩ := h.at_ enc w fuel cs x hx
  exact ⟨h1, f a, a, rfl, ha⟩
end
end Go.Den
namespace Go.Den
/-- The first of a list that is asked for; -1. -/
def idxFrom {α : Type} (p : α → Bool) : List α → Nat → Int
  | [], _ => -1
  | x :: r, i => if p x = true then i else idxFrom p r (i + 1)
theorem idxFrom_spec {α : Type} (p : α → Bool) : ∀ (l : List α) (k : Nat), (idxFrom p l k = -1 ∧ ∀ x, x ∈ l → p x = false) ∨ ∃ i x, idxFrom p l k = ((k + i : Nat) : Int) ∧ l[i]? = some x ∧ p x = true ∧ ∀ j y, j < i → l[j]? = some y → p y = false
  | [], k => .inl ⟨rfl, fun x hx => by cases hx⟩
  | x :: r, k => by
    unfold idxFrom
    by_cases hp : p x = true
    · rw [if_pos hp]
      exact .inr ⟨0, x, rfl, rfl, hp, fun j y hj => by omega⟩
    · rw [if_neg hp]
      have hp : p x = false := by simpa using hp
      rcases idxFrom_spec p r (k + 1) with ⟨h1, h2⟩ | ⟨i, y, h1, h2, h3, h4⟩
      · refine .inl ⟨h1, fun z hz => ?_⟩
        cases hz with
        | head => exact hp
        | tail _ hz => exact h2 z hz
      · refine .inr ⟨i + 1, y, by rw [h1]; congr 1; omega, by simpa using h2, h3, fun j z hj hz => ?_⟩
        cases j with
        | zero => simp at hz; subst hz; exact hp
        | succ j => exact h4 j z (by omega) (by simpa using hz)
end Go.Den

/- Rules for proofs over plain readings: sets of whole numbers, kept as maps to bool. Conditions: none. -/
set_option linter.unusedVariables false
set_option linter.unusedSimpArgs false
namespace Go.Den
theorem only_setMap (w : World) (q : Nat) (o : Obj) : Only (fun k => k = q) w (setMap w q o) := ⟨rfl, rfl, rfl, by simp [setMap], fun k hk h => by
  show (w.heap.setIfInBounds q o)[k]? = _
  rw [Array.getElem?_setIfInBounds_ne (fun he => h he.symm)]⟩
end Go.Den

/- Rules for the law's own functions: copying field by field, rows of structs written element by element. Conditions: none. -/
set_option linter.unusedVariables false
set_option linter.unusedSimpArgs false
namespace Go.Den
end Go.Den

/- Go's data as trees: how they lie in memory, lent or owned; their sizes; what has been marked. Conditions: none. -/
set_option linter.unusedVariables false
set_option linter.unusedSimpArgs false
namespace Go.Den
inductive Dat where
  | int (k : IntKind) (n : Int)
  | bool (b : Bool)
  | str (s : ByteArray)
  | st (fs : List Dat)
  | sl (z : Nat) (l : List Dat)
/-- Types of trees. -/
inductive Ty where
  | int (k : IntKind)
  | bool
  | str
  | st (fs : List Ty)
  | sl (z : Nat) (t : Ty)
mutual
def Has : Ty → Dat → Prop
  | .int k, d => ∃ n, d = .int k n
  | .bool, d => ∃ b, d = .bool b
  | .str, d => ∃ s, d = .str s
  | .st fs, d => ∃ ds, d = .st ds ∧ HasF fs ds
  | .sl z t, d => ∃ l, d = .sl z l ∧ ∀ e, e ∈ l → Has t e
def HasF : List Ty → List Dat → Prop
  | [], ds => ds = []
  | t :: r, ds => ∃ d ds', ds = d :: ds' ∧ Has t d ∧ HasF r ds'
end
/-! ## Lent -/
mutual
def IsD (w : World) : Dat → List Value → Prop
  | .int k n, cs => cs = [.int k n] ∧ (Lit.int k n).wf = true
  | .bool b, cs => cs = [.bool b]
  | .str s, cs => cs = [.string s] ∧ s.size ≤ maxLen
  | .st fs, cs => IsF w fs cs
  | .sl z l, cs => ∃ a cap, cs = [.slice a l.length cap] ∧ l.length ≤ cap ∧ l.length ≤ maxLen ∧ IsE w z a l 0
def IsF (w : World) : List Dat → List Value → Prop
  | [], cs => cs = []
  | d :: r, cs => ∃ c1 c2, cs = c1 ++ c2 ∧ IsD w d c1 ∧ IsF w r c2
def IsE (w : World) (z : Nat) (a : Option Addr) : List Dat → Nat → Prop
  | [], _ => True
  | d :: r, i => (∃ p es, a = some p ∧ es.length = z ∧ (∀ j v, es[j]? = some v → w.cell? ((p.add (i * z)).add j) = some v) ∧ IsD w d es) ∧ IsE w z a r (i + 1)
end
mutual
theorem IsD.ext {w w' : World} (e : Ext w w') : ∀ (d : Dat) (cs : List Value), IsD w d cs → IsD w' d cs
  | .int k n, cs, h => by unfold IsD at h ⊢; exact h
  | .bool b, cs, h => by unfold IsD at h ⊢; exact h
  | .str s, cs, h => by unfold IsD at h ⊢; exact h
  | .st fs, cs, h => by unfold IsD at h ⊢; exact IsF.ext e fs cs h
  | .sl z l, cs, h => by
    unfold IsD at h ⊢
    obtain ⟨a, cap, h1, h2, h3, h4⟩ := h
    exact ⟨a, cap, h1, h2, h3, IsE.ext e z a l 0 h4⟩
theorem IsF.ext {w w' : World} (e : Ext w w') : ∀ (l : List Dat) (cs : List Value), IsF w l cs → IsF w' l cs
  | [], cs, h => by unfold IsF at h ⊢; exact h
  | d :: r, cs, h => by
    unfold IsF at h ⊢
    obtain ⟨c1, c2, h1, h2, h3⟩ := h
    exact ⟨c1, c2, h1, IsD.ext e d c1 h2, IsF.ext e r c2 h3⟩
theorem IsE.ext {w w' : World} (e : Ext w w') (z : Nat) (a : Option Addr) : ∀ (l : List Dat) (i : Nat), IsE w z a l i → IsE w' z a l i
  | [], i, h => by unfold IsE; trivial
  | d :: r, i, h => by
    unfold IsE at h ⊢
    obtain ⟨⟨p, es, h1, h2, h3, h4⟩, h5⟩ := h
    exact ⟨⟨p, es, h1, h2, fun j v hj => e.cell (h3 j v hj), IsD.ext e d es h4⟩, IsE.ext e z a r (i + 1) h5⟩
end
theorem IsE.get {w : World} {z : Nat} {a : Option Addr} : ∀ {l : List Dat} {i : Nat}, IsE w z a l i → ∀ {j : Nat} {d : Dat}, l[j]? = some d → ∃ p es, a = some p ∧ es.length = z ∧ (∀ m v, es[m]? = some v → w.cell? ((p.add ((i + j) * z)).add m) = some v) ∧ IsD w d es
  | [], i, h, j, d, hj => by simp at hj
  | x :: r, i, h, 0, d, hj => by
    unfold IsE at h
    simp at hj; subst hj
    exact h.1
  | x :: r, i, h, j + 1, d, hj => by
    unfold IsE at h
    have := IsE.get h.2 (j := j) (d := d) (by simpa using hj)
    rwa [show i + 1 + j = i + (j + 1) by omega] at this
theorem IsE.mk {w : World} {z : Nat} {a : Option Addr} : ∀ {l : List Dat} {i : Nat}, (∀ j d, l[j]? = some d → ∃ p es, a = some p ∧ es.length = z ∧ (∀ m v, es[m]? = some v → w.cell? ((p.add ((i + j) * z)).add m) = some v) ∧ IsD w d es) → IsE w z a l i
  | [], i, h => by unfold IsE; trivial
  | x :: r, i, h => by
    unfold IsE
    refine ⟨h 0 x rfl, IsE.mk (fun j d hj => ?_)⟩
    rw [show i + 1 + j = i + (j + 1) by omega]
    exact h (j + 1) d (by simpa using hj)
/-! ## Owned: bs are all blocks that are reached -/
mutual
def OwnD (w : World) : Dat → List Nat → List Value → Prop
  | .int k n, bs, cs => bs = [] ∧ cs = [.int k n] ∧ (Lit.int k n).wf = true
  | .bool b, bs, cs => bs = [] ∧ cs = [.bool b]
  | .str s, bs, cs => bs = [] ∧ cs = [.string s] ∧ s.size ≤ maxLen
  | .st fs, bs, cs => OwnF w fs bs cs
  | .sl z l, bs, cs => ∃ a cap, cs = [.slice a l.length cap] ∧ l.length ≤ cap ∧ l.length ≤ maxLen ∧
      ((cap = 0 ∧ bs = []) ∨ ∃ b bs' vs, a = some ⟨b, 0, none⟩ ∧ bs = b :: bs' ∧ Blk w b vs ∧ vs.length = cap * z ∧ OwnE w z l bs' vs)
def OwnF (w : World) : List Dat → List Nat → List Value → Prop
  | [], bs, cs => bs = [] ∧ cs = []
  | d :: r, bs, cs => ∃ b1 b2 c1 c2, bs = b1 ++ b2 ∧ cs = c1 ++ c2 ∧ OwnD w d b1 c1 ∧ OwnF w r b2 c2
def OwnE (w : World) (z : Nat) : List Dat → List Nat → List Value → Prop
  | [], bs, vs => bs = []
  | d :: r, bs, vs => ∃ b1 b2 v1 v2, bs = b1 ++ b2 ∧ vs = v1 ++ v2 ∧ v1.length = z ∧ OwnD w d b1 v1 ∧ OwnE w z r b2 v2
end
mutual
theorem OwnD.only {w w' : World} {S : Nat → Prop} (o : Only S w w') : ∀ (d : Dat) (bs : List Nat) (cs : List Value), (∀ b, b ∈ bs → ¬ S b) → OwnD w d bs cs → OwnD w' d bs cs
  | .int k n, bs, cs, hS, h => by unfold OwnD at h ⊢; exact h
  | .bool b, bs, cs, hS, h => by unfold OwnD at h ⊢; exact h
  | .str s, bs, cs, hS, h => by unfold OwnD at h ⊢; exact h
  | .st fs, bs, cs, hS, h => by unfold OwnD at h ⊢; exact OwnF.only o fs bs cs hS h
  | .sl z l, bs, cs, hS, h => by
    unfold OwnD at h ⊢
    obtain ⟨a, cap, h1, h2, h3, h4⟩ := h
    refine ⟨a, cap, h1, h2, h3, ?_⟩
    rcases h4 with h4 | ⟨b, bs', vs, h5, h6, h7, h8, h9⟩
    · exact .inl h4
    · subst h6
      exact .inr ⟨b, bs', vs, h5, rfl, h7.only o (hS b (by simp)), h8, OwnE.only o z l bs' vs (fun b hb => hS b (by simp [hb])) h9⟩
theorem OwnF.only {w w' : World} {S : Nat → Prop} (o : Only S w w') : ∀ (l : List Dat) (bs : List Nat) (cs : List Value), (∀ b, b ∈ bs → ¬ S b) → OwnF w l bs cs → OwnF w' l bs cs
  | [], bs, cs, hS, h => by unfold OwnF at h ⊢; exact h
  | d :: r, bs, cs, hS, h => by
    unfold OwnF at h ⊢
    obtain ⟨b1, b2, c1, c2, h1, h2, h3, h4⟩ := h
    subst h1
    exact ⟨b1, b2, c1, c2, rfl, h2, OwnD.only o d b1 c1 (fun b hb => hS b (by simp [hb])) h3, OwnF.only o r b2 c2 (fun b hb => hS b (by simp [hb])) h4⟩
theorem OwnE.only {w w' : World} {S : Nat → Prop} (o : Only S w w') (z : Nat) : ∀ (l : List Dat) (bs : List Nat) (vs : List Value), (∀ b, b ∈ bs → ¬ S b) → OwnE w z l bs vs → OwnE w' z l bs vs
  | [], bs, vs, hS, h => by unfold OwnE at h ⊢; exact h
  | d :: r, bs, vs, hS, h => by
    unfold OwnE at h ⊢
    obtain ⟨b1, b2, v1, v2, h1, h2, h3, h4, h5⟩ := h
    subst h1
    exact ⟨b1, b2, v1, v2, rfl, h2, h3, OwnD.only o d b1 v1 (fun b hb => hS b (by simp [hb])) h4, OwnE.only o z r b2 v2 (fun b hb => hS b (by simp [hb])) h5⟩
end
mutual
theorem OwnD.lt {w : World} : ∀ (d : Dat) (bs : List Nat) (cs : List Value), OwnD w d bs cs → ∀ b, b ∈ bs → b < w.heap.size
  | .int k n, bs, cs, h => by unfold OwnD at h; intro b hb; rw [h.1] at hb; cases hb
  | .bool b, bs, cs, h => by unfold OwnD at h; intro b hb; rw [h.1] at hb; cases hb
  | .str s, bs, cs, h => by unfold OwnD at h; intro b hb; rw [h.1] at hb; cases hb
  | .st fs, bs, cs, h => by unfold OwnD at h; exact OwnF.lt fs bs cs h
  | .sl z l, bs, cs, h => by
    unfold OwnD at h
    obtain ⟨a, cap, h1, h2, h3, h4⟩ := h
    rcases h4 with h4 | ⟨b, bs', vs, h5, h6, h7, h8, h9⟩
    · intro b hb; rw [h4.2] at hb; cases hb
    · subst h6
      intro c hc
      rcases List.mem_cons.1 hc with rfl | hc
      · exact h7.lt
      · exact OwnE.lt z l bs' vs h9 c hc
theorem OwnF.lt {w : World} : ∀ (l : List Dat) (bs : List Nat) (cs : List Value), OwnF w l bs cs → ∀ b, b ∈ bs → b < w.heap.size
  | [], bs, cs, h => by unfold OwnF at h; intro b hb; rw [h.1] at hb; cases hb
  | d :: r, bs, cs, h => by
    unfold OwnF at h
    obtain ⟨b1, b2, c1, c2, h1, h2, h3, h4⟩ := h
    subst h1
    intro b hb
    rcases List.mem_append.1 hb with hb | hb
    · exact OwnD.lt d b1 c1 h3 b hb
    · exact OwnF.lt r b2 c2 h4 b hb
theorem OwnE.lt {w : World} (z : Nat) : ∀ (l : List Dat) (bs : List Nat) (vs : List Value), OwnE w z l bs vs → ∀ b, b ∈ bs → b < w.heap.size
  | [], bs, vs, h => by unfold OwnE at h; intro b hb; rw [h] at hb; cases hb
  | d :: r, bs, vs, h => by
    unfold OwnE at h
    obtain ⟨b1, b2, v1, v2, h1, h2, h3, h4, h5⟩ := h
    subst h1
    intro b hb
    rcases List.mem_append.1 hb with hb | hb
    · exact OwnD.lt d b1 v1 h4 b hb
    · exact OwnE.lt z r b2 v2 h5 b hb
end
mutual
theorem OwnD.is {w : World} : ∀ (d : Dat) (bs : List Nat) (cs : List Value), OwnD w d bs cs → IsD w d cs
  | .int k n, bs, cs, h => by unfold OwnD at h; unfold IsD; exact h.2
  | .bool b, bs, cs, h => by unfold OwnD at h; unfold IsD; exact h.2
  | .str s, bs, cs, h => by unfold OwnD at h; unfold IsD; exact h.2
  | .st fs, bs, cs, h => by unfold OwnD at h; unfold IsD; exact OwnF.is fs bs cs h
  | .sl z l, bs, cs, h => by
    unfold OwnD at h; unfold IsD
    obtain ⟨a, cap, h1, h2, h3, h4⟩ := h
    refine ⟨a, cap, h1, h2, h3, ?_⟩
    rcases h4 with h4 | ⟨b, bs', vs, h5, h6, h7, h8, h9⟩
    · have : l = [] := List.eq_nil_of_length_eq_zero (by omega)
      subst this; unfold IsE; trivial
    · subst h5
      exact OwnE.is z b vs h7 l 0 bs' vs (by simp) h9
theorem OwnF.is {w : World} : ∀ (l : List Dat) (bs : List Nat) (cs : List Value), OwnF w l bs cs → IsF w l cs
  | [], bs, cs, h => by unfold OwnF at h; unfold IsF; exact h.2
  | d :: r, bs, cs, h => by
    unfold OwnF at h; unfold IsF
    obtain ⟨b1, b2, c1, c2, h1, h2, h3, h4⟩ := h
    exact ⟨c1, c2, h2, OwnD.is d b1 c1 h3, OwnF.is r b2 c2 h4⟩
theorem OwnE.is {w : World} (z b : Nat) (us : List Value) (hb : Blk w b us) : ∀ (l : List Dat) (i : Nat) (bs : List Nat) (vs : List Value), us.drop (i * z) = vs → OwnE w z l bs vs → IsE w z (some ⟨b, 0, none⟩) l i
  | [], i, bs, vs, hv, h => by unfold IsE; trivial
  | d :: r, i, bs, vs, hv, h => by
    unfold OwnE at h; unfold IsE
    obtain ⟨b1, b2, v1, v2, h1, h2, h3, h4, h5⟩ := h
    refine ⟨⟨_, v1, rfl, h3, fun j v hj => ?_, OwnD.is d b1 v1 h4⟩, OwnE.is z b us hb r (i + 1) b2 v2 ?_ h5⟩
    · rw [add_mk, add_mk, hb.cell, Nat.zero_add, ← List.getElem?_drop, hv, h2, List.getElem?_append_left (List.getElem?_eq_some_iff.1 hj).1]
      exact hj
    · rw [Nat.succ_mul, ← List.drop_drop, hv, h2, ← h3, List.drop_left]
end
end Go.Den
namespace Go.Den
/-! ## How many -/
mutual
def Dat.sz : Dat → Nat
  | .int _ _ => 0
  | .bool _ => 0
  | .str s => s.size
  | .st fs => Dat.szs fs
  | .sl _ l => l.length + Dat.szs l
def Dat.szs : List Dat → Nat
  | [] => 0
  | d :: r => d.sz + Dat.szs r
end
/-! How many marks, in an element. -/
/-! How many marks, handed by value. -/
/-! ## Marked, from k on -/
theorem szs_append : ∀ (a b : List Dat), Dat.szs (a ++ b) = Dat.szs a + Dat.szs b
  | [], b => by simp [Dat.szs]
  | d :: r, b => by simp only [List.cons_append, Dat.szs, szs_append r b]; omega
/-! ## One element of many -/
theorem OwnE.join {w : World} {z : Nat} : ∀ {l r : List Dat} {b1 b2 : List Nat} {v1 v2 : List Value}, OwnE w z l b1 v1 → v1.length = l.length * z → OwnE w z r b2 v2 → OwnE w z (l ++ r) (b1 ++ b2) (v1 ++ v2)
  | [], r, b1, b2, v1, v2, h, hv, h2 => by
    unfold OwnE at h; subst h
    have : v1 = [] := List.eq_nil_of_length_eq_zero (by simpa using hv)
    subst this
    simpa using h2
  | x :: l, r, b1, b2, v1, v2, h, hv, h2 => by
    unfold OwnE at h
    obtain ⟨c1, c2, u1, u2, h3, h4, h5, h6, h7⟩ := h
    subst h3; subst h4
    rw [List.cons_append]
    unfold OwnE
    refine ⟨c1, c2 ++ b2, u1, u2 ++ v2, by simp, by simp, h5, h6, OwnE.join h7 ?_ h2⟩
    rw [List.length_append, h5, List.length_cons, Nat.succ_mul] at hv
    omega
theorem OwnE.vlen {w : World} {z : Nat} : ∀ {l : List Dat} {bs : List Nat} {vs : List Value}, OwnE w z l bs vs → l.length * z ≤ vs.length
  | [], bs, vs, h => by simp
  | x :: l, bs, vs, h => by
    unfold OwnE at h
    obtain ⟨c1, c2, u1, u2, h3, h4, h5, h6, h7⟩ := h
    have := h7.vlen
    rw [h4, List.length_append, h5, List.length_cons, Nat.succ_mul]; omega
theorem OwnE.cons {w : World} {z : Nat} {d : Dat} {l : List Dat} {b1 b2 : List Nat} {v1 v2 : List Value} (h1 : v1.length = z) (h2 : OwnD w d b1 v1) (h3 : OwnE w z l b2 v2) : OwnE w z (d :: l) (b1 ++ b2) (v1 ++ v2) := by
  unfold OwnE; exact ⟨b1, b2, v1, v2, rfl, rfl, h1, h2, h3⟩
theorem szs_get {l : List Dat} {i : Nat} {d : Dat} (h : l[i]? = some d) : d.sz + Dat.szs (l.take i) ≤ Dat.szs l := by
  have hi := (List.getElem?_eq_some_iff.1 h).1
  have := szs_append (l.take i) (l.drop i)
  rw [List.take_append_drop, List.drop_eq_getElem_cons hi] at this
  have hd : l[i] = d := (List.getElem?_eq_some_iff.1 h).2
  rw [hd] at this
  simp only [Dat.szs] at this; omega
end Go.Den

/- Rules for the laws' own functions over trees: copies made element by element. Conditions: none. -/
set_option linter.unusedVariables false
set_option linter.unusedSimpArgs false
namespace Go.Den
/-- A tree that lies in blocks made since w, each of its own. -/
def Fresh (w w' : World) (d : Dat) (cs : List Value) : Prop := ∃ bs, OwnD w' d bs cs ∧ bs.Nodup ∧ ∀ b, b ∈ bs → w.heap.size ≤ b
theorem OwnE.cut {w : World} {z : Nat} : ∀ {l : List Dat} {bs : List Nat} {vs us : List Value}, OwnE w z l bs vs → vs.take (l.length * z) = us.take (l.length * z) → OwnE w z l bs us
  | [], bs, vs, us, h, e => by unfold OwnE at h ⊢; exact h
  | x :: l, bs, vs, us, h, e => by
    have hl := h.vlen
    unfold OwnE at h ⊢
    obtain ⟨c1, c2, u1, u2, h3, h4, h5, h6, h7⟩ := h
    subst h4
    simp only [List.length_cons, Nat.succ_mul] at e hl
    have e1 : us.take z = u1 := by
      have := congrArg (List.take z) e
      rw [List.take_take, List.take_take, Nat.min_eq_left (by omega), ← h5, List.take_left] at this
      rw [← h5]; exact this.symm
    have e2 : u2.take (l.length * z) = (us.drop z).take (l.length * z) := by
      have := congrArg (List.drop z) e
      rw [List.drop_take, List.drop_take, show l.length * z + z - z = l.length * z by omega] at this
      rw [← this, ← h5, List.drop_left]
    exact ⟨c1, c2, u1, us.drop z, h3, by rw [← e1, List.take_append_drop], h5, h6, h7.cut e2⟩
structure ToInv (w0 w : World) (b z : Nat) (l : List Dat) (i : Nat) (bs : List Nat) (vs : List Value) : Prop where
  ext : Ext w0 w
  b0 : w0.heap.size ≤ b
  blk : Blk w b vs
  len : vs.length = l.length * z
  own : OwnE w z (l.take i) bs vs
  hi : ∀ c, c ∈ bs → b < c
  nd : bs.Nodup
  le : i ≤ l.length
theorem ToInv.start {w : World} {z : Nat} {zero : List Value} {e : TypeId} (l : List Dat) (hz : zero.length = z) : ToInv w (w.alloc (.cells ⟨zerosOf zero l.length⟩ e)) w.heap.size z l 0 [] (zerosOf zero l.length) :=
  ⟨ext_alloc w _, Nat.le_refl _, blk_alloc w _ e, by rw [zerosOf_length, hz], by rw [List.take_zero]; unfold OwnE; rfl, fun c h => (by cases h), List.nodup_nil, Nat.zero_le _⟩
theorem ToInv.step {w0 w w2 : World} {b z i : Nat} {l : List Dat} {bs b1 : List Nat} {vs v1 : List Value} {d : Dat} (h : ToInv w0 w b z l i bs vs) (hd : l[i]? = some d) (e : Ext w w2) (ho : OwnD w2 d b1 v1) (hn : b1.Nodup) (hb1 : ∀ c, c ∈ b1 → w.heap.size ≤ c) (hv : v1.length = z) :
    MayN w2 ((⟨b, 0, Option.none⟩ : Addr).add (i * z)) z ∧ ToInv w0 (Den.puts w2 ((⟨b, 0, Option.none⟩ : Addr).add (i * z)) 0 v1) b z l (i + 1) (bs ++ b1) (setAll vs (i * z) v1) := by
  have hi := (List.getElem?_eq_some_iff.1 hd).1
  have hbl := h.blk.ext e
  have hlt := h.blk.lt
  have hfit : i * z + z ≤ vs.length := by rw [h.len, ← Nat.succ_mul]; exact Nat.mul_le_mul_right _ hi
  have hop := only_puts v1 w2 ⟨b, i * z, Option.none⟩ 0
  rw [add_mk, Nat.zero_add]
  have hbn : ∀ c, c ∈ bs → ¬ c = b := fun c hc he => by have := h.hi c hc; omega
  have hbn1 : ∀ c, c ∈ b1 → ¬ c = b := fun c hc he => by have := hb1 c hc; omega
  refine ⟨hbl.mayN hfit, ⟨h.ext.own (Only.trans e.any hop) (fun k hk => ?_), h.b0, ?_, ?_, ?_, ?_, ?_, hi⟩⟩
  · have := h.b0; subst hk; exact this
  · have := Blk.puts v1 hbl (i * z) 0
    rwa [Nat.add_zero] at this
  · rw [setAll_length]; exact h.len
  · have h1 : OwnE (Den.puts w2 ⟨b, i * z, Option.none⟩ 0 v1) z (l.take i) bs (vs.take (i * z)) := by
      have := OwnE.only (Only.trans e.any hop) z _ _ _ hbn h.own
      exact this.cut (by rw [List.length_take, Nat.min_eq_left h.le, List.take_take, Nat.min_self])
    have h2 : OwnE (Den.puts w2 ⟨b, i * z, Option.none⟩ 0 v1) z [d] b1 (v1 ++ vs.drop (i * z + v1.length)) := by
      have := OwnE.cons (z := z) (l := []) (b2 := []) (v2 := vs.drop (i * z + v1.length)) hv (OwnD.only hop _ _ _ hbn1 ho) (by unfold OwnE; rfl)
      rwa [List.append_nil] at this
    rw [setAll_eq _ _ _ (by omega), List.append_assoc]
    rw [List.take_add_one, hd]
    exact OwnE.join h1 (by rw [List.length_take, List.length_take, Nat.min_eq_left h.le, Nat.min_eq_left (by omega)]) h2
  · intro c hc
    rcases List.mem_append.1 hc with hc | hc
    · exact h.hi c hc
    · have := hb1 c hc; omega
  · rw [List.nodup_append]
    refine ⟨h.nd, hn, fun x hx y hy hxy => ?_⟩
    have h1 := OwnE.lt z _ _ _ h.own x hx
    have h2 := hb1 y hy
    omega
theorem ToInv.done {w0 w : World} {b z i : Nat} {l : List Dat} {bs : List Nat} {vs : List Value} (h : ToInv w0 w b z l i bs vs) (hi : l.length ≤ i) (hm : l.length ≤ maxLen) : Fresh w0 w (.sl z l) [.slice (some ⟨b, 0, Option.none⟩) l.length l.length] := by
  have hz := h.own
  have hle := h.le
  rw [List.take_of_length_le (by omega)] at hz
  refine ⟨b :: bs, ?_, ?_, ?_⟩
  · unfold OwnD
    exact ⟨_, _, rfl, Nat.le_refl _, hm, .inr ⟨b, bs, vs, rfl, rfl, h.blk, h.len, hz⟩⟩
  · rw [List.nodup_cons]
    exact ⟨fun hb => by have := h.hi b hb; omega, h.nd⟩
  · intro c hc
    have := h.b0
    rcases List.mem_cons.1 hc with rfl | hc
    · exact this
    · have := h.hi c hc; omega
theorem puts_one {w : World} {p : Addr} {v : Value} : Den.puts w p 0 [v] = w.setCell p v := by simp only [Den.puts, add_zero]
theorem mayN_one {w : World} {p : Addr} (h : MayN w p 1) : May w p := by have := h 0 (by omega); rwa [add_zero] at this
/-! ## A slice that is lent -/
theorem isD_sl {w : World} {z : Nat} {l : List Dat} {s : Sl} (h : IsD w (.sl z l) [.slice s.a s.len s.cap]) : s.len = l.length ∧ l.length ≤ maxLen ∧ IsE w z s.a l 0 := by
  unfold IsD at h
  obtain ⟨a, cap, h1, h2, h3, h4⟩ := h
  simp only [List.cons.injEq, Value.slice.injEq, and_true] at h1
  obtain ⟨rfl, h5, rfl⟩ := h1
  exact ⟨h5, h3, h4⟩
theorem isD_at {w : World} {z : Nat} {l : List Dat} {s : Sl} (h : IsD w (.sl z l) [.slice s.a s.len s.cap]) {i : Nat} {d : Dat} (hd : l[i]? = some d) : ∃ p es, s.a = some p ∧ es.length = z ∧ (∀ m v, es[m]? = some v → w.cell? ((p.add (i * z)).add m) = some v) ∧ IsD w d es := by
  obtain ⟨_, _, h4⟩ := isD_sl h
  obtain ⟨p, es, h1, h2, h3, h5⟩ := h4.get hd
  rw [Nat.zero_add] at h3
  exact ⟨p, es, h1, h2, h3, h5⟩
/-- What a size comes to. -/
def SzPost (n : Nat) (left : Int) (v : Value) : Prop := ∃ r : Int, v = .int .i64 r ∧ ((r = left - n ∧ 0 ≤ r) ∨ (r < 0 ∧ left < n))
theorem mem_get {l : List Dat} {i : Nat} {d : Dat} (h : l[i]? = some d) : d ∈ l := List.mem_of_getElem? h
/-! ## Marks in one's own row -/
end Go.Den

/- Steps of proofs over plain readings; rules for the laws' own functions, more. Conditions: none. -/
set_option linter.unusedVariables false
set_option linter.unusedSimpArgs false
namespace Go.Den
/-! ## Steps -/
theorem alloc_step {w : World} {c : List Value} {e : TypeId} {k : World → Prop} (h : ∀ w1, Ext w w1 → Blk w1 w.heap.size c → w1.heap.size = w.heap.size + 1 → k w1) : LetW (w.alloc (.cells ⟨c⟩ e)) k :=
  LetW_iff.2 (h _ (ext_alloc w _) (blk_alloc w c e) (size_alloc w _))
theorem set_step {w : World} {b i : Nat} {vs : List Value} {v : Value} {k : World → Prop} (hb : Blk w b vs) (hi : i < vs.length) (h : ∀ w2, Only (fun j => j = b) w w2 → Blk w2 b (vs.set i v) → w2.heap.size = w.heap.size → k w2) :
    May w ⟨b, i, none⟩ ∧ LetW (w.setCell ⟨b, i, none⟩ v) k :=
  ⟨hb.may hi, LetW_iff.2 (h _ (only_set w ⟨b, i, none⟩ v) (hb.set i v) (size_set w _ v))⟩
/-- A block written whole. -/
theorem put_step {w : World} {b n : Nat} {vs us : List Value} {k : World → Prop} (hb : Blk w b vs) (hn : us.length = n) (hi : vs.length = n) (h : ∀ w2, Only (fun j => j = b) w w2 → Blk w2 b us → w2.heap.size = w.heap.size → k w2) :
    MayN w ⟨b, 0, none⟩ n ∧ LetW (Den.puts w ⟨b, 0, none⟩ 0 us) k := by
  refine ⟨hb.mayN (by omega), LetW_iff.2 (h _ (only_puts us w ⟨b, 0, none⟩ 0) ?_ (size_puts us w _ 0))⟩
  have h2 := Blk.puts us hb 0 0
  have he : setAll vs (0 + 0) us = us := by
    rw [setAll_eq _ _ _ (by omega)]
    have : List.drop us.length vs = [] := List.drop_eq_nil_of_le (by omega)
    simp [this]
  rwa [he] at h2
/-! ## Trees in blocks of a range -/
def Fr (lo hi : Nat) (w : World) (d : Dat) (cs : List Value) : Prop := ∃ bs, OwnD w d bs cs ∧ bs.Nodup ∧ ∀ b, b ∈ bs → lo ≤ b ∧ b < hi
def FrF (lo hi : Nat) (w : World) (ds : List Dat) (cs : List Value) : Prop := ∃ bs, OwnF w ds bs cs ∧ bs.Nodup ∧ ∀ b, b ∈ bs → lo ≤ b ∧ b < hi
theorem Fresh.fr {w w' : World} {d : Dat} {cs : List Value} (h : Fresh w w' d cs) : Fr w.heap.size w'.heap.size w' d cs := by
  obtain ⟨bs, h1, h2, h3⟩ := h
  exact ⟨bs, h1, h2, fun b hb => ⟨h3 b hb, OwnD.lt _ _ _ h1 b hb⟩⟩
theorem Fr.only {S : Nat → Prop} {lo hi : Nat} {w w' : World} {d : Dat} {cs : List Value} (h : Fr lo hi w d cs) (o : Only S w w') (hS : ∀ k, lo ≤ k → k < hi → ¬ S k) : Fr lo hi w' d cs := by
  obtain ⟨bs, h1, h2, h3⟩ := h
  exact ⟨bs, OwnD.only o _ _ _ (fun b hb => hS b (h3 b hb).1 (h3 b hb).2) h1, h2, h3⟩
theorem Fr.ext {lo hi : Nat} {w w' : World} {d : Dat} {cs : List Value} (h : Fr lo hi w d cs) (e : Ext w w') : Fr lo hi w' d cs := h.only e (fun _ _ _ => id)
theorem Fr.is {lo hi : Nat} {w : World} {d : Dat} {cs : List Value} (h : Fr lo hi w d cs) : IsD w d cs := by obtain ⟨bs, h, _⟩ := h; exact OwnD.is _ _ _ h
theorem Fr.mono {lo hi lo' hi' : Nat} {w : World} {d : Dat} {cs : List Value} (h : Fr lo hi w d cs) (h1 : lo' ≤ lo) (h2 : hi ≤ hi') : Fr lo' hi' w d cs := by
  obtain ⟨bs, h3, h4, h5⟩ := h
  exact ⟨bs, h3, h4, fun b hb => ⟨Nat.le_trans h1 (h5 b hb).1, Nat.lt_of_lt_of_le (h5 b hb).2 h2⟩⟩
theorem fr_int {lo hi : Nat} {w : World} {k : IntKind} {n : Int} (h : (Lit.int k n).wf = true) : Fr lo hi w (.int k n) [.int k n] := ⟨[], by unfold OwnD; exact ⟨rfl, rfl, h⟩, List.nodup_nil, fun b hb => by cases hb⟩
theorem fr_bool {lo hi : Nat} {w : World} {b : Bool} : Fr lo hi w (.bool b) [.bool b] := ⟨[], by unfold OwnD; exact ⟨rfl, rfl⟩, List.nodup_nil, fun b hb => by cases hb⟩
theorem frF_nil {lo hi : Nat} {w : World} : FrF lo hi w [] [] := ⟨[], by unfold OwnF; exact ⟨rfl, rfl⟩, List.nodup_nil, fun b hb => by cases hb⟩
theorem frF_cons {lo m hi : Nat} {w : World} {d : Dat} {ds : List Dat} {c1 c2 : List Value} (h1 : Fr lo m w d c1) (h2 : FrF m hi w ds c2) (hm : m ≤ hi) (hl : lo ≤ m) : FrF lo hi w (d :: ds) (c1 ++ c2) := by
  obtain ⟨b1, h3, h4, h5⟩ := h1
  obtain ⟨b2, h6, h7, h8⟩ := h2
  refine ⟨b1 ++ b2, by unfold OwnF; exact ⟨b1, b2, c1, c2, rfl, rfl, h3, h6⟩, ?_, fun b hb => ?_⟩
  · rw [List.nodup_append]
    exact ⟨h4, h7, fun x hx y hy hxy => by have := h5 x hx; have := h8 y hy; omega⟩
  · rcases List.mem_append.1 hb with hb | hb
    · have := h5 b hb; omega
    · have := h8 b hb; omega
theorem frF_st {lo hi : Nat} {w : World} {ds : List Dat} {cs : List Value} (h : FrF lo hi w ds cs) : Fr lo hi w (.st ds) cs := by
  obtain ⟨bs, h1, h2⟩ := h
  exact ⟨bs, by unfold OwnD; exact h1, h2⟩
theorem isD_sl_s {w : World} {z : Nat} {l : List Dat} {cs : List Value} (h : IsD w (.sl z l) cs) : ∃ s : Sl, cs = [.slice s.a s.len s.cap] := by
  unfold IsD at h
  obtain ⟨a, cap, rfl, _⟩ := h
  exact ⟨⟨a, l.length, cap⟩, rfl⟩
theorem isD_int {w : World} {k : IntKind} {n : Int} {cs : List Value} (h : IsD w (.int k n) cs) : cs = [.int k n] ∧ (Lit.int k n).wf = true := by unfold IsD at h; exact h
theorem isD_bool {w : World} {b : Bool} {cs : List Value} (h : IsD w (.bool b) cs) : cs = [.bool b] := by unfold IsD at h; exact h
theorem isF_cons {w : World} {d : Dat} {r : List Dat} {cs : List Value} (h : IsF w (d :: r) cs) : ∃ c1 c2, cs = c1 ++ c2 ∧ IsD w d c1 ∧ IsF w r c2 := by unfold IsF at h; exact h
theorem isF_nil {w : World} {cs : List Value} (h : IsF w [] cs) : cs = [] := by unfold IsF at h; exact h
theorem isD_st {w : World} {ds : List Dat} {cs : List Value} (h : IsD w (.st ds) cs) : IsF w ds cs := by unfold IsD at h; exact h
theorem has_int {k : IntKind} {d : Dat} (h : Has (.int k) d) : ∃ n, d = .int k n := by unfold Has at h; exact h
theorem has_bool {d : Dat} (h : Has .bool d) : ∃ b, d = .bool b := by unfold Has at h; exact h
theorem has_st {fs : List Ty} {d : Dat} (h : Has (.st fs) d) : ∃ ds, d = .st ds ∧ HasF fs ds := by unfold Has at h; exact h
theorem has_sl {z : Nat} {t : Ty} {d : Dat} (h : Has (.sl z t) d) : ∃ l, d = .sl z l ∧ ∀ e, e ∈ l → Has t e := by unfold Has at h; exact h
theorem hasF_cons {t : Ty} {r : List Ty} {ds : List Dat} (h : HasF (t :: r) ds) : ∃ d ds', ds = d :: ds' ∧ Has t d ∧ HasF r ds' := by unfold HasF at h; exact h
theorem hasF_nil {ds : List Dat} (h : HasF [] ds) : ds = [] := by unfold HasF at h; exact h
theorem mk_int {k : IntKind} {n : Int} : Has (.int k) (.int k n) := by unfold Has; exact ⟨n, rfl⟩
theorem mk_bool {b : Bool} : Has .bool (.bool b) := by unfold Has; exact ⟨b, rfl⟩
theorem mk_st {fs : List Ty} {ds : List Dat} (h : HasF fs ds) : Has (.st fs) (.st ds) := by unfold Has; exact ⟨ds, rfl, h⟩
theorem mk_sl {z : Nat} {t : Ty} {l : List Dat} (h : ∀ e, e ∈ l → Has t e) : Has (.sl z t) (.sl z l) := by unfold Has; exact ⟨l, rfl, h⟩
theorem mkF_cons {t : Ty} {r : List Ty} {d : Dat} {ds : List Dat} (h : Has t d) (h2 : HasF r ds) : HasF (t :: r) (d :: ds) := by unfold HasF; exact ⟨d, ds, rfl, h, h2⟩
theorem mkF_nil : HasF [] [] := by unfold HasF; rfl
/-! ## Marks: the fields of an element, one behind the other -/
end Go.Den
namespace Go.Den
theorem szs_zero : ∀ {l : List Dat}, (∀ d, d ∈ l → d.sz = 0) → Dat.szs l = 0
  | [], h => by simp [Dat.szs]
  | d :: r, h => by
    simp only [Dat.szs, h d (by simp), szs_zero (fun x hx => h x (List.mem_cons_of_mem _ hx))]
theorem szs_take {l : List Dat} {k : Nat} {d : Dat} (h : l[k]? = some d) : Dat.szs (l.take (k + 1)) = Dat.szs (l.take k) + d.sz := by
  rw [List.take_add_one, h, szs_append]
  simp [Dat.szs]
end Go.Den
namespace Go.Den
/-! ## The mark that the laws write into a text -/
/-! ## Marked trees -/
theorem wf_i64 {n : Int} (h1 : -9223372036854775808 ≤ n) (h2 : n ≤ 9223372036854775807) : (Lit.int .i64 n).wf = true := by simp [Lit.wf, IntKind.min, IntKind.max, IntKind.signed, IntKind.bits]; omega
end Go.Den
namespace Go.Den
end Go.Den

/- From a law's arguments, opened, to trees; rows of flat structs. Conditions: none. -/
set_option linter.unusedVariables false
set_option linter.unusedSimpArgs false
namespace Go.Den
theorem isD_mkInt {w : World} {k : IntKind} {cs : List Value} {n : Int} (h : (cInt k).is w cs n) : IsD w (.int k n) cs := by unfold IsD; exact h
theorem isD_mkBool {w : World} {cs : List Value} {b : Bool} (h : cBool.is w cs b) : IsD w (.bool b) cs := by unfold IsD; exact h
theorem isD_mkSl {α : Type} {c : Cod α} {f : α → Dat} {w : World} {cs : List Value} {l : List α} (h : (cSlice c).is w cs l) (hf : ∀ es x, c.is w es x → IsD w (f x) es) : IsD w (.sl c.z (l.map f)) cs := by
  obtain ⟨a, cap, rfl, h2, h3, h4⟩ := h
  unfold IsD
  refine ⟨a, cap, by simp, by simpa using h2, by simp; omega, IsE.mk (fun j d hj => ?_)⟩
  rw [List.getElem?_map] at hj
  obtain ⟨x, hx, rfl⟩ : ∃ x, l[j]? = some x ∧ f x = d := by
    cases hx : l[j]? with
    | none => rw [hx] at hj; cases hj
    | some x => rw [hx] at hj; exact ⟨x, rfl, by simpa using hj⟩
  obtain ⟨p, es, h5, h6, h7, h8⟩ := h4 j x hx
  exact ⟨p, es, h5, h6, by rw [Nat.zero_add]; exact h7, hf es x h8⟩
theorem isD_mkSt {w : World} {ds : List Dat} {cs : List Value} (h : IsF w ds cs) : IsD w (.st ds) cs := by unfold IsD; exact h
theorem isF_mk {w : World} {d : Dat} {r : List Dat} {c1 c2 : List Value} (h1 : IsD w d c1) (h2 : IsF w r c2) : IsF w (d :: r) (c1 ++ c2) := by unfold IsF; exact ⟨c1, c2, rfl, h1, h2⟩
theorem isF_mk0 {w : World} {cs : List Value} (h : cs = []) : IsF w [] cs := by unfold IsF; exact h
/-- The elements of a lent slice, one by one, at their places. -/
theorem isD_elem {α : Type} {f : α → Dat} {w : World} {z : Nat} {l : List α} {s : Sl} (h : IsD w (.sl z (l.map f)) [.slice s.a s.len s.cap]) {i : Nat} {x : α} (hx : l[i]? = some x) : ∃ p es, s.a = some p ∧ es.length = z ∧ (∀ m v, es[m]? = some v → w.cell? ((p.add (i * z)).add m) = some v) ∧ IsD w (f x) es :=
  isD_at h (by rw [List.getElem?_map, hx]; rfl)
theorem isD_len {α : Type} {f : α → Dat} {w : World} {z : Nat} {l : List α} {s : Sl} (h : IsD w (.sl z (l.map f)) [.slice s.a s.len s.cap]) : s.len = l.length ∧ l.length ≤ maxLen := by
  have := isD_sl h
  rw [List.length_map] at this
  exact ⟨this.1, this.2.1⟩
/-- A lent slice of flat elements is a row. -/
theorem isD_row {α : Type} {f : α → Dat} {g : α → List Value} {w : World} {z : Nat} {l : List α} {s : Sl} (h : IsD w (.sl z (l.map f)) [.slice s.a s.len s.cap]) (hg : ∀ x, (g x).length = z) (hf : ∀ es x, IsD w (f x) es → es = g x) : RowAt w s.a (s.len * z) (l.flatMap g) := by
  have hl := (isD_len h).1
  have hlen := flatMap_length g z hg l
  refine ⟨by rw [hl]; exact hlen, fun hn => ?_⟩
  rw [hl] at hn
  have hz : 0 < z := Nat.pos_of_mul_pos_left hn
  have hl0 : 0 < l.length := Nat.pos_of_mul_pos_right hn
  obtain ⟨p, _, hp, _⟩ := isD_elem h (List.getElem?_eq_getElem hl0)
  refine ⟨p, hp, fun j v hj => ?_⟩
  have hjl := (List.getElem?_eq_some_iff.1 hj).1
  rw [hlen] at hjl
  have hi : j / z < l.length := Nat.div_lt_of_lt_mul (by rw [Nat.mul_comm]; exact hjl)
  have hr : j % z < z := Nat.mod_lt _ hz
  have hx : l[j / z]? = some l[j / z] := List.getElem?_eq_getElem hi
  obtain ⟨q, es, hq, _, hcell, his⟩ := isD_elem h hx
  rw [hp] at hq; cases hq
  have hes := hf _ _ his
  have hdm : j / z * z + j % z = j := by rw [Nat.mul_comm]; exact Nat.div_add_mod j z
  have := hcell (j % z) v (by rw [hes, ← flatMap_get g z hg l (j / z) (j % z) hr _ hx, hdm]; exact hj)
  rwa [add_add, hdm] at this
theorem map_flat {k : IntKind} : ∀ l : List Int, l.flatMap (fun n => [Value.int k n]) = l.map (Value.int k)
  | [] => rfl
  | a :: r => by rw [List.flatMap_cons, map_flat r]; rfl
/-- Bytes, numbers: a lent slice of them. -/
theorem isD_nums {k : IntKind} {w : World} {l : List Int} {s : Sl} (h : IsD w (.sl 1 (l.map (Dat.int k))) [.slice s.a s.len s.cap]) : RowAt w s.a s.len (l.map (Value.int k)) := by
  have := isD_row (g := fun n => [Value.int k n]) h (fun _ => rfl) (fun es x hx => (isD_int hx).1)
  rw [Nat.mul_one, map_flat] at this
  exact this
theorem isD_wf {k : IntKind} {w : World} {l : List Int} {s : Sl} (h : IsD w (.sl 1 (l.map (Dat.int k))) [.slice s.a s.len s.cap]) : ∀ n, n ∈ l → (Lit.int k n).wf = true := by
  intro n hn
  obtain ⟨i, hi, rfl⟩ := List.getElem_of_mem hn
  obtain ⟨p, es, _, _, _, h2⟩ := isD_elem h (List.getElem?_eq_getElem hi)
  exact (isD_int h2).2
end Go.Den
namespace Go.Den
theorem isD_cap {w : World} {z : Nat} {l : List Dat} {s : Sl} (h : IsD w (.sl z l) [.slice s.a s.len s.cap]) : s.len ≤ s.cap := by
  unfold IsD at h
  obtain ⟨a, cap, h1, h2, h3, h4⟩ := h
  simp only [List.cons.injEq, Value.slice.injEq, and_true] at h1
  obtain ⟨rfl, h5, h6⟩ := h1
  omega
theorem wf_u8_rng {n : Int} (h : (Lit.int .u8 n).wf = true) : 0 ≤ n ∧ n ≤ 255 := by
  simp [Lit.wf, IntKind.min, IntKind.max, IntKind.signed, IntKind.bits] at h
  omega
theorem sz_map_nums {k : IntKind} {z : Nat} {l : List Int} : (Dat.sl z (l.map (Dat.int k))).sz = l.length := by
  have : Dat.szs (l.map (Dat.int k)) = 0 := szs_zero (fun d hd => by obtain ⟨x, _, rfl⟩ := List.mem_map.1 hd; rfl)
  simp only [Dat.sz, this, List.length_map]; omega
theorem sz_nums {k : IntKind} {l : List Int} : (Dat.sl 1 (l.map (Dat.int k))).sz = l.length := sz_map_nums
end Go.Den

/- Trees handed by value: owned and marked, small facts. Conditions: none. -/
set_option linter.unusedVariables false
set_option linter.unusedSimpArgs false
namespace Go.Den
open Go
end Go.Den

/- Bits of 64-bit words, rows of bytes. Conditions: none. -/
set_option linter.unusedVariables false
set_option linter.unusedSimpArgs false
namespace Go.Den
open Go
end Go.Den

/- Memory in parts: what a call owns, as a list of assertions over blocks. Conditions: none. -/
set_option linter.unusedVariables false
set_option linter.unusedSimpArgs false
namespace Go.Den
open Go
/-- Blocks and what is in them. -/
inductive BV where
  | c (vs : List Value)
  | m (kvs : List (Value × Value))
  | n (kvs : List (Value × Value))
def BVAt (w : World) (b : Nat) : BV → Prop
  | .c vs => Blk w b vs
  | .m kvs => ∃ es k, w.heap[b]? = some (.map ⟨es⟩ k) ∧ es.map (fun e => (e.key, e.val)) = kvs
  | .n kvs => ∃ es k, w.heap[b]? = some (.map ⟨es⟩ k) ∧ es.map (fun e => (e.key, e.val)) = kvs ∧ (es.map (·.born)).Nodup ∧ ∀ e, e ∈ es → e.born < k
theorem BVAt.lt {w : World} {b : Nat} {v : BV} (h : BVAt w b v) : b < w.heap.size := by
  cases v with
  | c vs => exact Blk.lt h
  | m kvs => obtain ⟨es, k, h, _⟩ := h; exact (Array.getElem?_eq_some_iff.1 h).1
  | n kvs => obtain ⟨es, k, h, _⟩ := h; exact (Array.getElem?_eq_some_iff.1 h).1
theorem BVAt.only {S : Nat → Prop} {w w' : World} {b : Nat} {v : BV} (h : BVAt w b v) (o : Only S w w') (hS : ¬ S b) : BVAt w' b v := by
  have hlt := h.lt
  cases v with
  | c vs => exact Blk.only h o hS
  | m kvs => obtain ⟨es, k, h, h2⟩ := h; exact ⟨es, k, (o.block b hlt hS).trans h, h2⟩
  | n kvs => obtain ⟨es, k, h, h2⟩ := h; exact ⟨es, k, (o.block b hlt hS).trans h, h2⟩
theorem BVAt.ext {w w' : World} {b : Nat} {v : BV} (h : BVAt w b v) (e : Ext w w') : BVAt w' b v := h.only e id
abbrev HL := List (Nat × BV)
abbrev Asr := HL → Prop
structure Sat (w0 w : World) (H : HL) : Prop where
  ext : Ext w0 w
  blk : ∀ x, x ∈ H → BVAt w x.1 x.2
  nd : (H.map (·.1)).Nodup
  own : ∀ x, x ∈ H → w0.heap.size ≤ x.1
theorem Sat.perm {w0 w : World} {H H' : HL} (h : Sat w0 w H) (p : H.Perm H') : Sat w0 w H' :=
  ⟨h.ext, fun x hx => h.blk x (p.mem_iff.2 hx), (p.map _).nodup_iff.1 h.nd, fun x hx => h.own x (p.mem_iff.2 hx)⟩
theorem Sat.lt {w0 w : World} {H : HL} (h : Sat w0 w H) {b : Nat} (hb : b ∈ H.map (·.1)) : b < w.heap.size := by
  obtain ⟨x, hx, rfl⟩ := List.mem_map.1 hb
  exact (h.blk x hx).lt
theorem Sat.upd {w0 w w' : World} {H1 H2 H1' : HL} {S : Nat → Prop} (h : Sat w0 w (H1 ++ H2)) (o : Only S w w') (hS : ∀ k, k < w.heap.size → S k → k ∈ H1.map (·.1)) (hH : ∀ x, x ∈ H1' → BVAt w' x.1 x.2) (hn : (H1'.map (·.1)).Nodup)
    (hk : ∀ x, x ∈ H1' → x.1 ∈ H1.map (·.1) ∨ w.heap.size ≤ x.1) : Sat w0 w' (H1' ++ H2) := by
  have hnd := h.nd
  rw [List.map_append, List.nodup_append] at hnd
  have h2lt : ∀ x, x ∈ H2 → x.1 < w.heap.size := fun x hx => h.lt (List.mem_map.2 ⟨x, List.mem_append_right _ hx, rfl⟩)
  have he := h.ext.size
  refine ⟨h.ext.step o (fun i hi hs => ?_), fun x hx => ?_, ?_, fun x hx => ?_⟩
  · obtain ⟨x, hx, rfl⟩ := List.mem_map.1 (hS i (by omega) hs)
    have := h.own x (List.mem_append_left _ hx)
    omega
  · rcases List.mem_append.1 hx with hx | hx
    · exact hH x hx
    · refine (h.blk x (List.mem_append_right _ hx)).only o (fun hs => ?_)
      exact hnd.2.2 _ (hS _ (h2lt x hx) hs) _ (List.mem_map.2 ⟨x, hx, rfl⟩) rfl
  · rw [List.map_append, List.nodup_append]
    refine ⟨hn, hnd.2.1, fun a ha b hb hab => ?_⟩
    obtain ⟨x, hx, rfl⟩ := List.mem_map.1 ha
    obtain ⟨y, hy, rfl⟩ := List.mem_map.1 hb
    rcases hk x hx with hk | hk
    · exact hnd.2.2 _ hk _ (List.mem_map.2 ⟨y, hy, rfl⟩) hab
    · have := h2lt y hy; omega
  · rcases List.mem_append.1 hx with hx | hx
    · rcases hk x hx with hk | hk
      · obtain ⟨y, hy, hyx⟩ := List.mem_map.1 hk
        rw [← hyx]; exact h.own y (List.mem_append_left _ hy)
      · omega
    · exact h.own x (List.mem_append_right _ hx)
theorem Sat.ext' {w0 w w' : World} {H : HL} (h : Sat w0 w H) (e : Ext w w') : Sat w0 w' H :=
  ⟨Only.trans h.ext e, fun x hx => (h.blk x hx).ext e, h.nd, h.own⟩
def All : List Asr → Asr
  | [], H => H = []
  | A :: r, H => ∃ H1 H2, H = H1 ++ H2 ∧ A H1 ∧ All r H2
def SH (w0 w : World) (As : List Asr) : Prop := ∃ H, All As H ∧ Sat w0 w H
theorem SH.start (w : World) : SH w w [] := ⟨[], rfl, Only.refl _ _, (fun x hx => by cases hx), List.nodup_nil, (fun x hx => by cases hx)⟩
theorem SH.ext {w0 w : World} {As : List Asr} (h : SH w0 w As) : Ext w0 w := by obtain ⟨H, _, h⟩ := h; exact h.ext
theorem SH.to {w0 w w' : World} {As : List Asr} (h : SH w0 w As) (e : Ext w w') : SH w0 w' As := by obtain ⟨H, h1, h2⟩ := h; exact ⟨H, h1, h2.ext' e⟩
theorem SH.drew {w0 w : World} {As : List Asr} (h : SH w0 w As) : SH w0 w.drew As := h.to (ext_drew w)
theorem All.perm {As Bs : List Asr} (p : As.Perm Bs) : ∀ {H : HL}, All As H → ∃ H', H.Perm H' ∧ All Bs H' := by
  induction p with
  | nil => intro H h; exact ⟨H, List.Perm.refl _, h⟩
  | cons A p ih =>
    intro H h
    obtain ⟨H1, H2, rfl, h1, h2⟩ := h
    obtain ⟨H3, p3, h3⟩ := ih h2
    exact ⟨H1 ++ H3, p3.append_left _, H1, H3, rfl, h1, h3⟩
  | swap A B r =>
    intro H h
    obtain ⟨H1, H2, rfl, h1, H3, H4, rfl, h3, h4⟩ := h
    refine ⟨H3 ++ (H1 ++ H4), ?_, H3, _, rfl, h3, H1, H4, rfl, h1, h4⟩
    rw [← List.append_assoc, ← List.append_assoc]
    exact List.perm_append_comm.append_right _
  | trans p q ih1 ih2 =>
    intro H h
    obtain ⟨H1, p1, h1⟩ := ih1 h
    obtain ⟨H2, p2, h2⟩ := ih2 h1
    exact ⟨H2, p1.trans p2, h2⟩
theorem SH.perm {w0 w : World} {As Bs : List Asr} (h : SH w0 w As) (p : As.Perm Bs) : SH w0 w Bs := by
  obtain ⟨H, h1, h2⟩ := h
  obtain ⟨H', p', h3⟩ := All.perm p h1
  exact ⟨H', h3, h2.perm p'⟩
theorem SH.p1 {w0 w : World} {A B : Asr} {F : List Asr} (h : SH w0 w (A :: B :: F)) : SH w0 w (B :: A :: F) := h.perm (List.Perm.swap _ _ _)
theorem Sat.left {w0 w : World} {H1 H2 : HL} (h : Sat w0 w (H1 ++ H2)) : Sat w0 w H2 := by
  have hnd := h.nd
  rw [List.map_append, List.nodup_append] at hnd
  exact ⟨h.ext, fun x hx => h.blk x (List.mem_append_right _ hx), hnd.2.1, fun x hx => h.own x (List.mem_append_right _ hx)⟩
theorem SH.drop {w0 w : World} {A : Asr} {F : List Asr} (h : SH w0 w (A :: F)) : SH w0 w F := by
  obtain ⟨H, ⟨H1, H2, rfl, h1, h2⟩, h3⟩ := h
  exact ⟨H2, h2, h3.left⟩
theorem All.app : ∀ {As Bs : List Asr} {H1 H2 : HL}, All As H1 → All Bs H2 → All (As ++ Bs) (H1 ++ H2)
  | [], Bs, H1, H2, h1, h2 => by cases h1; exact h2
  | A :: As, Bs, H1, H2, h1, h2 => by
    obtain ⟨H3, H4, rfl, h3, h4⟩ := h1
    exact ⟨H3, H4 ++ H2, by simp, h3, All.app h4 h2⟩
/-- What a call has made besides. -/
theorem SH.seq {w0 w w' : World} {F G : List Asr} (h : SH w0 w F) (g : SH w w' G) : SH w0 w' (G ++ F) := by
  obtain ⟨H, h1, h2⟩ := h
  obtain ⟨H', g1, g2⟩ := g
  refine ⟨H' ++ H, All.app g1 h1, Only.trans h2.ext g2.ext, fun x hx => ?_, ?_, fun x hx => ?_⟩
  · rcases List.mem_append.1 hx with hx | hx
    · exact g2.blk x hx
    · exact (h2.blk x hx).ext g2.ext
  · rw [List.map_append, List.nodup_append]
    refine ⟨g2.nd, h2.nd, fun a ha b hb hab => ?_⟩
    obtain ⟨x, hx, rfl⟩ := List.mem_map.1 ha
    have := g2.own x hx
    have := h2.lt hb
    omega
  · rcases List.mem_append.1 hx with hx | hx
    · have := g2.own x hx; have := h2.ext.size; omega
    · exact h2.own x hx
/-! ## Trees in blocks -/
inductive Ce where
  | v (x : Value)
  | sl (z : Nat) (l : List (List Ce))
mutual
/-- A cell and the blocks behind it. -/
def TC : Ce → HL → Value → Prop
  | .v x, H, c => H = [] ∧ c = x
  | .sl z l, H, c => ∃ s : Sl, c = .slice s.a s.len s.cap ∧ s.len = l.length ∧ s.len ≤ s.cap ∧ ((s.cap = 0 ∧ H = []) ∨ ∃ b cs H', s.a = some ⟨b, 0, none⟩ ∧ H = (b, .c cs) :: H' ∧ cs.length = s.cap * z ∧ TE z l H' cs)
def TL : List Ce → HL → List Value → Prop
  | [], H, cs => H = [] ∧ cs = []
  | a :: r, H, cs => ∃ H1 H2 c c2, H = H1 ++ H2 ∧ cs = c :: c2 ∧ TC a H1 c ∧ TL r H2 c2
def TE (z : Nat) : List (List Ce) → HL → List Value → Prop
  | [], H, cs => H = []
  | e :: r, H, cs => ∃ H1 H2 c1 c2, H = H1 ++ H2 ∧ cs = c1 ++ c2 ∧ c1.length = z ∧ TL e H1 c1 ∧ TE z r H2 c2
end
/-- A row of elements, under a header. -/
def aRow (s : Sl) (z : Nat) (l : List (List Ce)) : Asr := fun H => s.len = l.length ∧ s.len ≤ s.cap ∧ ((s.cap = 0 ∧ H = []) ∨ ∃ b cs H', s.a = some ⟨b, 0, none⟩ ∧ H = (b, .c cs) :: H' ∧ cs.length = s.cap * z ∧ TE z l H' cs)
def aB (b : Nat) (l : List Ce) : Asr := fun H => ∃ cs H', H = (b, .c cs) :: H' ∧ TL l H' cs
theorem TC_v {x : Value} {H : HL} {c : Value} : TC (.v x) H c ↔ H = [] ∧ c = x := by unfold TC; exact Iff.rfl
theorem TL_nil {H : HL} {cs : List Value} : TL [] H cs ↔ H = [] ∧ cs = [] := by unfold TL; exact Iff.rfl
theorem TL_cons {a : Ce} {r : List Ce} {H : HL} {cs : List Value} : TL (a :: r) H cs ↔ ∃ H1 H2 c c2, H = H1 ++ H2 ∧ cs = c :: c2 ∧ TC a H1 c ∧ TL r H2 c2 := by rw [TL.eq_def]
theorem TE_nil {z : Nat} {H : HL} {cs : List Value} : TE z [] H cs ↔ H = [] := by rw [TE.eq_def]
theorem TE_cons {z : Nat} {e : List Ce} {r : List (List Ce)} {H : HL} {cs : List Value} : TE z (e :: r) H cs ↔ ∃ H1 H2 c1 c2, H = H1 ++ H2 ∧ cs = c1 ++ c2 ∧ c1.length = z ∧ TL e H1 c1 ∧ TE z r H2 c2 := by rw [TE.eq_def]
theorem TL.raw : ∀ (vs : List Value), TL (vs.map Ce.v) [] vs
  | [] => TL_nil.2 ⟨rfl, rfl⟩
  | v :: r => TL_cons.2 ⟨[], [], v, r, rfl, rfl, TC_v.2 ⟨rfl, rfl⟩, TL.raw r⟩
theorem TL.ofRaw : ∀ {vs : List Value} {H : HL} {cs : List Value}, TL (vs.map Ce.v) H cs → H = [] ∧ cs = vs
  | [], H, cs, h => TL_nil.1 h
  | v :: r, H, cs, h => by
    obtain ⟨H1, H2, c, c2, rfl, rfl, h1, h2⟩ := TL_cons.1 h
    obtain ⟨rfl, rfl⟩ := TC_v.1 h1
    obtain ⟨rfl, rfl⟩ := TL.ofRaw h2
    exact ⟨rfl, rfl⟩
/-- One cell of many. -/
theorem TL.at : ∀ {l : List Ce} {H : HL} {cs : List Value}, TL l H cs → ∀ {i : Nat} {a : Ce}, l[i]? = some a →
    ∃ H1 Ha H2 c, H = H1 ++ (Ha ++ H2) ∧ cs[i]? = some c ∧ TC a Ha c ∧ ∀ a' Ha' c', TC a' Ha' c' → TL (l.set i a') (H1 ++ (Ha' ++ H2)) (cs.set i c')
  | [], H, cs, h, i, a, hi => by simp at hi
  | b :: r, H, cs, h, 0, a, hi => by
    simp at hi; subst hi
    obtain ⟨H1, H2, c, c2, rfl, rfl, h1, h2⟩ := TL_cons.1 h
    exact ⟨[], H1, H2, c, rfl, rfl, h1, fun a' Ha' c' h' => TL_cons.2 ⟨Ha', H2, c', c2, rfl, rfl, h', h2⟩⟩
  | b :: r, H, cs, h, i + 1, a, hi => by
    obtain ⟨H1, H2, c, c2, rfl, rfl, h1, h2⟩ := TL_cons.1 h
    obtain ⟨G1, Ga, G2, d, rfl, h3, h4, h5⟩ := TL.at h2 (i := i) (a := a) (by simpa using hi)
    exact ⟨H1 ++ G1, Ga, G2, d, by simp, by simpa using h3, h4, fun a' Ha' c' h' => TL_cons.2 ⟨H1, _, c, _, by simp, rfl, h1, h5 a' Ha' c' h'⟩⟩
/-- One element of many. -/
theorem TE.at {z : Nat} : ∀ {l : List (List Ce)} {H : HL} {cs : List Value}, TE z l H cs → ∀ {k : Nat} {e : List Ce}, l[k]? = some e →
    ∃ H1 He H2 c1 ce c2, H = H1 ++ (He ++ H2) ∧ cs = c1 ++ (ce ++ c2) ∧ c1.length = k * z ∧ ce.length = z ∧ TL e He ce ∧ ∀ e' He' ce', TL e' He' ce' → ce'.length = z → TE z (l.set k e') (H1 ++ (He' ++ H2)) (c1 ++ (ce' ++ c2))
  | [], H, cs, h, k, e, hi => by simp at hi
  | b :: r, H, cs, h, 0, e, hi => by
    simp at hi; subst hi
    obtain ⟨H1, H2, c1, c2, rfl, rfl, h1, h2, h3⟩ := TE_cons.1 h
    exact ⟨[], H1, H2, [], c1, c2, rfl, rfl, by simp, h1, h2, fun e' He' ce' h' hl => TE_cons.2 ⟨He', H2, ce', c2, rfl, rfl, hl, h', h3⟩⟩
  | b :: r, H, cs, h, k + 1, e, hi => by
    obtain ⟨H1, H2, c1, c2, rfl, rfl, h1, h2, h3⟩ := TE_cons.1 h
    obtain ⟨G1, Ge, G2, d1, de, d2, rfl, rfl, h4, h5, h6, h7⟩ := TE.at h3 (k := k) (e := e) (by simpa using hi)
    refine ⟨H1 ++ G1, Ge, G2, c1 ++ d1, de, d2, by simp, by simp, by rw [List.length_append, h1, h4, Nat.succ_mul]; omega, h5, h6, fun e' He' ce' h' hl => TE_cons.2 ⟨H1, _, c1, _, by simp, by simp, h1, h2, h7 e' He' ce' h' hl⟩⟩
theorem TE.le {z : Nat} : ∀ {l : List (List Ce)} {H : HL} {cs : List Value}, TE z l H cs → l.length * z ≤ cs.length
  | [], H, cs, h => by simp
  | e :: r, H, cs, h => by
    obtain ⟨H1, H2, c1, c2, rfl, rfl, h1, h2, h3⟩ := TE_cons.1 h
    have := h3.le
    rw [List.length_append, List.length_cons, Nat.succ_mul, h1]; omega
theorem TE.cut {z : Nat} : ∀ {l : List (List Ce)} {H : HL} {cs us : List Value}, TE z l H cs → cs.take (l.length * z) = us.take (l.length * z) → TE z l H us
  | [], H, cs, us, h, he => TE_nil.2 (TE_nil.1 h)
  | e :: r, H, cs, us, h, he => by
    obtain ⟨H1, H2, c1, c2, rfl, rfl, h1, h2, h3⟩ := TE_cons.1 h
    have hle := h3.le
    simp only [List.length_cons, Nat.succ_mul] at he
    have e1 : us.take z = c1 := by
      have := congrArg (List.take z) he
      rw [List.take_take, List.take_take, Nat.min_eq_left (by omega), ← h1, List.take_left] at this
      rw [← h1]; exact this.symm
    have e2 : c2.take (r.length * z) = (us.drop z).take (r.length * z) := by
      have := congrArg (List.drop z) he
      rw [List.drop_take, List.drop_take, show r.length * z + z - z = r.length * z by omega] at this
      rw [← this, ← h1, List.drop_left]
    exact TE_cons.2 ⟨H1, H2, c1, us.drop z, rfl, by rw [← e1, List.take_append_drop], h1, h2, h3.cut e2⟩
theorem TE.app {z : Nat} : ∀ {l r : List (List Ce)} {H1 H2 : HL} {c1 c2 : List Value}, TE z l H1 c1 → c1.length = l.length * z → TE z r H2 c2 → TE z (l ++ r) (H1 ++ H2) (c1 ++ c2)
  | [], r, H1, H2, c1, c2, h, hl, h2 => by
    obtain rfl := TE_nil.1 h
    have : c1 = [] := List.eq_nil_of_length_eq_zero (by simpa using hl)
    subst this
    simpa using h2
  | e :: l, r, H1, H2, c1, c2, h, hl, h2 => by
    obtain ⟨G1, G2, d1, d2, rfl, rfl, h3, h4, h5⟩ := TE_cons.1 h
    rw [List.length_append, List.length_cons, Nat.succ_mul, h3] at hl
    rw [List.cons_append]
    exact TE_cons.2 ⟨G1, G2 ++ H2, d1, d2 ++ c2, by simp, by simp, h3, h4, h5.app (by omega) h2⟩
theorem TE.raw {z : Nat} : ∀ (ys : List (List Value)), (∀ y, y ∈ ys → y.length = z) → ∀ r, TE z (ys.map (·.map Ce.v)) [] (ys.flatten ++ r)
  | [], h, r => TE_nil.2 rfl
  | y :: ys, h, r => TE_cons.2 ⟨[], [], y, ys.flatten ++ r, rfl, by simp, h y (by simp), TL.raw y, TE.raw ys (fun x hx => h x (by simp [hx])) r⟩
theorem TE.ofRaw {z : Nat} : ∀ {ys : List (List Value)} {H : HL} {cs : List Value}, TE z (ys.map (·.map Ce.v)) H cs → H = [] ∧ cs.take (ys.length * z) = ys.flatten
  | [], H, cs, h => ⟨TE_nil.1 h, by simp⟩
  | y :: ys, H, cs, h => by
    obtain ⟨G1, G2, d1, d2, rfl, rfl, h3, h4, h5⟩ := TE_cons.1 h
    obtain ⟨rfl, rfl⟩ := TL.ofRaw h4
    obtain ⟨rfl, h6⟩ := TE.ofRaw h5
    refine ⟨rfl, ?_⟩
    rw [List.length_cons, Nat.succ_mul, List.flatten_cons, ← h6, Nat.add_comm, ← h3, List.take_length_add_append]
end Go.Den

/- Steps over memory in parts. Conditions: none. -/
set_option linter.unusedVariables false
set_option linter.unusedSimpArgs false
namespace Go.Den
open Go
theorem SH.cut {w0 w : World} {A : Asr} {F : List Asr} (h : SH w0 w (A :: F)) : ∃ H1 H2, A H1 ∧ All F H2 ∧ Sat w0 w (H1 ++ H2) := by
  obtain ⟨H, ⟨H1, H2, rfl, h1, h2⟩, h3⟩ := h
  exact ⟨H1, H2, h1, h2, h3⟩
theorem SH.mk {w0 w : World} {A : Asr} {F : List Asr} {H1 H2 : HL} (h1 : A H1) (h2 : All F H2) (h : Sat w0 w (H1 ++ H2)) : SH w0 w (A :: F) := ⟨H1 ++ H2, ⟨H1, H2, rfl, h1, h2⟩, h⟩
theorem perm_front {α : Type _} : ∀ {As : List α} {n : Nat} {A : α}, As[n]? = some A → As.Perm (A :: As.eraseIdx n)
  | [], n, A, h => by simp at h
  | B :: r, 0, A, h => by simp at h; subst h; exact List.Perm.refl _
  | B :: r, n + 1, A, h => ((perm_front (As := r) (n := n) (by simpa using h)).cons B).trans (List.Perm.swap _ _ _)
theorem set_perm {α : Type _} : ∀ {As : List α} {n : Nat} {A B : α}, As[n]? = some A → (B :: As.eraseIdx n).Perm (As.set n B)
  | [], n, A, B, h => by simp at h
  | C :: r, 0, A, B, h => List.Perm.refl _
  | C :: r, n + 1, A, B, h => (List.Perm.swap _ _ _).trans ((set_perm (As := r) (n := n) (by simpa using h)).cons C)
/-- The assertion with this number, to the front. -/
theorem SH.front {w0 w : World} {As : List Asr} (h : SH w0 w As) {n : Nat} {A : Asr} (hA : As[n]? = some A) : SH w0 w (A :: As.eraseIdx n) := h.perm (perm_front hA)
/-! ## A block -/
theorem aB_raw {b : Nat} {vs : List Value} {H : HL} : aB b (vs.map Ce.v) H ↔ H = [(b, .c vs)] := by
  constructor
  · rintro ⟨cs, H', rfl, h⟩
    obtain ⟨rfl, rfl⟩ := TL.ofRaw h
    rfl
  · rintro rfl
    exact ⟨vs, [], rfl, TL.raw vs⟩
theorem SH.alloc {w0 w : World} {F : List Asr} (h : SH w0 w F) {c : List Value} {e : TypeId} {k : World → Prop} (hk : ∀ w1, SH w0 w1 (aB w.heap.size (c.map Ce.v) :: F) → Ext w w1 → w1.heap.size = w.heap.size + 1 → k w1) : LetW (w.alloc (.cells ⟨c⟩ e)) k := by
  refine LetW_iff.2 (hk _ ?_ (ext_alloc w _) (size_alloc w _))
  obtain ⟨H, h1, h2⟩ := h
  refine SH.mk (aB_raw.2 rfl) h1 ?_
  have h3 := Sat.upd (H1 := []) (H1' := [(w.heap.size, .c c)]) h2 (ext_alloc w (.cells ⟨c⟩ e)) (fun k _ hk => hk.elim) (fun x hx => by rw [List.mem_singleton.1 hx]; exact blk_alloc w c e) (by simp) (fun x hx => by rw [List.mem_singleton.1 hx]; exact .inr (Nat.le_refl _))
  exact h3
theorem SH.cell {w0 w : World} {As : List Asr} (h : SH w0 w As) (n : Nat) {b i : Nat} {l : List Ce} {x : Value} (hA : As[n]? = some (aB b l)) (hi : l[i]? = some (.v x)) : w.cell? ⟨b, i, none⟩ = some x := by
  obtain ⟨H1, H2, ⟨cs, H', rfl, hl⟩, h2, hs⟩ := (h.front hA).cut
  obtain ⟨G1, Ga, G2, c, rfl, hc, ht, _⟩ := hl.at hi
  obtain ⟨rfl, rfl⟩ := TC_v.1 ht
  have hb : Blk w b cs := hs.blk (b, .c cs) (by simp)
  rw [hb.cell, hc]
/-- A cell of a block written. -/
theorem SH.setF {w0 w : World} {F : List Asr} {b i : Nat} {l : List Ce} {x y : Value} (h : SH w0 w (aB b l :: F)) (hi : l[i]? = some (.v x)) : May w ⟨b, i, none⟩ ∧ SH w0 (w.setCell ⟨b, i, none⟩ y) (aB b (l.set i (.v y)) :: F) := by
  obtain ⟨H1, H2, ⟨cs, H', rfl, hl⟩, h2, hs⟩ := h.cut
  obtain ⟨G1, Ga, G2, c, rfl, hc, ht, hset⟩ := hl.at hi
  obtain ⟨rfl, rfl⟩ := TC_v.1 ht
  have hb : Blk w b cs := hs.blk (b, .c cs) (by simp)
  have hlt := (List.getElem?_eq_some_iff.1 hc).1
  have o := only_set w ⟨b, i, none⟩ y
  have hnd := hs.nd
  simp only [List.map_append, List.map_cons, List.cons_append, List.nodup_cons, List.mem_append] at hnd
  refine ⟨hb.may hlt, SH.mk (H1 := (b, .c (cs.set i y)) :: (G1 ++ ([] ++ G2))) ⟨_, _, rfl, hset (.v y) [] y (TC_v.2 ⟨rfl, rfl⟩)⟩ h2 (hs.upd o (fun k _ hk => ?_) (fun x hx => ?_) ?_ (fun x hx => ?_))⟩
  · have hk : k = b := hk
    subst hk; simp
  · rcases List.mem_cons.1 hx with rfl | hx
    · exact hb.set i y
    · refine (hs.blk x (List.mem_append_left _ (List.mem_cons_of_mem _ hx))).only o (fun hk => hnd.1 (.inl ?_))
      have hk : x.1 = b := hk
      rw [← hk]
      have := List.mem_map (f := fun y : Nat × BV => y.1).2 ⟨x, hx, rfl⟩
      simpa using this
  · have := hs.nd
    rw [List.map_append, List.nodup_append] at this
    exact this.1
  · left
    rcases List.mem_cons.1 hx with rfl | hx
    · simp
    · exact List.mem_map.2 ⟨x, List.mem_cons_of_mem _ hx, rfl⟩
theorem SH.setAt {w0 w : World} {As : List Asr} (h : SH w0 w As) (n : Nat) {b i : Nat} {l : List Ce} {x y : Value} (hA : As[n]? = some (aB b l)) (hi : l[i]? = some (.v x)) : May w ⟨b, i, none⟩ ∧ SH w0 (w.setCell ⟨b, i, none⟩ y) (As.set n (aB b (l.set i (.v y)))) := by
  obtain ⟨h1, h2⟩ := (h.front hA).setF (y := y) hi
  exact ⟨h1, h2.perm (set_perm hA)⟩
theorem SH.set {w0 w : World} {As : List Asr} (h : SH w0 w As) (n : Nat) {b i : Nat} {l : List Ce} {x y : Value} {k : World → Prop} (hA : As[n]? = some (aB b l)) (hi : l[i]? = some (.v x)) (hk : ∀ w2, SH w0 w2 (As.set n (aB b (l.set i (.v y)))) → w2.heap.size = w.heap.size → k w2) :
    May w ⟨b, i, none⟩ ∧ LetW (w.setCell ⟨b, i, none⟩ y) k := by
  obtain ⟨h1, h2⟩ := h.setAt n (y := y) hA hi
  exact ⟨h1, LetW_iff.2 (hk _ h2 (size_set w _ _))⟩
/-- The same, where all cells are raw. -/
theorem SH.setV {w0 w : World} {As : List Asr} (h : SH w0 w As) (n : Nat) {b i : Nat} {vs : List Value} {x y : Value} {k : World → Prop} (hA : As[n]? = some (aB b (vs.map Ce.v))) (hi : vs[i]? = some x) (hk : ∀ w2, SH w0 w2 (As.set n (aB b ((vs.set i y).map Ce.v))) → w2.heap.size = w.heap.size → k w2) :
    May w ⟨b, i, none⟩ ∧ LetW (w.setCell ⟨b, i, none⟩ y) k :=
  h.set n (x := x) hA (by rw [List.getElem?_map, hi]; rfl) (fun w2 h2 hs => hk w2 (by rw [List.map_set]; exact h2) hs)
/-- Cells written one behind the other. -/
def setC (l : List Ce) : Nat → List Value → List Ce
  | _, [] => l
  | i, v :: r => setC (l.set i (.v v)) (i + 1) r
theorem SH.putsF {w0 : World} {F : List Asr} {b o : Nat} : ∀ (us : List Value) {w : World} {l : List Ce} (i : Nat) (h : SH w0 w (aB b l :: F)), (∀ j, o + i ≤ j → j < o + i + us.length → ∃ x, l[j]? = some (.v x)) →
    (∀ j, i ≤ j → j < i + us.length → May w ((⟨b, o, none⟩ : Addr).add j)) ∧ SH w0 (Den.puts w ⟨b, o, none⟩ i us) (aB b (setC l (o + i) us) :: F)
  | [], w, l, i, h, hx => ⟨fun j h1 h2 => by simp at h2; omega, h⟩
  | u :: r, w, l, i, h, hx => by
    have hl : (u :: r).length = r.length + 1 := rfl
    obtain ⟨x, hi⟩ := hx (o + i) (Nat.le_refl _) (by omega)
    obtain ⟨h1, h2⟩ := h.setF (y := u) hi
    obtain ⟨h3, h4⟩ := SH.putsF (o := o) r (i + 1) h2 (fun j hj1 hj2 => by
      obtain ⟨x, hx⟩ := hx j (by omega) (by omega)
      exact ⟨x, by rw [List.getElem?_set_ne (by omega)]; exact hx⟩)
    refine ⟨fun j hj1 hj2 => ?_, ?_⟩
    · by_cases hj : j = i
      · subst hj; rw [add_mk]; exact h1
      · have := h3 j (by omega) (by omega)
        rw [add_mk] at this ⊢
        obtain ⟨y, hy⟩ := hx (o + j) (by omega) (by omega)
        have hA : (aB b l :: F)[0]? = some (aB b l) := rfl
        exact (h.setF (y := y) hy).1
    · unfold Den.puts setC
      rw [add_mk]
      exact h4
/-- Cells of a block written, from o on. -/
theorem SH.puts {w0 w : World} {As : List Asr} (h : SH w0 w As) (n : Nat) {b o m : Nat} {l : List Ce} {us : List Value} {k : World → Prop} (hA : As[n]? = some (aB b l)) (hm : us.length = m) (hx : ∀ j, j < m → ∃ x, l[o + j]? = some (.v x))
    (hk : ∀ w2, SH w0 w2 (As.set n (aB b (setC l o us))) → w2.heap.size = w.heap.size → k w2) : MayN w ⟨b, o, none⟩ m ∧ LetW (Den.puts w ⟨b, o, none⟩ 0 us) k := by
  obtain ⟨h1, h2⟩ := SH.putsF (o := o) us 0 (h.front hA) (fun j h1 h2 => by
    obtain ⟨x, hx⟩ := hx (j - o) (by omega)
    exact ⟨x, by rwa [show o + (j - o) = j by omega] at hx⟩)
  refine ⟨fun j hj => h1 j (Nat.zero_le _) (by omega), LetW_iff.2 (hk _ (h2.perm (set_perm hA)) (size_puts us w _ 0))⟩
theorem setC_all : ∀ (us vs ps : List Value), us.length = vs.length → setC ((ps ++ vs).map Ce.v) ps.length us = (ps ++ us).map Ce.v
  | [], [], ps, h => rfl
  | u :: us, v :: vs, ps, h => by
    have hs : ((ps ++ v :: vs).map Ce.v).set ps.length (Ce.v u) = ((ps ++ [u]) ++ vs).map Ce.v := by simp
    rw [setC, hs]
    have := setC_all us vs (ps ++ [u]) (by simpa using h)
    rw [show (ps ++ [u]).length = ps.length + 1 by simp] at this
    rw [this]; simp
/-- A block written whole. -/
theorem SH.put {w0 w : World} {As : List Asr} (h : SH w0 w As) (n : Nat) {b m : Nat} {vs us : List Value} {k : World → Prop} (hA : As[n]? = some (aB b (vs.map Ce.v))) (hm : us.length = m) (hv : vs.length = m)
    (hk : ∀ w2, SH w0 w2 (As.set n (aB b (us.map Ce.v))) → w2.heap.size = w.heap.size → k w2) : MayN w ⟨b, 0, none⟩ m ∧ LetW (Den.puts w ⟨b, 0, none⟩ 0 us) k := by
  refine h.puts n hA hm (fun j hj => ⟨vs[j]'(by omega), by rw [Nat.zero_add, List.getElem?_map, List.getElem?_eq_getElem (by omega)]; rfl⟩) (fun w2 h2 hs => hk w2 ?_ hs)
  have := setC_all us vs [] (by omega)
  simp only [List.nil_append, List.length_nil] at this
  rwa [this] at h2
/-! ## A row -/
theorem SH.len {w0 w : World} {As : List Asr} (h : SH w0 w As) (n : Nat) {s : Sl} {z : Nat} {l : List (List Ce)} (hA : As[n]? = some (aRow s z l)) : s.len = l.length := by
  obtain ⟨H1, H2, h1, _⟩ := (h.front hA).cut
  exact h1.1
theorem SH.lenCap {w0 w : World} {As : List Asr} (h : SH w0 w As) (n : Nat) {s : Sl} {z : Nat} {l : List (List Ce)} (hA : As[n]? = some (aRow s z l)) : s.len ≤ s.cap := by
  obtain ⟨H1, H2, h1, _⟩ := (h.front hA).cut
  exact h1.2.1
theorem SH.nil {w0 w : World} {F : List Asr} (h : SH w0 w F) (a : Option Addr) (z : Nat) : SH w0 w (aRow ⟨a, 0, 0⟩ z [] :: F) := by
  obtain ⟨H, h1, h2⟩ := h
  exact SH.mk (H1 := []) ⟨rfl, Nat.le_refl _, .inl ⟨rfl, rfl⟩⟩ h1 h2
/-- One element's cell. -/
theorem SH.elem {w0 w : World} {As : List Asr} (h : SH w0 w As) (n : Nat) {s : Sl} {z k j : Nat} {l : List (List Ce)} {e : List Ce} {x : Value} (hA : As[n]? = some (aRow s z l)) (hk : l[k]? = some e) (hj : e[j]? = some (.v x)) : ∃ q, s.a = some q ∧ w.cell? ((q.add (k * z)).add j) = some x := by
  obtain ⟨H1, H2, ⟨hlen, hle, h1⟩, h2, hs⟩ := (h.front hA).cut
  have hkl := (List.getElem?_eq_some_iff.1 hk).1
  rcases h1 with ⟨hc, _⟩ | ⟨b, cs, H', ha, rfl, hcl, ht⟩
  · omega
  obtain ⟨G1, Ge, G2, c1, ce, c2, rfl, rfl, h3, h4, h5, _⟩ := ht.at hk
  obtain ⟨K1, Ka, K2, c, rfl, hc, htc, _⟩ := h5.at hj
  obtain ⟨rfl, rfl⟩ := TC_v.1 htc
  have hb : Blk w b (c1 ++ (ce ++ c2)) := hs.blk (b, .c (c1 ++ (ce ++ c2))) (by simp)
  have hjl := (List.getElem?_eq_some_iff.1 hc).1
  refine ⟨_, ha, ?_⟩
  rw [add_mk, add_mk, Nat.zero_add, hb.cell, List.getElem?_append_right (by omega), show k * z + j - c1.length = j by omega, List.getElem?_append_left hjl, hc]
theorem SH.elem0 {w0 w : World} {As : List Asr} (h : SH w0 w As) (n : Nat) {s : Sl} {z k : Nat} {l : List (List Ce)} {e : List Ce} {x : Value} (hA : As[n]? = some (aRow s z l)) (hk : l[k]? = some e) (hj : e[0]? = some (.v x)) : ∃ q, s.a = some q ∧ w.cell? (q.add (k * z)) = some x := by
  obtain ⟨q, h1, h2⟩ := h.elem n hA hk hj
  exact ⟨q, h1, by rwa [Den.add_zero] at h2⟩
/-- A row of raw cells, as it is lent. -/
theorem SH.row {w0 w : World} {As : List Asr} (h : SH w0 w As) (n : Nat) {s : Sl} {z : Nat} {ys : List (List Value)} (hA : As[n]? = some (aRow s z (ys.map (·.map Ce.v)))) : RowAt w s.a (s.len * z) ys.flatten := by
  obtain ⟨H1, H2, ⟨hlen, hle, h1⟩, h2, hs⟩ := (h.front hA).cut
  rw [List.length_map] at hlen
  rcases h1 with ⟨hc, rfl⟩ | ⟨b, cs, H', ha, rfl, hcl, ht⟩
  · have : ys = [] := List.eq_nil_of_length_eq_zero (by omega)
    subst this
    exact ⟨by rw [hlen]; simp, fun h => by rw [hlen] at h; simp at h⟩
  · obtain ⟨rfl, h3⟩ := TE.ofRaw ht
    have hle2 := ht.le
    rw [List.length_map] at hle2
    have hb : Blk w b cs := hs.blk (b, .c cs) (by simp)
    refine ⟨by rw [← h3, List.length_take, hlen]; omega, fun _ => ⟨_, ha, fun j v hv => ?_⟩⟩
    rw [add_mk, Nat.zero_add, hb.cell]
    rw [← h3, List.getElem?_take] at hv
    split at hv
    · exact hv
    · cases hv
theorem flat_one : ∀ (l : List Value), (l.map fun x => [x]).flatten = l
  | [] => rfl
  | a :: r => by rw [List.map_cons, List.flatten_cons, flat_one r]; rfl
/-- Numbers in a row. -/
def nums (k : IntKind) (m : List Int) : List (List Ce) := m.map (fun x => [.v (.int k x)])
theorem nums_len {k : IntKind} {m : List Int} : (nums k m).length = m.length := by unfold nums; simp
theorem nums_raw {k : IntKind} {m : List Int} : nums k m = (m.map (fun x => [Value.int k x])).map (·.map Ce.v) := by unfold nums; rw [List.map_map]; rfl
theorem SH.rowN {w0 w : World} {As : List Asr} (h : SH w0 w As) (n : Nat) {s : Sl} {k : IntKind} {m : List Int} (hA : As[n]? = some (aRow s 1 (nums k m))) : RowAt w s.a s.len (m.map (Value.int k)) := by
  have := h.row n (ys := m.map (fun x => [Value.int k x])) (by rw [hA, nums_raw])
  rw [Nat.mul_one] at this
  rw [show m.map (fun x => [Value.int k x]) = (m.map (Value.int k)).map (fun x => [x]) by rw [List.map_map]; rfl, flat_one] at this
  exact this
/-- Records in a row. -/
def recs {α : Type} (f : α → List Value) (l : List α) : List (List Ce) := l.map (fun x => (f x).map Ce.v)
theorem recs_len {α : Type} {f : α → List Value} {l : List α} : (recs f l).length = l.length := by unfold recs; simp
theorem recs_get {α : Type} {f : α → List Value} {l : List α} {i : Nat} {x : α} (h : l[i]? = some x) : (recs f l)[i]? = some ((f x).map Ce.v) := by unfold recs; rw [List.getElem?_map, h]; rfl
theorem recs_app {α : Type} {f : α → List Value} {a b : List α} : recs f (a ++ b) = recs f a ++ recs f b := by unfold recs; simp
theorem nums_app {k : IntKind} {a b : List Int} : nums k (a ++ b) = nums k a ++ nums k b := by unfold nums; simp
end Go.Den

/- Steps over rows of memory in parts: elements written, opened; append. Conditions: none. -/
set_option linter.unusedVariables false
set_option linter.unusedSimpArgs false
namespace Go.Den
open Go
/-! ## append -/
theorem flatten_length {z : Nat} : ∀ {ys : List (List Value)}, (∀ u, u ∈ ys → u.length = z) → ys.flatten.length = ys.length * z
  | [], h => by simp
  | y :: r, h => by rw [List.flatten_cons, List.length_append, h y (by simp), flatten_length (fun u hu => h u (by simp [hu])), List.length_cons, Nat.succ_mul]; omega
/-- What an append does to an owned row: in its place, or in a new block. -/
theorem SH.appCore {w0 w : World} {F : List Asr} {e n : Nat} {ti : TI} {s : Sl} {z : Nat} {l : List (List Ce)} {ys : List (List Value)} {vs : List Value} {K : Sl → World → Prop} (h : SH w0 w (aRow s z l :: F)) (hvs : vs = ys.flatten) (hys : ys.length = n) (hyz : ∀ u, u ∈ ys → u.length = z)
    (hzero : ti.zero.length = z)
    (hk : ∀ s' w', SH w0 w' (aRow s' z (l ++ ys.map (·.map Ce.v)) :: F) → s'.len = l.length + n → w.heap.size ≤ w'.heap.size → K s' w') :
    ∃ os, RowAt w s.a (s.len * z) os ∧ (s.len + n ≤ s.cap → (∃ p, s.a = some p ∧ MayN w (p.add (s.len * z)) vs.length ∧ K ⟨s.a, s.len + n, s.cap⟩ (Den.puts w (p.add (s.len * z)) 0 vs)) ∨ (s.a = none ∧ K ⟨none, s.len + n, s.cap⟩ w)) ∧
      (s.cap < s.len + n → ∀ cap, s.len + n ≤ cap → K ⟨some ⟨w.heap.size, 0, none⟩, s.len + n, cap⟩ (w.drew.alloc (.cells ⟨os ++ vs ++ zerosOf ti.zero (cap - (s.len + n))⟩ e))) := by
  have hl2 : vs.length = n * z := by rw [hvs, flatten_length hyz, hys]
  obtain ⟨H1, H2, ⟨hl, hle, h1⟩, h2, hs⟩ := h.cut
  have hnl : (l ++ ys.map (·.map Ce.v)).length = l.length + n := by simp [hys]
  rcases h1 with ⟨hc, rfl⟩ | ⟨b, cs, H', ha, rfl, hcl, ht⟩
  · have hl0 : l = [] := List.eq_nil_of_length_eq_zero (by omega)
    subst hl0
    have hsl : s.len = 0 := hl
    refine ⟨[], ⟨by rw [hsl]; simp, fun h => by rw [hsl] at h; simp at h⟩, fun hin => ?_, fun hgrow cap hcap => ?_⟩
    · have hy0 : n = 0 := by omega
      have hys0 : ys = [] := List.eq_nil_of_length_eq_zero (by omega)
      subst hys0
      subst hvs
      have hown : SH w0 w (aRow ⟨s.a, s.len + n, s.cap⟩ z ([] ++ ([] : List (List Value)).map (·.map Ce.v)) :: F) := SH.mk (H1 := []) ⟨by show s.len + n = _; rw [hy0, hsl]; rfl, by show s.len + n ≤ s.cap; omega, .inl ⟨hc, rfl⟩⟩ h2 hs
      rcases hsa : s.a with _ | p
      · right
        refine ⟨rfl, ?_⟩
        rw [← hsa]
        exact hk _ _ hown (by show s.len + n = _; rw [hsl]; rfl) (Nat.le_refl _)
      · left
        refine ⟨p, rfl, fun i hi => absurd hi (by simp), ?_⟩
        rw [← hsa]
        exact hk _ _ hown (by show s.len + n = _; rw [hsl]; rfl) (Nat.le_refl _)
    · have hso : s.len + n = n := by omega
      refine hk _ _ (SH.mk (H1 := [(w.drew.heap.size, .c ([] ++ vs ++ zerosOf ti.zero (cap - (s.len + n))))]) ⟨by rw [hnl]; show s.len + n = _; rw [hsl]; rfl, hcap, .inr ⟨_, _, [], rfl, rfl, ?_, ?_⟩⟩ h2 ?_) (by show s.len + n = _; rw [hsl]; rfl) (by rw [size_alloc, size_drew]; omega)
      · rw [List.nil_append, List.length_append, zerosOf_length, hzero, hl2, ← Nat.add_mul]
        show (n + (cap - (s.len + n))) * z = cap * z
        congr 1; omega
      · rw [List.nil_append, List.nil_append, hvs]; exact TE.raw ys hyz _
      · have h3 := Sat.upd (H1 := []) (H1' := [(w.drew.heap.size, .c ([] ++ vs ++ zerosOf ti.zero (cap - (s.len + n))))]) (hs.ext' (ext_drew w)) (ext_alloc w.drew (.cells ⟨[] ++ vs ++ zerosOf ti.zero (cap - (s.len + n))⟩ e)) (fun k _ hk => hk.elim) (fun x hx => by rw [List.mem_singleton.1 hx]; exact blk_alloc w.drew _ e) (by simp) (fun x hx => by rw [List.mem_singleton.1 hx]; exact .inr (Nat.le_refl _))
        exact h3
  · have hbl : Blk w b cs := hs.blk (b, .c cs) (by simp)
    have hts := ht.le
    have hos : RowAt w s.a (s.len * z) (cs.take (s.len * z)) := by
      refine ⟨by rw [List.length_take]; rw [← hl] at hts; omega, fun _ => ⟨_, ha, fun j v hv => ?_⟩⟩
      rw [add_mk, Nat.zero_add, hbl.cell]
      rw [List.getElem?_take] at hv
      split at hv
      · exact hv
      · cases hv
    have hosl := hos.1
    refine ⟨cs.take (s.len * z), hos, fun hin => ?_, fun hgrow cap hcap => ?_⟩
    · left
      have hfit : s.len * z + vs.length ≤ cs.length := by rw [hcl, hl2, ← Nat.add_mul]; exact Nat.mul_le_mul_right _ hin
      have o := only_puts vs w ⟨b, s.len * z, none⟩ 0
      have hnd := hs.nd
      rw [List.map_append, List.nodup_append] at hnd
      have hnd1 := hnd.1
      rw [List.map_cons, List.nodup_cons] at hnd1
      have hbp := Blk.puts vs hbl (s.len * z) 0
      rw [Nat.add_zero] at hbp
      refine ⟨_, ha, ?_, ?_⟩
      · rw [add_mk, Nat.zero_add]; exact hbl.mayN hfit
      · rw [add_mk, Nat.zero_add]
        refine hk _ _ (SH.mk (H1 := (b, .c (setAll cs (s.len * z) vs)) :: H') ⟨by rw [hnl]; show s.len + n = _; rw [hl], hin, .inr ⟨b, _, H', ha, rfl, by rw [setAll_length]; exact hcl, ?_⟩⟩ h2 (hs.upd o (fun k _ hk => ?_) (fun x hx => ?_) ?_ (fun x hx => ?_))) (by show s.len + n = _; rw [hl]) (by rw [size_puts]; omega)
        · rw [setAll_eq _ _ _ hfit, List.append_assoc]
          have h3 : TE z l H' (cs.take (s.len * z)) := ht.cut (by rw [List.take_take, hl, Nat.min_self])
          have h4 := h3.app (by rw [hosl, hl]) (TE.raw ys hyz (cs.drop (s.len * z + vs.length)))
          rw [List.append_nil, ← hvs] at h4
          exact h4
        · subst hk; simp
        · rcases List.mem_cons.1 hx with rfl | hx
          · exact hbp
          · refine (hs.blk x (List.mem_append_left _ (List.mem_cons_of_mem _ hx))).only o (fun hk => hnd1.1 ?_)
            have hk : x.1 = b := hk
            show b ∈ _
            rw [← hk]
            exact List.mem_map.2 ⟨x, hx, rfl⟩
        · exact hnd.1
        · left
          rcases List.mem_cons.1 hx with rfl | hx
          · simp
          · exact List.mem_map.2 ⟨x, List.mem_cons_of_mem _ hx, rfl⟩
    · have hs2 : Sat w0 w (H' ++ H2) := Sat.left (H1 := [(b, .c cs)]) (by simpa using hs)
      have hlt : ∀ x, x ∈ H' → x.1 < w.heap.size := fun x hx => (hs2.blk x (List.mem_append_left _ hx)).lt
      refine hk _ _ (SH.mk (H1 := (w.drew.heap.size, .c (cs.take (s.len * z) ++ vs ++ zerosOf ti.zero (cap - (s.len + n)))) :: H') ⟨by rw [hnl]; show s.len + n = _; rw [hl], hcap, .inr ⟨_, _, H', rfl, rfl, ?_, ?_⟩⟩ h2 ?_) (by show s.len + n = _; rw [hl]) (by rw [size_alloc, size_drew]; omega)
      · rw [List.length_append, List.length_append, hosl, hl2, zerosOf_length, hzero, ← Nat.add_mul, ← Nat.add_mul]
        show (s.len + n + (cap - (s.len + n))) * z = cap * z
        congr 1; omega
      · have h3 : TE z l H' (cs.take (s.len * z)) := ht.cut (by rw [List.take_take, hl, Nat.min_self])
        have h4 := h3.app (by rw [hosl, hl]) (TE.raw ys hyz (zerosOf ti.zero (cap - (s.len + n))))
        rw [List.append_nil, ← hvs, ← List.append_assoc] at h4
        exact h4
      · have h3 := Sat.upd (H1 := []) (H1' := [(w.drew.heap.size, .c (cs.take (s.len * z) ++ vs ++ zerosOf ti.zero (cap - (s.len + n))))]) (hs2.ext' (ext_drew w)) (ext_alloc w.drew (.cells ⟨cs.take (s.len * z) ++ vs ++ zerosOf ti.zero (cap - (s.len + n))⟩ e)) (fun k _ hk => hk.elim) (fun x hx => by rw [List.mem_singleton.1 hx]; exact blk_alloc w.drew _ e) (by simp) (fun x hx => by rw [List.mem_singleton.1 hx]; exact .inr (Nat.le_refl _))
        simpa using h3
theorem SH.append {w0 w : World} {F : List Asr} {e : Nat} {ti : TI} {s y : Sl} {z : Nat} {l : List (List Ce)} {ys : List (List Value)} {vs : List Value} {K : Sl → World → Prop} (h : SH w0 w (aRow s z l :: F)) (hy : RowAt w y.a (y.len * z) vs) (hvs : vs = ys.flatten) (hys : ys.length = y.len) (hyz : ∀ u, u ∈ ys → u.length = z)
    (hz : ti.sh.length = z) (hzero : ti.zero.length = z) (hb : 0 < ti.bytes) (hlen : (l.length + y.len) * ti.bytes ≤ 140737488355328) (hpl : ∀ v, v ∈ vs → plainB v = true)
    (hk : ∀ s' w', SH w0 w' (aRow s' z (l ++ ys.map (·.map Ce.v)) :: F) → s'.len = l.length + y.len → w.heap.size ≤ w'.heap.size → K s' w') : AppendW e ti s y w K := by
  have hl := h.len 0 rfl
  obtain ⟨os, h1, h2, h3⟩ := SH.appCore (e := e) (ti := ti) h hvs hys hyz hzero hk
  exact ⟨os, vs, hz ▸ h1, hz ▸ hy, by rw [hl]; exact hlen, hb, hpl, hz ▸ h2, h3⟩
/-- append of one element, laid in a block of its own; the block is forgotten. -/
theorem SH.append1 {w0 w : World} {F : List Asr} {e e' : Nat} {ti : TI} {s : Sl} {z : Nat} {l : List (List Ce)} {x : List Value} {K : Sl → World → Prop} (h : SH w0 w (aRow s z l :: F)) (hx : x.length = z)
    (hz : ti.sh.length = z) (hzero : ti.zero.length = z) (hb : 0 < ti.bytes) (hlen : (l.length + 1) * ti.bytes ≤ 140737488355328) (hpl : ∀ v, v ∈ x → plainB v = true)
    (hk : ∀ s' w', SH w0 w' (aRow s' z (l ++ [x.map Ce.v]) :: F) → s'.len = l.length + 1 → w.heap.size ≤ w'.heap.size → K s' w') :
    AppendW e ti s ⟨some ⟨w.heap.size, 0, none⟩, 1, 1⟩ (w.alloc (.cells ⟨x⟩ e')) K := by
  have ha := ext_alloc w (.cells ⟨x⟩ e')
  refine SH.append (ys := [x]) (h.to ha) (row_of_blk (blk_alloc w x e') (by rw [hx, Nat.one_mul])) (by simp) rfl (fun u hu => by rw [List.mem_singleton.1 hu]; exact hx) hz hzero hb hlen hpl (fun s' w' h1 h2 h3 => hk s' w' (by simpa using h1) h2 (by rw [size_alloc] at h3; omega))
/-- append of numbers that are lent. -/
theorem SH.appendN {w0 w : World} {F : List Asr} {e : Nat} {ti : TI} {s y : Sl} {k : IntKind} {m us : List Int} {K : Sl → World → Prop} (h : SH w0 w (aRow s 1 (nums k m) :: F)) (hy : RowAt w y.a y.len (us.map (Value.int k)))
    (hz : ti.sh.length = 1) (hzero : ti.zero.length = 1) (hb : 0 < ti.bytes) (hlen : (m.length + us.length) * ti.bytes ≤ 140737488355328)
    (hk : ∀ s' w', SH w0 w' (aRow s' 1 (nums k (m ++ us)) :: F) → s'.len = m.length + us.length → w.heap.size ≤ w'.heap.size → K s' w') : AppendW e ti s y w K := by
  have hul : us.length = y.len := by have := hy.1; simpa using this
  refine SH.append (z := 1) (ys := us.map (fun x => [Value.int k x])) h (by rw [Nat.mul_one]; exact hy) ?_ (by simpa using hul) (fun u hu => by obtain ⟨x, _, rfl⟩ := List.mem_map.1 hu; rfl) hz hzero hb (by rw [nums_len, ← hul]; exact hlen) (fun v hv => by obtain ⟨x, _, rfl⟩ := List.mem_map.1 hv; rfl) (fun s' w' h1 h2 h3 => hk s' w' ?_ (by rw [h2, nums_len]; omega) h3)
  · rw [show us.map (fun x => [Value.int k x]) = (us.map (Value.int k)).map (fun x => [x]) by rw [List.map_map]; rfl, flat_one]
  · rw [nums_app, nums_raw (m := us)]; exact h1
/-- append of one record. -/
theorem SH.appendR1 {w0 w : World} {F : List Asr} {e e' : Nat} {ti : TI} {s : Sl} {z : Nat} {α : Type} {f : α → List Value} {l : List α} {x : α} {K : Sl → World → Prop} (h : SH w0 w (aRow s z (recs f l) :: F)) (hf : (f x).length = z)
    (hz : ti.sh.length = z) (hzero : ti.zero.length = z) (hb : 0 < ti.bytes) (hlen : (l.length + 1) * ti.bytes ≤ 140737488355328) (hpl : ∀ v, v ∈ f x → plainB v = true)
    (hk : ∀ s' w', SH w0 w' (aRow s' z (recs f (l ++ [x])) :: F) → s'.len = l.length + 1 → w.heap.size ≤ w'.heap.size → K s' w') :
    AppendW e ti s ⟨some ⟨w.heap.size, 0, none⟩, 1, 1⟩ (w.alloc (.cells ⟨f x⟩ e')) K :=
  SH.append1 (x := f x) h hf hz hzero hb (by rw [recs_len]; omega) hpl (fun s' w' h1 h2 h3 => hk s' w' (by rw [recs_app]; exact h1) (by rw [h2, recs_len]) h3)
/-- A new block is a row. -/
theorem SH.toRow {w0 w : World} {F : List Asr} {b n z : Nat} {vs : List Value} {ys : List (List Value)} (h : SH w0 w (aB b (vs.map Ce.v) :: F)) (hvs : vs = ys.flatten) (hys : ys.length = n) (hyz : ∀ u, u ∈ ys → u.length = z) : SH w0 w (aRow ⟨some ⟨b, 0, none⟩, n, n⟩ z (ys.map (·.map Ce.v)) :: F) := by
  obtain ⟨H1, H2, h1, h2, h3⟩ := h.cut
  obtain rfl := aB_raw.1 h1
  refine SH.mk (H1 := [(b, .c vs)]) ⟨by simp [hys], Nat.le_refl _, .inr ⟨b, vs, [], rfl, rfl, by rw [hvs, flatten_length hyz, hys], ?_⟩⟩ h2 h3
  have := TE.raw ys hyz []
  rwa [List.append_nil, ← hvs] at this
end Go.Den

/- From memory in parts to trees: results. Conditions: none. -/
set_option linter.unusedVariables false
set_option linter.unusedSimpArgs false
namespace Go.Den
open Go
/-! ## Rows made otherwise -/
/-! ## Sets of numbers, kept as maps to bool -/
def aSet (b : Nat) (ks : List Int) : Asr := fun H => H = [(b, .m (ks.map (fun n => (Value.int .i64 n, Value.bool true))))]
theorem SH.newMap {w0 w : World} {F : List Asr} (h : SH w0 w F) {k : World → Prop} (hk : ∀ w1, SH w0 w1 (aSet w.heap.size [] :: F) → w1.heap.size = w.heap.size + 1 → k w1) : LetW (w.alloc (.map #[] 0)) k := by
  refine LetW_iff.2 (hk _ ?_ (size_alloc w _))
  obtain ⟨H, h1, h2⟩ := h
  refine SH.mk (H1 := [(w.heap.size, .m [])]) rfl h1 ?_
  have h3 := Sat.upd (H1 := []) (H1' := [(w.heap.size, BV.m [])]) h2 (ext_alloc w (.map #[] 0)) (fun k _ hk => hk.elim) (fun x hx => by rw [List.mem_singleton.1 hx]; exact ⟨[], 0, block_alloc w _, rfl⟩) (by simp) (fun x hx => by rw [List.mem_singleton.1 hx]; exact .inr (Nat.le_refl _))
  exact h3
theorem SH.mapF {w0 w : World} {F : List Asr} {b : Nat} {kvs kvs' : List (Value × Value)} {o : Obj} (h : SH w0 w ((fun H => H = [(b, BV.m kvs)]) :: F)) (ho : ∃ es k, o = .map ⟨es⟩ k ∧ es.map (fun e => (e.key, e.val)) = kvs') : SH w0 (setMap w b o) ((fun H => H = [(b, BV.m kvs')]) :: F) := by
  obtain ⟨H1, H2, h1, h2, hs⟩ := h.cut
  obtain rfl : H1 = _ := h1
  have hb := hs.blk (b, .m kvs) (List.mem_append_left _ (List.mem_singleton.2 rfl))
  have hlt := hb.lt
  obtain ⟨es, k, rfl, he⟩ := ho
  refine SH.mk (H1 := [(b, .m kvs')]) rfl h2 (hs.upd (only_setMap w b _) (fun k _ hk => by subst hk; simp) (fun x hx => ?_) (by simp) (fun x hx => by rw [List.mem_singleton.1 hx]; simp))
  rw [List.mem_singleton.1 hx]
  refine ⟨es, k, ?_, he⟩
  show (w.heap.setIfInBounds b _)[b]? = _
  rw [Array.getElem?_setIfInBounds_self_of_lt hlt]
end Go.Den

/- Rows whose elements own rows: append. Conditions: none. -/
set_option linter.unusedVariables false
set_option linter.unusedSimpArgs false
namespace Go.Den
open Go
theorem SH.drops {w0 w : World} : ∀ {As Bs : List Asr}, SH w0 w (As ++ Bs) → SH w0 w Bs
  | [], Bs, h => h
  | A :: As, Bs, h => SH.drops (As := As) (SH.drop (show SH w0 w (A :: (As ++ Bs)) from h))
/-- The first ones alone. -/
theorem SH.take {w0 w : World} {As : List Asr} (h : SH w0 w As) (n : Nat) : SH w0 w (As.take n) := by
  have h1 : SH w0 w (As.drop n ++ As.take n) := h.perm (by
    have := List.perm_append_comm (l₁ := As.take n) (l₂ := As.drop n)
    rwa [List.take_append_drop] at this)
  exact h1.drops
end Go.Den

/- Lent rows of records; places of elements; bits of 64-bit numbers. Conditions: none. -/
set_option linter.unusedVariables false
set_option linter.unusedSimpArgs false
namespace Go.Den
open Go
/-- The place of an element; nil, if there is none. -/
def ptrE (s : Sl) (z : Nat) (i : Int) : Option Addr := if i < 0 then none else s.a.map (fun q => q.add (i.toNat * z))
theorem ptrE_neg {s : Sl} {z : Nat} {i : Int} (h : i < 0) : ptrE s z i = none := by unfold ptrE; rw [if_pos h]
theorem ptrE_at {s : Sl} {z : Nat} {k : Nat} {q : Addr} (hq : s.a = some q) : ptrE s z (k : Int) = some (q.add (k * z)) := by unfold ptrE; rw [if_neg (by omega), hq]; rfl
theorem idx_at {α : Type} {p : α → Bool} {l : List α} {k : Nat} {x : α} (hx : l[k]? = some x) (hp : p x = true) (hno : ∀ (j : Nat) (y : α), j < k → l[j]? = some y → p y = false) : idxFrom p l 0 = k := by
  rcases idxFrom_spec p l 0 with ⟨_, h2⟩ | ⟨i, y, h1, h2, h3, h4⟩
  · rw [h2 x (List.mem_of_getElem? hx)] at hp; cases hp
  · have h5 : ¬ i < k := fun hh => by rw [hno i y hh h2] at h3; cases h3
    have h6 : ¬ k < i := fun hh => by rw [h4 k x hh hx] at hp; cases hp
    rw [h1]; omega
theorem idx_no {α : Type} {p : α → Bool} {l : List α} (hno : ∀ (j : Nat) (y : α), l[j]? = some y → p y = false) : idxFrom p l 0 = -1 := by
  rcases idxFrom_spec p l 0 with ⟨h1, _⟩ | ⟨i, y, h1, h2, h3, h4⟩
  · exact h1
  · rw [hno i y h2] at h3; cases h3
theorem idx_cases {α : Type} (p : α → Bool) (l : List α) : (idxFrom p l 0 = -1 ∧ ∀ x, x ∈ l → p x = false) ∨ ∃ (k : Nat) (x : α), idxFrom p l 0 = k ∧ l[k]? = some x ∧ p x = true ∧ ∀ (j : Nat) (y : α), j < k → l[j]? = some y → p y = false := by
  rcases idxFrom_spec p l 0 with h | ⟨i, x, h1, h2, h3, h4⟩
  · exact .inl h
  · exact .inr ⟨i, x, by rw [h1]; omega, h2, h3, h4⟩
end Go.Den
namespace Go.Den
open Go
/-- Bytes that are lent. -/
structure ByAt (w : World) (s : Sl) (m : List Int) : Prop where
  len : s.len = m.length
  cap : s.len ≤ s.cap
  row : RowAt w s.a s.len (m.map (Value.int .u8))
  rng : ∀ x, x ∈ m → 0 ≤ x ∧ x ≤ 255
  small : m.length ≤ 1099511627776
theorem ByAt.ext {w w' : World} {s : Sl} {m : List Int} (h : ByAt w s m) (e : Ext w w') : ByAt w' s m := ⟨h.len, h.cap, e.row h.row, h.rng, h.small⟩
theorem byAt_of {w : World} {s : Sl} {m : List Int} (h : IsD w (.sl 1 (m.map (Dat.int .u8))) [.slice s.a s.len s.cap]) (hs : m.length ≤ 1099511627776) : ByAt w s m :=
  ⟨(isD_len h).1, isD_cap h, isD_nums h, fun x hx => wf_u8_rng (isD_wf h x hx), hs⟩
/-! ## Joins whose second value is a call's -/
end Go.Den

/- Pointers that are known; joins of several things. Conditions: none. -/
set_option linter.unusedVariables false
namespace Go.Den
open Go
end Go.Den

/- Rows of records of one's own: read, written field by field, cut. Conditions: none. -/
set_option linter.unusedVariables false
set_option linter.unusedSimpArgs false
namespace Go.Den
open Go
/-! ## A block under its address -/
/-! ## Parts of a row -/
end Go.Den

/- Bits of 64-bit signed numbers that are not negative: sets of small numbers. Conditions: none. -/
set_option linter.unusedVariables false
set_option linter.unusedSimpArgs false
namespace Go.Den
open Go
/-! ## Sets -/
/-! ## The program's ways of asking and writing -/
/-! ## Sets of the numbers 1 .. 15 -/
end Go.Den

/- Parts with contents that are not told: blocks of ints of which only a property is kept; a cursor over bytes. Conditions: none. -/
set_option linter.unusedVariables false
set_option linter.unusedSimpArgs false
namespace Go.Den
open Go
/-! ## The cursor of a draw -/
end Go.Den

/- Structs of numbers compared cell by cell: SameAt from a table check. Conditions: none. -/
set_option linter.unusedVariables false
set_option linter.unusedSimpArgs false
namespace Go.Den
open Go
end Go.Den

/- Rows of records written over in their places (copy within a row), rows made shorter. Conditions: none. -/
set_option linter.unusedVariables false
set_option linter.unusedSimpArgs false
namespace Go.Den
open Go
end Go.Den

/- Maps in parts: from numbers to numbers, ranged over; sets of pairs. Conditions: none. -/
set_option linter.unusedVariables false
set_option linter.unusedSimpArgs false
namespace Go.Den
open Go
/-! ## Maps from numbers to numbers -/
def kvI (p : Int × Int) : Value × Value := (.int .i64 p.1, .int .i64 p.2)
def aCnt (b : Nat) (l : List (Int × Int)) : Asr := fun H => H = [(b, .n (l.map kvI))]
def lookI (n : Int) : List (Int × Int) → Option Int
  | [] => none
  | p :: l => if n = p.1 then some p.2 else lookI n l
def putI (n x : Int) : List (Int × Int) → List (Int × Int)
  | [] => [(n, x)]
  | p :: l => if n = p.1 then (n, x) :: l else p :: putI n x l
theorem SH.newCnt {w0 w : World} {F : List Asr} (h : SH w0 w F) {k : World → Prop} (hk : ∀ w1, SH w0 w1 (aCnt w.heap.size [] :: F) → w1.heap.size = w.heap.size + 1 → k w1) : LetW (w.alloc (.map #[] 0)) k := by
  refine LetW_iff.2 (hk _ ?_ (size_alloc w _))
  obtain ⟨H, h1, h2⟩ := h
  refine SH.mk (H1 := [(w.heap.size, .n [])]) rfl h1 ?_
  exact Sat.upd (H1 := []) (H1' := [(w.heap.size, BV.n [])]) h2 (ext_alloc w (.map #[] 0)) (fun k _ hk => hk.elim) (fun x hx => by rw [List.mem_singleton.1 hx]; exact ⟨[], 0, block_alloc w _, rfl, by simp, fun e he => by cases he⟩) (by simp) (fun x hx => by rw [List.mem_singleton.1 hx]; exact .inr (Nat.le_refl _))
/-- What is found, and what a put leaves. -/
theorem findN_cnt (n x : Int) (clock : Nat) : ∀ (es : List MapEntry) (l : List (Int × Int)) (i : Nat), es.map (fun e => (e.key, e.val)) = l.map kvI →
    (lookI n l = none ∧ findN (.int .i64 n) es i = some none ∧ putI n x l = l ++ [(n, x)]) ∨ ∃ j y, lookI n l = some y ∧ findN (.int .i64 n) es i = some (some (i + j, .int .i64 y)) ∧
      (es.modify j fun e => { e with key := .int .i64 n, val := .int .i64 x }).map (fun e => (e.key, e.val)) = (putI n x l).map kvI
  | [], l, i, hk => by
    have : l = [] := by cases l; rfl; cases hk
    subst this
    exact .inl ⟨rfl, rfl, rfl⟩
  | e :: es, l, i, hk => by
    cases l with
    | nil => cases hk
    | cons p l =>
      simp only [List.map_cons, List.cons.injEq, kvI, Prod.mk.injEq] at hk
      obtain ⟨⟨h1, h2⟩, h3⟩ := hk
      unfold findN lookI putI
      rw [h1]
      simp only [if_true]
      by_cases hnm : n = p.1
      · rw [if_pos hnm, if_pos hnm, hnm]
        simp only [beq_self_eq_true, if_true]
        exact .inr ⟨0, p.2, rfl, by rw [h2]; rfl, by simp [kvI, h3]⟩
      · rw [if_neg hnm, if_neg hnm, if_neg (by simpa using hnm)]
        rcases findN_cnt n x clock es l (i + 1) h3 with ⟨a1, a2, a3⟩ | ⟨j, y, a1, a2, a3⟩
        · exact .inl ⟨a1, a2, by rw [a3]; rfl⟩
        · refine .inr ⟨j + 1, y, a1, by rw [a2]; congr 3; omega, ?_⟩
          rw [List.modify_succ_cons, List.map_cons, a3, List.map_cons, h1, h2]
          rfl
theorem SH.getCnt {w0 w : World} {As : List Asr} (h : SH w0 w As) (i : Nat) {b : Nat} {l : List (Int × Int)} (hA : As[i]? = some (aCnt b l)) (n : Int) {K : Option (Nat × Value) → Prop} (hk : ∀ o, valOr o (.int .i64 0) = .int .i64 ((lookI n l).getD 0) → o.isSome = (lookI n l).isSome → K o) : MapGetW w (some b) (.int .i64 n) K := by
  obtain ⟨H1, H2, h1, h2, hs⟩ := (h.front hA).cut
  obtain rfl : H1 = _ := h1
  obtain ⟨es, k, hb, he, _, _⟩ : BVAt w b _ := hs.blk (b, _) (List.mem_append_left _ (List.mem_singleton.2 rfl))
  rcases findN_cnt n 0 k es l 0 he with ⟨a1, a2, _⟩ | ⟨j, y, a1, a2, _⟩
  · exact ⟨es, none, ⟨k, hb⟩, a2, hk _ (by rw [a1]; rfl) (by rw [a1]; rfl)⟩
  · exact ⟨es, some (0 + j, .int .i64 y), ⟨k, hb⟩, a2, hk _ (by rw [a1]; rfl) (by rw [a1]; rfl)⟩
theorem SH.cntF {w0 w : World} {F : List Asr} {b : Nat} {kvs kvs' : List (Value × Value)} {o : Obj} (h : SH w0 w ((fun H => H = [(b, BV.n kvs)]) :: F)) (ho : ∃ es k, o = .map ⟨es⟩ k ∧ es.map (fun e => (e.key, e.val)) = kvs' ∧ (es.map (·.born)).Nodup ∧ ∀ e, e ∈ es → e.born < k) : SH w0 (setMap w b o) ((fun H => H = [(b, BV.n kvs')]) :: F) := by
  obtain ⟨H1, H2, h1, h2, hs⟩ := h.cut
  obtain rfl : H1 = _ := h1
  have hb := hs.blk (b, .n kvs) (List.mem_append_left _ (List.mem_singleton.2 rfl))
  have hlt := hb.lt
  obtain ⟨es, k, rfl, he⟩ := ho
  refine SH.mk (H1 := [(b, .n kvs')]) rfl h2 (hs.upd (only_setMap w b _) (fun k _ hk => by subst hk; simp) (fun x hx => ?_) (by simp) (fun x hx => by rw [List.mem_singleton.1 hx]; simp))
  rw [List.mem_singleton.1 hx]
  refine ⟨es, k, ?_, he⟩
  show (w.heap.setIfInBounds b _)[b]? = _
  rw [Array.getElem?_setIfInBounds_self_of_lt hlt]
theorem modify_born (es : List MapEntry) (j : Nat) (a b : Value) : (es.modify j fun e => { e with key := a, val := b }).map (·.born) = es.map (·.born) := by
  apply List.ext_getElem?
  intro i
  rw [List.getElem?_map, List.getElem?_map, List.getElem?_modify]
  cases es[i]? with
  | none => rfl
  | some e => by_cases hj : j = i <;> simp [hj]
theorem SH.putCnt {w0 w : World} {As : List Asr} (h : SH w0 w As) (i : Nat) {b : Nat} {l : List (Int × Int)} (hA : As[i]? = some (aCnt b l)) (n x : Int) {K : World → Prop} (hk : ∀ w', SH w0 w' (As.set i (aCnt b (putI n x l))) → w'.heap.size = w.heap.size → K w') : MapPutW w (some b) (.int .i64 n) (.int .i64 x) K := by
  have hf := h.front hA
  obtain ⟨H1, H2, h1, h2, hs⟩ := hf.cut
  obtain rfl : H1 = _ := h1
  obtain ⟨es, k, hb, he, hn, hlt⟩ : BVAt w b _ := hs.blk (b, _) (List.mem_append_left _ (List.mem_singleton.2 rfl))
  have hsz : ∀ o, (setMap w b o).heap.size = w.heap.size := fun o => by simp [setMap]
  rcases findN_cnt n x k es l 0 he with ⟨a1, a2, a3⟩ | ⟨j, y, a1, a2, a3⟩
  · refine ⟨b, es, k, none, rfl, hb, a2, hk _ ((SH.cntF hf ⟨_, _, rfl, ?_, ?_, ?_⟩).perm (set_perm hA)) (hsz _)⟩
    · rw [a3, List.map_append, he, List.map_append]; rfl
    · rw [List.map_append, List.nodup_append]
      refine ⟨hn, by simp, fun a ha c hc hac => ?_⟩
      obtain ⟨e, he', rfl⟩ := List.mem_map.1 ha
      simp only [List.map_cons, List.map_nil, List.mem_singleton] at hc
      have := hlt e he'
      omega
    · intro e he'
      rcases List.mem_append.1 he' with he' | he'
      · have := hlt e he'; omega
      · rw [List.mem_singleton.1 he']; exact Nat.lt_succ_self k
  · refine ⟨b, es, k, some (0 + j, .int .i64 y), rfl, hb, a2, hk _ ((SH.cntF hf ⟨_, _, rfl, ?_, ?_, ?_⟩).perm (set_perm hA)) (hsz _)⟩
    · rw [Nat.zero_add]; exact a3
    · rw [modify_born]; exact hn
    · intro e he'
      have : e.born ∈ (es.modify (0 + j) fun e => { e with key := .int .i64 n, val := .int .i64 x }).map (·.born) := List.mem_map.2 ⟨e, he', rfl⟩
      rw [modify_born] at this
      obtain ⟨e2, he2, h2⟩ := List.mem_map.1 this
      rw [← h2]; exact hlt e2 he2
/-! ## A loop over such a map that reads -/
theorem nodup_born {es : List MapEntry} (hn : (es.map (·.born)).Nodup) {a b : MapEntry} (ha : a ∈ es) (hb : b ∈ es) (h : a.born = b.born) : a = b := by
  induction es with
  | nil => cases ha
  | cons e es ih =>
    rw [List.map_cons, List.nodup_cons] at hn
    rcases List.mem_cons.1 ha with rfl | ha'
    · rcases List.mem_cons.1 hb with rfl | hb'
      · rfl
      · exact absurd (List.mem_map.2 ⟨b, hb', h.symm⟩) hn.1
    · rcases List.mem_cons.1 hb with rfl | hb'
      · exact absurd (List.mem_map.2 ⟨a, ha', h⟩) hn.1
      · exact ih hn.2 ha' hb'
theorem find_bornN {es : List MapEntry} (hn : (es.map (·.born)).Nodup) {e : MapEntry} (he : e ∈ es) : es.find? (·.born == e.born) = some e := by
  cases hf : es.find? (·.born == e.born) with
  | none => have := List.find?_eq_none.1 hf e he; simp at this
  | some a =>
    have h1 := List.find?_some hf
    have h2 := List.mem_of_find?_eq_some hf
    rw [nodup_born hn h2 he (by simpa using h1)]
def itSeen (w : World) (q : Nat) : Array Nat := match w.heap[q]? with | some (.mapIter _ _ s _) => s | _ => #[]
theorem filter_less {α : Type} (p q : α → Bool) (hpq : ∀ x, q x = true → p x = true) (e : α) (hp : p e = true) (hq : q e = false) : ∀ (l : List α), e ∈ l → (l.filter q).length < (l.filter p).length
  | x :: l, he => by
    have hle : ∀ l : List α, (l.filter q).length ≤ (l.filter p).length := fun l => by
      induction l with
      | nil => simp
      | cons y l ih =>
        rw [List.filter_cons, List.filter_cons]
        cases hy : q y with
        | true => rw [hpq y hy]; simpa using ih
        | false => cases p y <;> simp <;> omega
    rw [List.filter_cons, List.filter_cons]
    rcases List.mem_cons.1 he with rfl | he'
    · rw [hp, hq]
      have := hle l
      simp; omega
    · have ih := filter_less p q hpq e hp hq l he'
      cases hx : q x with
      | true => rw [hpq x hx]; simpa using ih
      | false => cases p x <;> simp <;> omega
theorem SH.rangeCnt {w0 w : World} {As : List Asr} (h : SH w0 w As) (i : Nat) {b : Nat} {l : List (Int × Int)} (hA : As[i]? = some (aCnt b l)) (p : Int → Int → Prop)
    {A : Option Addr → Int → Int → World → (World → Prop) → Prop} {B : Option Addr → World → Prop}
    (hstep : ∀ a x y w' J, (x, y) ∈ l → SH w0 w' As → (p x y → J w') → A a x y w' J)
    (hexit : ∀ a w', SH w0 w' As → (∀ q, q ∈ l → p q.1 q.2) → B a w') :
    RangeW w (some b) fun a w1 => LoopW [] (fun J w2 => NextW w2 a fun c xs w3 => BIf c (EntryW w3 a fun x y => A a x y w3 J) (B a w3)) () w1 := by
  have hsh := h
  obtain ⟨H1, H2, h1, h2, hs⟩ := (h.front hA).cut
  obtain rfl : H1 = _ := h1
  have hb0 := hs.blk (b, .n (l.map kvI)) (List.mem_append_left _ (List.mem_singleton.2 rfl))
  have hlt := hb0.lt
  obtain ⟨es, k, hb, he, hn, hk⟩ := hb0
  refine ⟨b, es, k, rfl, hb, ?_⟩
  have hin : ∀ e, e ∈ es → ∃ x y, e.key = .int .i64 x ∧ e.val = .int .i64 y ∧ (x, y) ∈ l := fun e hh => by
    have : (e.key, e.val) ∈ l.map kvI := by rw [← he]; exact List.mem_map.2 ⟨e, hh, rfl⟩
    obtain ⟨q, hq, hqe⟩ := List.mem_map.1 this
    simp only [kvI, Prod.mk.injEq] at hqe
    exact ⟨q.1, q.2, hqe.1.symm, hqe.2.symm, hq⟩
  have hout : ∀ q, q ∈ l → ∃ e, e ∈ es ∧ e.key = .int .i64 q.1 ∧ e.val = .int .i64 q.2 := fun q hq => by
    have : kvI q ∈ es.map (fun e => (e.key, e.val)) := by rw [he]; exact List.mem_map.2 ⟨q, hq, rfl⟩
    obtain ⟨e, he', hee⟩ := List.mem_map.1 this
    simp only [kvI, Prod.mk.injEq] at hee
    exact ⟨e, he', hee.1, hee.2⟩
  let Inv : World → Prop := fun w' => Ext w w' ∧ ∃ seen c0, w'.heap[w.heap.size]? = some (.mapIter (some b) k seen c0) ∧ k ≤ c0 ∧ ∀ e, e ∈ es → seen.contains e.born = true → ∀ x y, e.key = .int .i64 x → e.val = .int .i64 y → p x y
  refine ⟨fun n w' => Inv w' ∧ (leftN es (itSeen w' w.heap.size)).length = n, ⟨_, ⟨ext_alloc w _, #[], k, ?_, Nat.le_refl _, fun e he hh => by simp at hh⟩, rfl⟩, ?_⟩
  · exact block_alloc w _
  · rintro n v w' ⟨⟨e, seen, c0, hq, hc, hp⟩, hm⟩
    have hbw : w'.heap[b]? = some (.map ⟨es⟩ k) := (e.block b hlt id).trans hb
    have hseen : itSeen w' w.heap.size = seen := by unfold itSeen; rw [hq]
    rw [hseen] at hm
    refine ⟨w.heap.size, b, k, c0, seen, es, k, rfl, hq, hbw, hk, hc, ?_, ?_⟩
    · intro hl
      refine hexit _ _ (hsh.to e) (fun q hq' => ?_)
      obtain ⟨e1, g1, g2, g3⟩ := hout q hq'
      refine hp e1 g1 ?_ _ _ g2 g3
      have : e1 ∉ leftN es seen := by rw [hl]; simp
      unfold leftN at this
      rw [List.mem_filter] at this
      cases hc' : seen.contains e1.born
      · exact absurd ⟨g1, by rw [hc']; rfl⟩ this
      · rfl
    · intro e1 g1 w1 hw1
      have g1' : e1 ∈ es ∧ (!seen.contains e1.born) = true := by unfold leftN at g1; exact List.mem_filter.1 g1
      have ew1 : Ext w w1 := by
        rcases hw1 with rfl | rfl
        · exact e
        · exact e.step (ext_drew w') (fun i _ hs => hs.elim)
      have hqlt : w.heap.size < w1.heap.size := by
        have := (Array.getElem?_eq_some_iff.1 hq).1
        rcases hw1 with rfl | rfl <;> exact this
      have e2 : Ext w (setMap w1 w.heap.size (.mapIter (some b) k (seen.push e1.born) k)) := ew1.step (only_setMap w1 _ _) (fun i hi hs => by omega)
      have hq2 : (setMap w1 w.heap.size (.mapIter (some b) k (seen.push e1.born) k)).heap[w.heap.size]? = some (.mapIter (some b) k (seen.push e1.born) k) := by
        show (w1.heap.setIfInBounds w.heap.size _)[w.heap.size]? = _
        rw [Array.getElem?_setIfInBounds_self_of_lt hqlt]
      have hb2 := (e2.block b hlt id).trans hb
      generalize setMap w1 w.heap.size (.mapIter (some b) k (seen.push e1.born) k) = w3 at *
      obtain ⟨x, y, gx, gy, gl⟩ := hin e1 g1'.1
      refine ⟨w.heap.size, b, k, _, k, es, e1, x, y, rfl, hq2, by simp, hb2, find_bornN hn g1'.1, gx, gy, ?_⟩
      refine hstep _ _ _ _ _ gl (hsh.to e2) (fun hpp => ?_)
      refine ⟨_, ?_, ⟨e2, _, _, hq2, Nat.le_refl _, fun e4 g4 hc4 x' y' gx' gy' => ?_⟩, rfl⟩
      · have : itSeen w3 w.heap.size = seen.push e1.born := by unfold itSeen; rw [hq2]
        rw [this, ← hm]
        unfold leftN
        refine filter_less _ _ (fun z hz => ?_) e1 g1'.2 ?_ es g1'.1
        · simp only [Bool.not_eq_true', Array.contains_eq_any_beq, Array.any_push, Bool.or_eq_false_iff] at hz ⊢; exact hz.1
        · simp [Array.contains_eq_any_beq, Array.any_push]
      · by_cases hb4 : e4.born = e1.born
        · obtain rfl := nodup_born hn g4 g1'.1 hb4
          rw [gx] at gx'; rw [gy] at gy'
          cases gx'; cases gy'; exact hpp
        · refine hp e4 g4 ?_ _ _ gx' gy'
          simp only [Array.contains_eq_any_beq, Array.any_push, Bool.or_eq_true] at hc4 ⊢
          rcases hc4 with hc4 | hc4
          · exact hc4
          · exact absurd (eq_of_beq hc4) hb4
/-! ## Sets of pairs -/
def prV (p : Int × Int) : Value := .agg ⟨[.int .i64 p.1, .int .i64 p.2]⟩
def aPs (b : Nat) (ks : List (Int × Int)) : Asr := fun H => H = [(b, .m (ks.map fun p => (prV p, Value.bool true)))]
theorem SH.newPs {w0 w : World} {F : List Asr} (h : SH w0 w F) {k : World → Prop} (hk : ∀ w1, SH w0 w1 (aPs w.heap.size [] :: F) → w1.heap.size = w.heap.size + 1 → k w1) : LetW (w.alloc (.map #[] 0)) k := h.newMap hk
theorem findA_pr (x y : Int) : ∀ (es : List MapEntry) (ks : List (Int × Int)) (i : Nat), es.map (fun e => (e.key, e.val)) = ks.map (fun p => (prV p, Value.bool true)) →
    ((x, y) ∉ ks ∧ findA [.int .i64 x, .int .i64 y] [.int .i64, .int .i64] es i = some none) ∨ ((x, y) ∈ ks ∧ ∃ j, findA [.int .i64 x, .int .i64 y] [.int .i64, .int .i64] es i = some (some (j, .bool true)))
  | [], ks, i, hk => by
    have : ks = [] := by cases ks; rfl; cases hk
    subst this
    exact .inl ⟨by simp, rfl⟩
  | e :: es, ks, i, hk => by
    cases ks with
    | nil => cases hk
    | cons p ks =>
      simp only [List.map_cons, List.cons.injEq, Prod.mk.injEq] at hk
      obtain ⟨⟨h1, h2⟩, h3⟩ := hk
      unfold findA
      rw [h1]
      show _ ∨ _
      simp only [prV, fitL, fitB, kEq, eqVs, cellB, Bool.and_true]
      cases hq : (x == p.1 && y == p.2)
      · rcases findA_pr x y es ks (i + 1) h3 with ⟨a1, a2⟩ | ⟨a1, a2⟩
        · refine .inl ⟨fun hm => ?_, a2⟩
          rcases List.mem_cons.1 hm with hm | hm
          · rw [← hm] at hq; simp at hq
          · exact a1 hm
        · exact .inr ⟨List.mem_cons_of_mem _ a1, a2⟩
      · simp only [Bool.and_eq_true, beq_iff_eq] at hq
        exact .inr ⟨by rw [hq.1, hq.2]; exact List.mem_cons_self, i, by rw [h2]⟩
theorem SH.getPs {w0 w : World} {As : List Asr} (h : SH w0 w As) (i : Nat) {b : Nat} {ks : List (Int × Int)} (hA : As[i]? = some (aPs b ks)) (x y : Int) {K : Option (Nat × Value) → Prop} (hk : ∀ o, valOr o (.bool false) = .bool (decide ((x, y) ∈ ks)) → K o) : MapGetA w (some b) [.int .i64, .int .i64] [.int .i64 x, .int .i64 y] K := by
  obtain ⟨H1, H2, h1, h2, hs⟩ := (h.front hA).cut
  obtain rfl : H1 = _ := h1
  obtain ⟨es, k, hb, he⟩ : BVAt w b _ := hs.blk (b, _) (List.mem_append_left _ (List.mem_singleton.2 rfl))
  rcases findA_pr x y es ks 0 he with ⟨a1, a2⟩ | ⟨a1, j, a2⟩
  · exact ⟨es, none, ⟨k, hb⟩, a2, hk _ (by rw [decide_eq_false a1]; rfl)⟩
  · exact ⟨es, _, ⟨k, hb⟩, a2, hk _ (by rw [decide_eq_true a1]; rfl)⟩
theorem SH.putPs {w0 w : World} {As : List Asr} (h : SH w0 w As) (i : Nat) {b : Nat} {ks : List (Int × Int)} (hA : As[i]? = some (aPs b ks)) (x y : Int) (hno : (x, y) ∉ ks) {K : World → Prop} (hk : ∀ w', SH w0 w' (As.set i (aPs b (ks ++ [(x, y)]))) → w'.heap.size = w.heap.size → K w') : MapPutA w (some b) [.int .i64, .int .i64] [.int .i64 x, .int .i64 y] (.bool true) K := by
  have hf := h.front hA
  obtain ⟨H1, H2, h1, h2, hs⟩ := hf.cut
  obtain rfl : H1 = _ := h1
  obtain ⟨es, k, hb, he⟩ : BVAt w b _ := hs.blk (b, _) (List.mem_append_left _ (List.mem_singleton.2 rfl))
  have hsz : ∀ o, (setMap w b o).heap.size = w.heap.size := fun o => by simp [setMap]
  rcases findA_pr x y es ks 0 he with ⟨a1, a2⟩ | ⟨a1, j, a2⟩
  · refine ⟨b, es, k, rfl, hb, a2, hk _ ((SH.mapF hf ⟨_, _, rfl, ?_⟩).perm (set_perm hA)) (hsz _)⟩
    rw [List.map_append, he, List.map_append]; rfl
  · exact absurd a1 hno
end Go.Den

/- The types of the program as the plainer reading wants them, held against the program. Conditions: none. -/
namespace Go.Proofs.Ytagjjhfhfjdcaaa
open Go Go.Den
def ti2 : TI := ⟨.int .i64, [.int .i64], [.int .i64 0], 8⟩
theorem tiok2 : TIOk Try.prog 2 ti2 := ⟨⟨Try.t2, (.int .i64 0 : Value), by kernel_rfl, by kernel_rfl, by kernel_rfl, by kernel_rfl, by kernel_rfl⟩, Try.underlying2, by kernel_rfl, by kernel_rfl⟩
def ti3 : TI := ⟨.int .i64, [.int .i64], [.int .i64 0], 8⟩
theorem tiok3 : TIOk Try.prog 3 ti3 := ⟨⟨Try.t3, (.int .i64 0 : Value), by kernel_rfl, by kernel_rfl, by kernel_rfl, by kernel_rfl, by kernel_rfl⟩, Try.underlying3, by kernel_rfl, by kernel_rfl⟩
def ti4 : TI := ⟨.bool, [.bool], [.bool false], 1⟩
theorem tiok4 : TIOk Try.prog 4 ti4 := ⟨⟨Try.t4, (.bool false : Value), by kernel_rfl, by kernel_rfl, by kernel_rfl, by kernel_rfl, by kernel_rfl⟩, Try.underlying4, by kernel_rfl, by kernel_rfl⟩
def ti5 : TI := ⟨.int .u8, [.int .u8], [.int .u8 0], 1⟩
theorem tiok5 : TIOk Try.prog 5 ti5 := ⟨⟨Try.t5, (.int .u8 0 : Value), by kernel_rfl, by kernel_rfl, by kernel_rfl, by kernel_rfl, by kernel_rfl⟩, Try.underlying5, by kernel_rfl, by kernel_rfl⟩
def ti22 : TI := ⟨.slice 75, [.slice], [.slice none 0 0], 24⟩
theorem tiok22 : TIOk Try.prog 22 ti22 := ⟨⟨Try.t22, (.slice none 0 0 : Value), by kernel_rfl, by kernel_rfl, by kernel_rfl, by kernel_rfl, by kernel_rfl⟩, Try.underlying22, by kernel_rfl, by kernel_rfl⟩
def ti23 : TI := ⟨.slice 79, [.slice], [.slice none 0 0], 24⟩
theorem tiok23 : TIOk Try.prog 23 ti23 := ⟨⟨Try.t23, (.slice none 0 0 : Value), by kernel_rfl, by kernel_rfl, by kernel_rfl, by kernel_rfl, by kernel_rfl⟩, Try.underlying23, by kernel_rfl, by kernel_rfl⟩
def ti24 : TI := ⟨.slice 81, [.slice], [.slice none 0 0], 24⟩
theorem tiok24 : TIOk Try.prog 24 ti24 := ⟨⟨Try.t24, (.slice none 0 0 : Value), by kernel_rfl, by kernel_rfl, by kernel_rfl, by kernel_rfl, by kernel_rfl⟩, Try.underlying24, by kernel_rfl, by kernel_rfl⟩
def ti26 : TI := ⟨.struct [(2, 0), (2, 1), (2, 2), (2, 3), (2, 4), (2, 5), (2, 6), (22, 7), (23, 8), (24, 9)], [.int .i64, .int .i64, .int .i64, .int .i64, .int .i64, .int .i64, .int .i64, .slice, .slice, .slice], [.int .i64 0, .int .i64 0, .int .i64 0, .int .i64 0, .int .i64 0, .int .i64 0, .int .i64 0, .slice none 0 0, .slice none 0 0, .slice none 0 0], 128⟩
theorem tiok26 : TIOk Try.prog 26 ti26 := ⟨⟨Try.t26, (.agg #[.int .i64 0, .int .i64 0, .int .i64 0, .int .i64 0, .int .i64 0, .int .i64 0, .int .i64 0, .slice none 0 0, .slice none 0 0, .slice none 0 0] : Value), by kernel_rfl, by kernel_rfl, by kernel_rfl, by kernel_rfl, by kernel_rfl⟩, ⟨_, Try.underlying26, by kernel_rfl⟩, by kernel_rfl, by kernel_rfl⟩
def ti29 : TI := ⟨.slice 53, [.slice], [.slice none 0 0], 24⟩
theorem tiok29 : TIOk Try.prog 29 ti29 := ⟨⟨Try.t29, (.slice none 0 0 : Value), by kernel_rfl, by kernel_rfl, by kernel_rfl, by kernel_rfl, by kernel_rfl⟩, Try.underlying29, by kernel_rfl, by kernel_rfl⟩
def ti30 : TI := ⟨.slice 60, [.slice], [.slice none 0 0], 24⟩
theorem tiok30 : TIOk Try.prog 30 ti30 := ⟨⟨Try.t30, (.slice none 0 0 : Value), by kernel_rfl, by kernel_rfl, by kernel_rfl, by kernel_rfl, by kernel_rfl⟩, Try.underlying30, by kernel_rfl, by kernel_rfl⟩
def ti31 : TI := ⟨.slice 57, [.slice], [.slice none 0 0], 24⟩
theorem tiok31 : TIOk Try.prog 31 ti31 := ⟨⟨Try.t31, (.slice none 0 0 : Value), by kernel_rfl, by kernel_rfl, by kernel_rfl, by kernel_rfl, by kernel_rfl⟩, Try.underlying31, by kernel_rfl, by kernel_rfl⟩
def ti33 : TI := ⟨.struct [(2, 0), (2, 1), (2, 2), (2, 3), (2, 4), (2, 5), (2, 6), (29, 7), (30, 8), (31, 9)], [.int .i64, .int .i64, .int .i64, .int .i64, .int .i64, .int .i64, .int .i64, .slice, .slice, .slice], [.int .i64 0, .int .i64 0, .int .i64 0, .int .i64 0, .int .i64 0, .int .i64 0, .int .i64 0, .slice none 0 0, .slice none 0 0, .slice none 0 0], 128⟩
theorem tiok33 : TIOk Try.prog 33 ti33 := ⟨⟨Try.t33, (.agg #[.int .i64 0, .int .i64 0, .int .i64 0, .int .i64 0, .int .i64 0, .int .i64 0, .int .i64 0, .slice none 0 0, .slice none 0 0, .slice none 0 0] : Value), by kernel_rfl, by kernel_rfl, by kernel_rfl, by kernel_rfl, by kernel_rfl⟩, ⟨_, Try.underlying33, by kernel_rfl⟩, by kernel_rfl, by kernel_rfl⟩
def ti38 : TI := ⟨.struct [(2, 0), (2, 1), (2, 2), (2, 3)], [.int .i64, .int .i64, .int .i64, .int .i64], [.int .i64 0, .int .i64 0, .int .i64 0, .int .i64 0], 32⟩
theorem tiok38 : TIOk Try.prog 38 ti38 := ⟨⟨Try.t38, (.agg #[.int .i64 0, .int .i64 0, .int .i64 0, .int .i64 0] : Value), by kernel_rfl, by kernel_rfl, by kernel_rfl, by kernel_rfl, by kernel_rfl⟩, ⟨_, Try.underlying38, by kernel_rfl⟩, by kernel_rfl, by kernel_rfl⟩
def ti49 : TI := ⟨.map 54 4, [.map], [.map none], 8⟩
theorem tiok49 : TIOk Try.prog 49 ti49 := ⟨⟨Try.t49, (.map none : Value), by kernel_rfl, by kernel_rfl, by kernel_rfl, by kernel_rfl, by kernel_rfl⟩, Try.underlying49, by kernel_rfl, by kernel_rfl⟩
def ti50 : TI := ⟨.map 2 3, [.map], [.map none], 8⟩
theorem tiok50 : TIOk Try.prog 50 ti50 := ⟨⟨Try.t50, (.map none : Value), by kernel_rfl, by kernel_rfl, by kernel_rfl, by kernel_rfl, by kernel_rfl⟩, Try.underlying50, by kernel_rfl, by kernel_rfl⟩
def ti51 : TI := ⟨.slice 5, [.slice], [.slice none 0 0], 24⟩
theorem tiok51 : TIOk Try.prog 51 ti51 := ⟨⟨Try.t51, (.slice none 0 0 : Value), by kernel_rfl, by kernel_rfl, by kernel_rfl, by kernel_rfl, by kernel_rfl⟩, Try.underlying51, by kernel_rfl, by kernel_rfl⟩
def ti53 : TI := ⟨.struct [(2, 0), (2, 1), (2, 2), (4, 3), (51, 4)], [.int .i64, .int .i64, .int .i64, .bool, .slice], [.int .i64 0, .int .i64 0, .int .i64 0, .bool false, .slice none 0 0], 56⟩
theorem tiok53 : TIOk Try.prog 53 ti53 := ⟨⟨Try.t53, (.agg #[.int .i64 0, .int .i64 0, .int .i64 0, .bool false, .slice none 0 0] : Value), by kernel_rfl, by kernel_rfl, by kernel_rfl, by kernel_rfl, by kernel_rfl⟩, ⟨_, Try.underlying53, by kernel_rfl⟩, by kernel_rfl, by kernel_rfl⟩
def ti54 : TI := ⟨.array 2 2, [.int .i64, .int .i64], [.int .i64 0, .int .i64 0], 16⟩
theorem tiok54 : TIOk Try.prog 54 ti54 := ⟨⟨Try.t54, (.agg #[.int .i64 0, .int .i64 0] : Value), by kernel_rfl, by kernel_rfl, by kernel_rfl, by kernel_rfl, by kernel_rfl⟩, Try.underlying54, by kernel_rfl, by kernel_rfl⟩
def ti55 : TI := ⟨.slice 2, [.slice], [.slice none 0 0], 24⟩
theorem tiok55 : TIOk Try.prog 55 ti55 := ⟨⟨Try.t55, (.slice none 0 0 : Value), by kernel_rfl, by kernel_rfl, by kernel_rfl, by kernel_rfl, by kernel_rfl⟩, Try.underlying55, by kernel_rfl, by kernel_rfl⟩
def ti57 : TI := ⟨.struct [(2, 0), (4, 1), (55, 2)], [.int .i64, .bool, .slice], [.int .i64 0, .bool false, .slice none 0 0], 40⟩
theorem tiok57 : TIOk Try.prog 57 ti57 := ⟨⟨Try.t57, (.agg #[.int .i64 0, .bool false, .slice none 0 0] : Value), by kernel_rfl, by kernel_rfl, by kernel_rfl, by kernel_rfl, by kernel_rfl⟩, ⟨_, Try.underlying57, by kernel_rfl⟩, by kernel_rfl, by kernel_rfl⟩
def ti58 : TI := ⟨.slice 62, [.slice], [.slice none 0 0], 24⟩
theorem tiok58 : TIOk Try.prog 58 ti58 := ⟨⟨Try.t58, (.slice none 0 0 : Value), by kernel_rfl, by kernel_rfl, by kernel_rfl, by kernel_rfl, by kernel_rfl⟩, Try.underlying58, by kernel_rfl, by kernel_rfl⟩
def ti60 : TI := ⟨.struct [(2, 0), (58, 1)], [.int .i64, .slice], [.int .i64 0, .slice none 0 0], 32⟩
theorem tiok60 : TIOk Try.prog 60 ti60 := ⟨⟨Try.t60, (.agg #[.int .i64 0, .slice none 0 0] : Value), by kernel_rfl, by kernel_rfl, by kernel_rfl, by kernel_rfl, by kernel_rfl⟩, ⟨_, Try.underlying60, by kernel_rfl⟩, by kernel_rfl, by kernel_rfl⟩
def ti62 : TI := ⟨.struct [(2, 0), (2, 1), (2, 2), (2, 3), (51, 4), (55, 5)], [.int .i64, .int .i64, .int .i64, .int .i64, .slice, .slice], [.int .i64 0, .int .i64 0, .int .i64 0, .int .i64 0, .slice none 0 0, .slice none 0 0], 80⟩
theorem tiok62 : TIOk Try.prog 62 ti62 := ⟨⟨Try.t62, (.agg #[.int .i64 0, .int .i64 0, .int .i64 0, .int .i64 0, .slice none 0 0, .slice none 0 0] : Value), by kernel_rfl, by kernel_rfl, by kernel_rfl, by kernel_rfl, by kernel_rfl⟩, ⟨_, Try.underlying62, by kernel_rfl⟩, by kernel_rfl, by kernel_rfl⟩
def ti64 : TI := ⟨.ptr 57, [.ptr], [.pointer none], 8⟩
theorem tiok64 : TIOk Try.prog 64 ti64 := ⟨⟨Try.t64, (.pointer none : Value), by kernel_rfl, by kernel_rfl, by kernel_rfl, by kernel_rfl, by kernel_rfl⟩, Try.underlying64, by kernel_rfl, by kernel_rfl⟩
def ti66 : TI := ⟨.slice 55, [.slice], [.slice none 0 0], 24⟩
theorem tiok66 : TIOk Try.prog 66 ti66 := ⟨⟨Try.t66, (.slice none 0 0 : Value), by kernel_rfl, by kernel_rfl, by kernel_rfl, by kernel_rfl, by kernel_rfl⟩, Try.underlying66, by kernel_rfl, by kernel_rfl⟩
def ti75 : TI := ⟨.struct [(2, 0), (2, 1), (2, 2), (4, 3), (51, 4)], [.int .i64, .int .i64, .int .i64, .bool, .slice], [.int .i64 0, .int .i64 0, .int .i64 0, .bool false, .slice none 0 0], 56⟩
theorem tiok75 : TIOk Try.prog 75 ti75 := ⟨⟨Try.t75, (.agg #[.int .i64 0, .int .i64 0, .int .i64 0, .bool false, .slice none 0 0] : Value), by kernel_rfl, by kernel_rfl, by kernel_rfl, by kernel_rfl, by kernel_rfl⟩, ⟨_, Try.underlying75, by kernel_rfl⟩, by kernel_rfl, by kernel_rfl⟩
def ti77 : TI := ⟨.slice 103, [.slice], [.slice none 0 0], 24⟩
theorem tiok77 : TIOk Try.prog 77 ti77 := ⟨⟨Try.t77, (.slice none 0 0 : Value), by kernel_rfl, by kernel_rfl, by kernel_rfl, by kernel_rfl, by kernel_rfl⟩, Try.underlying77, by kernel_rfl, by kernel_rfl⟩
def ti79 : TI := ⟨.struct [(2, 0), (77, 1)], [.int .i64, .slice], [.int .i64 0, .slice none 0 0], 32⟩
theorem tiok79 : TIOk Try.prog 79 ti79 := ⟨⟨Try.t79, (.agg #[.int .i64 0, .slice none 0 0] : Value), by kernel_rfl, by kernel_rfl, by kernel_rfl, by kernel_rfl, by kernel_rfl⟩, ⟨_, Try.underlying79, by kernel_rfl⟩, by kernel_rfl, by kernel_rfl⟩
def ti81 : TI := ⟨.struct [(2, 0), (4, 1), (55, 2)], [.int .i64, .bool, .slice], [.int .i64 0, .bool false, .slice none 0 0], 40⟩
theorem tiok81 : TIOk Try.prog 81 ti81 := ⟨⟨Try.t81, (.agg #[.int .i64 0, .bool false, .slice none 0 0] : Value), by kernel_rfl, by kernel_rfl, by kernel_rfl, by kernel_rfl, by kernel_rfl⟩, ⟨_, Try.underlying81, by kernel_rfl⟩, by kernel_rfl, by kernel_rfl⟩
def ti89 : TI := ⟨.ptr 33, [.ptr], [.pointer none], 8⟩
theorem tiok89 : TIOk Try.prog 89 ti89 := ⟨⟨Try.t89, (.pointer none : Value), by kernel_rfl, by kernel_rfl, by kernel_rfl, by kernel_rfl, by kernel_rfl⟩, Try.underlying89, by kernel_rfl, by kernel_rfl⟩
def ti103 : TI := ⟨.struct [(2, 0), (2, 1), (2, 2), (2, 3), (51, 4), (55, 5)], [.int .i64, .int .i64, .int .i64, .int .i64, .slice, .slice], [.int .i64 0, .int .i64 0, .int .i64 0, .int .i64 0, .slice none 0 0, .slice none 0 0], 80⟩
theorem tiok103 : TIOk Try.prog 103 ti103 := ⟨⟨Try.t103, (.agg #[.int .i64 0, .int .i64 0, .int .i64 0, .int .i64 0, .slice none 0 0, .slice none 0 0] : Value), by kernel_rfl, by kernel_rfl, by kernel_rfl, by kernel_rfl, by kernel_rfl⟩, ⟨_, Try.underlying103, by kernel_rfl⟩, by kernel_rfl, by kernel_rfl⟩
def tt : Tab := [(2, ti2), (3, ti3), (4, ti4), (5, ti5), (22, ti22), (23, ti23), (24, ti24), (26, ti26), (29, ti29), (30, ti30), (31, ti31), (33, ti33), (38, ti38), (49, ti49), (50, ti50), (51, ti51), (53, ti53), (54, ti54), (55, ti55), (57, ti57), (58, ti58), (60, ti60), (62, ti62), (64, ti64), (66, ti66), (75, ti75), (77, ti77), (79, ti79), (81, ti81), (89, ti89), (103, ti103)]
theorem tt_ok : TabOk Try.prog tt := ⟨tiok2, tiok3, tiok4, tiok5, tiok22, tiok23, tiok24, tiok26, tiok29, tiok30, tiok31, tiok33, tiok38, tiok49, tiok50, tiok51, tiok53, tiok54, tiok55, tiok57, tiok58, tiok60, tiok62, tiok64, tiok66, tiok75, tiok77, tiok79, tiok81, tiok89, tiok103, trivial⟩
theorem mix : Try.prog.follows .mixedOrders = true := by kernel_rfl
end Go.Proofs.Ytagjjhfhfjdcaaa
