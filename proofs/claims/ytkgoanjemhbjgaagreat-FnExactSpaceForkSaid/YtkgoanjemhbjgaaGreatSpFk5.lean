/- Part 5 of 6: plain readings of code, rules for them, and a proof over them, joined by a program. Conditions: none. -/
import Derived.Test.YtkgoanjemhbjgaaGreatSpFk4
/- Spaces: the tables of a space: what is found, and the reference's side. Conditions: none. -/
set_option linter.unusedVariables false
set_option linter.unusedSimpArgs false
namespace Go.Proofs.YtkgoanjemhbjgaaGreat
open Go Go.Den
/-- An entry at a level: none: it must not be; a page; or a table. -/
def cls (x lvl : Int) : Option Bool :=
  if kindS x lvl < 0 ∨ (kindS x lvl = 1 ∧ 0 < lvl) then none else if kindS x lvl = 0 then some false else some true
def scanT (x : Int → Int) (lvl : Int) (rec : Int → List Int → Option (List Int)) : Nat → List Int → Bool → Option (List Int × Bool)
  | 0, S, any => some (S, any)
  | k + 1, S, any => if x (31 - (k : Int)) = 0 then scanT x lvl rec k S any else match cls (x (31 - (k : Int))) lvl with
    | none => none
    | some true => scanT x lvl rec k S true
    | some false => match rec (efr (x (31 - (k : Int)))) S with
      | none => none
      | some S' => scanT x lvl rec k S' true
def entAt (m : List Int) (t i : Int) : Int := word m (t * 256 + 8 * i)
def tblStep (m : List Int) (free : List Bool) (lvl : Nat) (rec : Int → List Int → Option (List Int)) (t : Int) (S : List Int) : Option (List Int) :=
  if t < 0 ∨ (free.length : Int) ≤ t ∨ free.getD t.toNat false = true ∨ t ∈ S then none
  else match scanT (entAt m t) lvl rec 32 (S ++ [t]) (decide (lvl = 2)) with
    | some (S', true) => some S'
    | _ => none
def tblF (m : List Int) (free : List Bool) : Nat → Int → List Int → Option (List Int)
  | 0 => tblStep m free 0 (fun _ _ => none)
  | n + 1 => tblStep m free (n + 1) (tblF m free n)
def Adds (c : Nat) (rec : Int → List Int → Option (List Int)) : Prop := ∀ t S S', rec t S = some S' → ∃ add, S' = S ++ add ∧ add.length ≤ c
theorem scanT_adds {x : Int → Int} {lvl : Int} {rec : Int → List Int → Option (List Int)} {c : Nat} (hr : Adds c rec) : ∀ (k : Nat) (S : List Int) (any : Bool) (S' : List Int) (any' : Bool), scanT x lvl rec k S any = some (S', any') → ∃ add, S' = S ++ add ∧ add.length ≤ k * c
  | 0, S, any, S', any', h => by unfold scanT at h; injection h with h; injection h with h1 h2; exact ⟨[], by rw [h1, List.append_nil], by simp⟩
  | k + 1, S, any, S', any', h => by
    unfold scanT at h
    have hk : k * c ≤ (k + 1) * c := Nat.mul_le_mul_right c (by omega)
    split at h
    · obtain ⟨add, h1, h2⟩ := scanT_adds hr k _ _ _ _ h
      exact ⟨add, h1, by omega⟩
    · split at h
      · cases h
      · obtain ⟨add, h1, h2⟩ := scanT_adds hr k _ _ _ _ h
        exact ⟨add, h1, by omega⟩
      · split at h
        · cases h
        · rename_i S1 hS1
          obtain ⟨a1, h3, h4⟩ := hr _ _ _ hS1
          obtain ⟨add, h1, h2⟩ := scanT_adds hr k _ _ _ _ h
          exact ⟨a1 ++ add, by rw [h1, h3, List.append_assoc], by rw [List.length_append, Nat.succ_mul]; omega⟩
theorem tblStep_adds {m : List Int} {free : List Bool} {lvl : Nat} {rec : Int → List Int → Option (List Int)} {c : Nat} (hr : Adds c rec) : Adds (32 * c + 1) (tblStep m free lvl rec) := by
  intro t S S' h
  unfold tblStep at h
  split at h
  · cases h
  · split at h
    · rename_i S1 hS1
      injection h with h
      subst h
      obtain ⟨add, h1, h2⟩ := scanT_adds hr 32 _ _ _ _ hS1
      exact ⟨t :: add, by rw [h1]; simp, by simp; omega⟩
    · cases h
theorem adds0 : Adds 0 (fun _ _ => none) := fun t S S' h => by cases h
theorem tblF_adds {m : List Int} {free : List Bool} : Adds 1 (tblF m free 0) ∧ Adds 33 (tblF m free 1) ∧ Adds 1057 (tblF m free 2) :=
  have h0 : Adds 1 (tblF m free 0) := tblStep_adds adds0
  have h1 : Adds 33 (tblF m free 1) := tblStep_adds h0
  ⟨h0, h1, tblStep_adds h1⟩
/-! ## Which tables were seen -/
def seenL (n : Nat) (S : List Int) : List Bool := (List.range n).map (fun (i : Nat) => decide ((i : Int) ∈ S))
theorem seenL_len (n : Nat) (S : List Int) : (seenL n S).length = n := by simp [seenL]
theorem seenL_get {n : Nat} {S : List Int} {i : Nat} (h : i < n) : (bools (seenL n S))[i]? = some (.bool (decide ((i : Int) ∈ S))) := by
  unfold bools seenL
  rw [List.getElem?_map, List.getElem?_map, List.getElem?_range h]
  rfl
theorem seenL_set {n : Nat} {S : List Int} {i : Nat} (h : i < n) : (seenL n S).set i true = seenL n (S ++ [(i : Int)]) := by
  apply List.ext_getElem?
  intro j
  unfold seenL
  rw [List.getElem?_set]
  by_cases hij : i = j
  · subst hij
    rw [if_pos rfl, if_pos (by simpa using h), List.getElem?_map, List.getElem?_range h]
    simp
  · rw [if_neg hij, List.getElem?_map, List.getElem?_map]
    by_cases hj : j < n
    · rw [List.getElem?_range hj]
      simp [Ne.symm hij]
      intro hh
      exact absurd (by omega) hij
    · rw [List.getElem?_eq_none (by simp; omega)]; rfl
theorem seenL_nil (n : Nat) : seenL n [] = List.replicate n false := by
  apply List.ext_getElem?
  intro j
  unfold seenL
  rw [List.getElem?_map, List.getElem?_replicate]
  by_cases hj : j < n
  · rw [List.getElem?_range hj, if_pos hj]; simp
  · rw [if_neg hj, List.getElem?_eq_none (by simp; omega)]; rfl
theorem bools_get {l : List Bool} {i : Nat} (h : i < l.length) : (bools l)[i]? = some (.bool (l.getD i false)) := by
  unfold bools
  rw [List.getElem?_map, List.getElem?_eq_getElem h]
  simp [List.getD_eq_getElem?_getD, List.getElem?_eq_getElem h]
/-- Bytes that are older than what has turned. -/
theorem Bytes.only {S : Nat → Prop} {w w' : World} {s : Sl} {m : List Int} (h : Bytes w s m) (o : Only S w w') (hS : m ≠ [] → ∀ p, s.a = some p → p.block < w.heap.size → ¬ S p.block) : Bytes w' s m := by
  refine ⟨h.len, h.cap, ⟨h.row.1, fun hn => ?_⟩, h.rng, h.small⟩
  have hne : m ≠ [] := fun hm => by have := h.len; rw [hm] at this; simp at this; omega
  obtain ⟨p, hp, hc⟩ := h.row.2 hn
  refine ⟨p, hp, fun j v hj => ?_⟩
  have hcj := hc j v hj
  refine Only.cell o hcj ?_
  rw [add_block]
  refine hS hne p hp ?_
  have hlt : (p.add j).block < w.heap.size := by
    unfold World.cell? at hcj
    rcases hb : w.heap[(p.add j).block]? with _ | o
    · rw [hb] at hcj; exact absurd hcj (by simp)
    · exact (Array.getElem?_eq_some_iff.1 hb).1
  rwa [add_block] at hlt
theorem Bytes.old {w : World} {s : Sl} {m : List Int} (h : Bytes w s m) (hm : m ≠ []) {p : Addr} (hp : s.a = some p) : p.block < w.heap.size := by
  have hl : 0 < m.length := List.length_pos_iff.2 hm
  obtain ⟨q, hq, hc⟩ := h.row.cell (i := 0) (v := .int .u8 m[0]) (by rw [List.getElem?_map, List.getElem?_eq_getElem hl]; rfl)
  rw [hp] at hq; cases hq
  unfold World.cell? at hc
  rw [add_zero] at hc
  rcases hb : w.heap[p.block]? with _ | o
  · rw [hb] at hc; exact absurd hc (by simp)
  · exact (Array.getElem?_eq_some_iff.1 hb).1
structure TCtx (w : World) (sm : Sl) (m : List Int) (bf bs : Nat) (free : List Bool) (S : List Int) : Prop where
  mem : Bytes w sm m
  mo : m ≠ [] → ∀ p, sm.a = some p → p.block ≠ bs
  fr : Blk w bf (bools free)
  seen : Blk w bs (bools (seenL free.length S))
  ne : bf ≠ bs
  ml : m.length = 256 * free.length
  few : free.length ≤ 1024
theorem TCtx.only {w w' : World} {sm : Sl} {m : List Int} {bf bs : Nat} {free : List Bool} {S S' : List Int} (h : TCtx w sm m bf bs free S) (o : Only (fun k => k = bs) w w') (hs : Blk w' bs (bools (seenL free.length S'))) : TCtx w' sm m bf bs free S' :=
  ⟨h.mem.only o (fun hm p hp _ => h.mo hm p hp), h.mo, h.fr.only o h.ne, hs, h.ne, h.ml, h.few⟩
def TabV (sm : Sl) (m : List Int) (bf bs : Nat) (free : List Bool) (S : List Int) (res : Option (List Int)) (w : World) (v : Value) (w' : World) : Prop :=
  ∃ (l : Sl) (b : Bool), v = .tuple #[.slice l.a l.len l.cap, .bool b] ∧ Only (fun k => k = bs) w w' ∧ (res = none → b = false) ∧
    ∀ S', res = some S' → b = true ∧ Blk w' bs (bools (seenL free.length S')) ∧ ∃ add, S' = S ++ add ∧ OwnS w' w.heap.size l 1 (add.map (Value.int .i64))
theorem kindS_cases (x lvl : Int) : kindS x lvl = -4 ∨ kindS x lvl = -5 ∨ kindS x lvl = -6 ∨ kindS x lvl = 0 ∨ kindS x lvl = 1 := by
  unfold kindS
  repeat' split
  all_goals omega
theorem kindS_small {x lvl : Int} (h : kindS x lvl = 0 ∨ kindS x lvl = 1) : x < 1048576 := by
  unfold kindS at h
  by_cases hx : 1048576 ≤ x
  · rw [if_pos hx] at h
    split at h <;> omega
  · omega
theorem c74 {lvl : Nat} (hlv : lvl ≤ 2) {sm : Sl} {m : List Int} {bf bs : Nat} {free : List Bool} {rec : Int → List Int → Option (List Int)} (hadd : Adds 100 rec)
    (hrec : lvl = 0 ∨ ∀ {w : World} {t : Int} {S : List Int}, TCtx w sm m bf bs free S → CallW Tryz.prog 74 #[.slice sm.a sm.len sm.cap, .slice (some ⟨bf, 0, none⟩) free.length free.length, .slice (some ⟨bs, 0, none⟩) free.length free.length, .int .i64 t, .int .i64 ((lvl : Int) - 1)] w (TabV sm m bf bs free S (rec t S) w))
    {w : World} {t : Int} {S : List Int} (h : TCtx w sm m bf bs free S) :
    CallW Tryz.prog 74 #[.slice sm.a sm.len sm.cap, .slice (some ⟨bf, 0, none⟩) free.length free.length, .slice (some ⟨bs, 0, none⟩) free.length free.length, .int .i64 t, .int .i64 (lvl : Int)] w (TabV sm m bf bs free S (tblStep m free lvl rec t S) w) := by
  refine CallW.mono (go74 (a0 := sm) (a1 := ⟨some ⟨bf, 0, none⟩, free.length, free.length⟩) (a2 := ⟨some ⟨bs, 0, none⟩, free.length, free.length⟩) (K := TabV sm m bf bs free S (tblStep m free lvl rec t S) w) ?_) (fun _ _ h => h)
  unfold W74
  have hfew := h.few
  have hml := h.ml
  have hblt := h.seen.lt
  -- the table must not be
  have bad : ∀ w', Only (fun k => k = bs) w w' → tblStep m free lvl rec t S = none → ∀ l : Sl, TabV sm m bf bs free S (tblStep m free lvl rec t S) w (.tuple #[.slice l.a l.len l.cap, .bool false]) w' := fun w' o hn l => ⟨l, false, rfl, o, fun _ => rfl, fun S' hS => by rw [hn] at hS; cases hS⟩
  rw [join_or]
  refine JoinW.cut1 (fun (b : Bool) w' => (b = true ↔ t < 0 ∨ (free.length : Int) ≤ t ∨ free.getD t.toNat false = true) ∧ w' = w) ?_ ?_
  · refine BIf.of (fun h1 => ⟨?_, rfl⟩) (fun h1 => ?_)
    · simp only [Bool.or_eq_true, decide_eq_true_eq] at h1
      exact ⟨fun _ => by omega, fun _ => rfl⟩
    · simp only [Bool.or_eq_false_iff, decide_eq_false_iff_not] at h1
      refine ⟨by omega, by show t < ((free.length : Nat) : Int); omega, _, rfl, free.getD t.toNat false, ?_, ?_, rfl⟩
      · rw [add_mk, h.fr.cell, Nat.zero_add, Nat.mul_one, bools_get (by omega)]
      · exact ⟨fun hh => .inr (.inr hh), fun hh => by rcases hh with hh | hh | hh; omega; omega; exact hh⟩
  rintro (b : Bool) w0 ⟨hiff, rfl⟩
  refine JoinW.cut1 (fun (b : Bool) w' => (b = true ↔ t < 0 ∨ (free.length : Int) ≤ t ∨ free.getD t.toNat false = true ∨ t ∈ S) ∧ w' = w0) ?_ ?_
  · refine BIf.of (fun h1 => ⟨?_, rfl⟩) (fun h1 => ?_)
    · have := hiff.1 h1
      exact ⟨fun _ => by rcases this with h | h | h; exact .inl h; exact .inr (.inl h); exact .inr (.inr (.inl h)), fun _ => rfl⟩
    · have h2 : ¬ (t < 0 ∨ (free.length : Int) ≤ t ∨ free.getD t.toNat false = true) := fun hh => by rw [hiff.2 hh] at h1; cases h1
      refine ⟨by omega, by show t < ((free.length : Nat) : Int); omega, _, rfl, decide (t ∈ S), ?_, ?_, rfl⟩
      · rw [add_mk, h.seen.cell, Nat.zero_add, Nat.mul_one, seenL_get (by omega), show ((t.toNat : Nat) : Int) = t by omega]
      · rw [decide_eq_true_eq]
        exact ⟨fun hh => .inr (.inr (.inr hh)), fun hh => by
          rcases hh with hh | hh | hh | hh
          · exact absurd (.inl hh) h2
          · exact absurd (.inr (.inl hh)) h2
          · exact absurd (.inr (.inr hh)) h2
          · exact hh⟩
  clear hiff b
  rintro (b : Bool) w0 ⟨hiff, rfl⟩
  refine BIf.of (fun hb => ?_) (fun hb => ?_)
  · refine alloc_step (fun w1 e1 _ _ => bad _ e1.any ?_ ⟨_, 0, 0⟩)
    unfold tblStep
    rw [if_pos (hiff.1 hb)]
  have hok : ¬ (t < 0 ∨ (free.length : Int) ≤ t ∨ free.getD t.toNat false = true ∨ t ∈ S) := fun hh => by rw [hiff.2 hh] at hb; cases hb
  have hres : tblStep m free lvl rec t S = match scanT (entAt m t) lvl rec 32 (S ++ [t]) (decide (lvl = 2)) with | some (S', true) => some S' | _ => none := by
    unfold tblStep; rw [if_neg hok]
  generalize hR : scanT (entAt m t) lvl rec 32 (S ++ [t]) (decide (lvl = 2)) = R at hres
  have ht0 : 0 ≤ t := by omega
  have ht1 : t < free.length := by omega
  refine ⟨by omega, by show t < ((free.length : Nat) : Int); omega, _, rfl, set1_step h.seen (by rw [bools_len, seenL_len]; omega) (fun w12 o12 hs12 n12 => ?_)⟩
  rw [bools_set, seenL_set (by omega), show ((t.toNat : Nat) : Int) = t by omega] at hs12
  refine alloc_step (fun w13 e13 hl13 n13 => ?_)
  have o13 : Only (fun k => k = bs) w0 w13 := o12.step e13 (fun i hi hf => hf.elim)
  have own13 : OwnS w13 w0.heap.size ⟨some ⟨w12.heap.size, 0, none⟩, 1, 1⟩ 1 ([t].map (Value.int .i64)) := OwnS.new hl13 (by omega) rfl
  refine LoopW.m3 (fun (l : Sl) (any : Bool) (i : Int) w' => ∃ (k : Nat) (add : List Int), k ≤ 32 ∧ i = 32 - (k : Int) ∧ scanT (entAt m t) lvl rec k (S ++ add) (any || decide (lvl = 2)) = R ∧ add.length ≤ 1 + (32 - k) * 100 ∧ Only (fun k => k = bs) w0 w' ∧ Blk w' bs (bools (seenL free.length (S ++ add))) ∧ OwnS w' w0.heap.size l 1 (add.map (Value.int .i64))) (fun _ _ (i : Int) _ => (32 - i).toNat)
    ⟨32, [t], by omega, by omega, by rw [Bool.false_or]; exact hR, by simp, o13, hs12.ext e13, own13⟩ ?_
  rintro (l : Sl) (any : Bool) (i : Int) w18 ⟨k, add, hk, rfl, hsc, hal, o18, hs18, own18⟩ J hJ
  have h18 := h.only o18 hs18
  have z18 := o18.size
  refine BIf.dec (fun hlt => ?_) (fun hge => ?_)
  · obtain ⟨j, rfl⟩ : ∃ j, k = j + 1 := ⟨k - 1, by omega⟩
    have hidx : (32 : Int) - ((j + 1 : Nat) : Int) = 31 - (j : Int) := by omega
    rw [hidx]
    rw [w64 (n := t * 256) (by omega) (by omega), w64 (n := 8 * (31 - (j : Int))) (by omega) (by omega), w64 (n := t * 256 + 8 * (31 - (j : Int))) (by omega) (by omega)]
    refine (c108 h18.mem (by omega) (by omega)).mono ?_
    rintro _ w18 ⟨rfl, rfl⟩
    have hw := word_rng h.mem.rng (t * 256 + 8 * (31 - (j : Int)))
    have hwe : word m (t * 256 + 8 * (31 - (j : Int))) = entAt m t (31 - (j : Int)) := rfl
    rw [hwe] at hw ⊢
    rw [w64 (n := 31 - (j : Int) + 1) (by omega) (by omega)]
    unfold scanT at hsc
    generalize entAt m t (31 - (j : Int)) = x at *
    refine ⟨x, rfl, BIf.eq (fun hx => ?_) (fun hx => ?_)⟩
    · rw [if_pos hx] at hsc
      exact hJ _ _ _ _ ⟨j, add, by omega, by omega, hsc, by omega, o18, hs18, own18⟩ (by omega)
    · rw [if_neg hx] at hsc
      refine (c113 hw.1 hw.2 (by omega) (by omega)).mono ?_
      rintro _ w23 ⟨rfl, e23⟩
      have o23 : Only (fun k => k = bs) w0 w23 := o18.step e23 (fun i hi hf => hf.elim)
      have hs23 := hs18.ext e23
      have own23 := own18.ext e23
      refine ⟨_, rfl, ?_⟩
      refine JoinW.cut1 (fun (b : Bool) w' => (b = true ↔ (kindS x lvl < 0 ∨ (kindS x lvl = 1 ∧ 0 < (lvl : Int)))) ∧ w' = w23) ?_ ?_
      · refine BIf.dec (fun h1 => ⟨⟨fun _ => .inl h1, fun _ => rfl⟩, rfl⟩) (fun h1 => BIf.eq (fun h2 => ⟨?_, rfl⟩) (fun h2 => ⟨?_, rfl⟩))
        · rw [decide_eq_true_eq]; exact ⟨fun h3 => .inr ⟨h2, h3⟩, fun h3 => by omega⟩
        · exact ⟨(fun h => nomatch h), fun h3 => by omega⟩
      rintro (b : Bool) w23 ⟨hb2, rfl⟩
      refine BIf.of (fun hbt => ?_) (fun hbf => ?_)
      · have : cls x lvl = none := by unfold cls; rw [if_pos (hb2.1 hbt)]
        rw [this] at hsc
        refine bad _ o23 ?_ l
        rw [hres, ← hsc]
      · have hnb : ¬ (kindS x lvl < 0 ∨ (kindS x lvl = 1 ∧ 0 < (lvl : Int))) := fun hh => by rw [hb2.2 hh] at hbf; cases hbf
        refine BIf.eq (fun h0 => ?_) (fun h0 => ?_)
        · have hcl : cls x lvl = some false := by unfold cls; rw [if_neg hnb, if_pos h0]
          rw [hcl] at hsc
          have hxs := kindS_small (.inl h0)
          rcases hrec with hl0 | hrec
          · -- at level 0 there is none
            exfalso
            subst hl0
            unfold kindS at h0
            repeat' (split at h0)
            all_goals first
              | omega
              | (rename_i h9; simp at h9)
          refine (c28 hw.1 hxs).mono ?_
          rintro _ w29 ⟨rfl, e29⟩
          refine ⟨_, _, _, _, _, _, _, _, _, _, rfl, ?_⟩
          refine alloc_step (fun w40 e40 hz n40 => put_step hz rfl rfl (fun w41 o41 hz n41 => ?_))
          have e41 : Ext w23 w41 := Ext.own (Only.trans e29 e40) o41 (fun k hk => by have := e29.size; omega)
          have o41' : Only (fun k => k = bs) w0 w41 := o23.step e41 (fun i hi hf => hf.elim)
          have h41 := h.only o41' (hs23.ext e41)
          refine ⟨_, hz.cell 8, ?_⟩
          rw [w64 (by omega) (by omega)]
          refine (hrec h41).mono ?_
          rintro _ w44 ⟨l2, b2, rfl, o44, hn44, hs44⟩
          have o44' : Only (fun k => k = bs) w0 w44 := o41'.step o44 (fun i hi hf => hf)
          refine ⟨l2, b2, rfl, ?_⟩
          cases hr : rec (efr x) (S ++ add) with
          | none =>
            rw [hr] at hsc
            rw [hn44 hr]
            refine BIf.t rfl (bad _ o44' ?_ l)
            rw [hres, ← hsc]
          | some S2 =>
            rw [hr] at hsc
            obtain ⟨rfl, hseen, add2, hS2, own2⟩ := hs44 S2 hr
            obtain ⟨add3, hS3, hlen3⟩ := hadd _ _ _ hr
            have hadd2 : add3 = add2 := List.append_cancel_left (hS3.symm.trans hS2)
            subst hadd2
            refine BIf.f rfl ?_
            have own44 : OwnS w44 w0.heap.size l 1 (add.map (Value.int .i64)) := (own23.ext e41).only o44 (fun b _ hb0 _ hbb => by omega)
            have hll := own44.len
            have hll2 := own2.len
            rw [List.length_map, Nat.mul_one] at hll hll2
            have z44 := o44'.size
            have own2r := own2.row
            have hl2cap : RowAt w44 l2.a (l2.len * 1) (add3.map (Value.int .i64)) := own2r
            refine AppendW.own (b0 := w0.heap.size) (z := 1) own44 hl2cap rfl rfl (by decide) (by show (l.len + l2.len) * 8 ≤ _; omega) plain_int (by omega) (fun s' w48 h1 h2 h3 h4 => ?_)
            have o48 : Only (fun k => k = bs) w0 w48 := o44'.step h3 (fun i hi hf => by have := hf.1; omega)
            rw [← List.map_append] at h2
            refine hJ _ _ _ _ ⟨j, add ++ add3, by omega, by omega, ?_, by rw [List.length_append]; omega, o48, ?_, h2⟩ (by omega)
            · rw [Bool.true_or, ← List.append_assoc, ← hS3]; exact hsc
            · rw [← List.append_assoc, ← hS3]
              exact hseen.only h3 (fun hf => by have := hf.1; omega)
        · have hcl : cls x lvl = some true := by unfold cls; rw [if_neg hnb, if_neg h0]
          rw [hcl] at hsc
          refine hJ _ _ _ _ ⟨j, add, by omega, by omega, ?_, by omega, o23, hs23, own23⟩ (by omega)
          rw [Bool.true_or]; exact hsc
  · have hk0 : k = 0 := by omega
    subst hk0
    unfold scanT at hsc
    rw [join_or]
    have hd : ((lvl : Int) == 2) = decide (lvl = 2) := by
      apply Bool.eq_iff_iff.2
      rw [beq_iff_eq, decide_eq_true_eq]; omega
    rw [hd]
    refine ⟨l, _, rfl, o18, ?_, ?_⟩
    · rw [hres, ← hsc]
      intro hn
      cases hany : (any || decide (lvl = 2)) with
      | false => rfl
      | true => rw [hany] at hn; cases hn
    · rw [hres, ← hsc]
      intro S' hS
      cases hany : (any || decide (lvl = 2)) with
      | false => rw [hany] at hS; cases hS
      | true =>
        rw [hany] at hS
        injection hS with hS
        subst hS
        exact ⟨rfl, hs18, add, rfl, own18⟩
end Go.Proofs.YtkgoanjemhbjgaaGreat

/- Spaces: the reference's side of a space that can be; an entry on the program's side. Conditions: none. -/
set_option linter.unusedVariables false
set_option linter.unusedSimpArgs false
namespace Go.Proofs.YtkgoanjemhbjgaaGreat
open Go Go.Den
theorem specTab {sm : Sl} {m : List Int} {bf bs : Nat} {free : List Bool} {w : World} {t : Int} {S : List Int} (h : TCtx w sm m bf bs free S) :
    CallW Tryz.prog 74 #[.slice sm.a sm.len sm.cap, .slice (some ⟨bf, 0, none⟩) free.length free.length, .slice (some ⟨bs, 0, none⟩) free.length free.length, .int .i64 t, .int .i64 2] w (TabV sm m bf bs free S (tblF m free 2 t S) w) := by
  have h0 : ∀ {w : World} {t : Int} {S : List Int}, TCtx w sm m bf bs free S → CallW Tryz.prog 74 #[.slice sm.a sm.len sm.cap, .slice (some ⟨bf, 0, none⟩) free.length free.length, .slice (some ⟨bs, 0, none⟩) free.length free.length, .int .i64 t, .int .i64 (((1 : Nat) : Int) - 1)] w (TabV sm m bf bs free S (tblF m free 0 t S) w) :=
    fun {w t S} h => c74 (lvl := 0) (by omega) (rec := fun _ _ => none) (fun t S S' hh => by cases hh) (.inl rfl) h
  have h1 : ∀ {w : World} {t : Int} {S : List Int}, TCtx w sm m bf bs free S → CallW Tryz.prog 74 #[.slice sm.a sm.len sm.cap, .slice (some ⟨bf, 0, none⟩) free.length free.length, .slice (some ⟨bs, 0, none⟩) free.length free.length, .int .i64 t, .int .i64 (((2 : Nat) : Int) - 1)] w (TabV sm m bf bs free S (tblF m free 1 t S) w) :=
    fun {w t S} h => c74 (lvl := 1) (by omega) (rec := tblF m free 0) (fun t S S' hh => by obtain ⟨a, h1, h2⟩ := tblF_adds.1 t S S' hh; exact ⟨a, h1, by omega⟩) (.inr h0) h
  exact c74 (lvl := 2) (by omega) (rec := tblF m free 1) (fun t S S' hh => by obtain ⟨a, h1, h2⟩ := tblF_adds.2.1 t S S' hh; exact ⟨a, h1, by omega⟩) (.inr h1) h
open Classical in
/-- The tables of a space; none: it is no space. -/
noncomputable def spaceT (m : List Int) (T : Int) (fr : List DBlock) (root : Int) : Option (List Int) := if POk m T fr then tblF m (freeL T fr) 2 root [] else none
theorem spaceT_pos {m : List Int} {T : Int} {fr : List DBlock} {root : Int} (h : POk m T fr) : spaceT m T fr root = tblF m (freeL T fr) 2 root [] := by unfold spaceT; rw [if_pos h]
theorem spaceT_neg {m : List Int} {T : Int} {fr : List DBlock} {root : Int} (h : ¬ POk m T fr) : spaceT m T fr root = none := by unfold spaceT; rw [if_neg h]
def SpV (m : List Int) (T : Int) (fr : List DBlock) (root : Int) (w : World) (v : Value) (w' : World) : Prop :=
  ∃ (l : Sl), v = .tuple #[.slice l.a l.len l.cap, .bool (spaceT m T fr root).isSome] ∧ Ext w w' ∧ ∀ S', spaceT m T fr root = some S' → OwnS w' w.heap.size l 1 (S'.map (Value.int .i64))
theorem POk.len {m : List Int} {T : Int} {fr : List DBlock} (h : POk m T fr) : m.length = 256 * (freeL T fr).length := by
  rw [freeL_len]
  have h1 := h.1
  have h2 := h.2.2.2
  omega
theorem c24 {sm sf : Sl} {m : List Int} {T : Int} {fr : List DBlock} {root : Int} {w : World} (hm : Bytes w sm m) (hf : FrAt w sf fr) : CallW Tryz.prog 24 #[.agg #[.slice sm.a sm.len sm.cap, .int .i64 T, .slice sf.a sf.len sf.cap], .int .i64 root] w (SpV m T fr root w) := by
  refine go24 ?_
  unfold W24
  refine alloc_step (fun w1 e hb n1 => ?_)
  refine ⟨sm, hb.cell 0, _, hb.cell 1, sf, hb.cell 2, (c73 (hm.ext e) (hf.ext e)).mono ?_⟩
  rintro _ w6 ⟨b, rfl, hiff, e6⟩
  have e06 := Only.trans e e6
  have hb6 := hb.ext e6
  have z1 := e.size
  have z6 := e6.size
  refine ⟨b, rfl, BIf.of (fun hn => ?_) (fun hy => ?_)⟩
  · have hno : ¬ POk m T fr := fun h => by rw [hiff.2 h] at hn; cases hn
    refine alloc_step (fun w8 e8 _ _ => ⟨⟨some ⟨w6.heap.size, 0, none⟩, 0, 0⟩, ?_, Only.trans e06 e8, fun S' hS => ?_⟩)
    · rw [spaceT_neg hno]; rfl
    · rw [spaceT_neg hno] at hS; cases hS
  have hok : POk m T fr := hiff.1 (by simpa using hy)
  have hT0 := hok.2.2.1.1
  have hT1 := hok.2.2.1.2.1
  have e7 := ext_drew w6
  have zd : w6.drew.heap.size = w6.heap.size := rfl
  have hb7 := hb6.ext e7
  have e07 := Only.trans e06 e7
  generalize w6.drew = w7 at *
  -- behind both orders
  have fin : ∀ (w31 : World) (bf bs : Nat), Ext w w31 → w.heap.size ≤ bf → w.heap.size ≤ bs → bf ≠ bs → Blk w31 bf (bools (freeL T fr)) → Blk w31 bs (bools (List.replicate T.toNat false)) →
      CallW Tryz.prog 74 #[.slice sm.a sm.len sm.cap, .slice (some ⟨bf, 0, none⟩) T.toNat T.toNat, .slice (some ⟨bs, 0, none⟩) T.toNat T.toNat, .int .i64 root, .int .i64 2] w31 (fun v w' => ∃ (l : Sl) (b : Bool), v = .tuple #[.slice l.a l.len l.cap, .bool b] ∧ SpV m T fr root w (.tuple #[.slice l.a l.len l.cap, .bool b]) w') := by
    intro w31 bf bs e31 hf0 hs0 hne hbf hbs
    have hctx : TCtx w31 sm m bf bs (freeL T fr) [] := ⟨hm.ext e31, fun hne p hp => by have := hm.old hne hp; omega, hbf, by rw [seenL_nil, freeL_len]; exact hbs, hne, hok.len, by rw [freeL_len]; omega⟩
    have hc := specTab (t := root) hctx
    rw [freeL_len] at hc
    refine hc.mono ?_
    rintro _ w36 ⟨l, b, rfl, o, hn, hs⟩
    have z31 := e31.size
    refine ⟨l, b, rfl, l, ?_, e31.own o (fun k hk => by omega), fun S' hS => ?_⟩
    · rw [spaceT_pos hok]
      cases hr : tblF m (freeL T fr) 2 root [] with
      | none => rw [hn hr]; rfl
      | some S' => rw [(hs S' hr).1]; rfl
    · rw [spaceT_pos hok] at hS
      obtain ⟨_, _, add, hadd, own⟩ := hs S' hS
      rw [hadd, List.nil_append]
      exact own.mono (by omega)
  refine ⟨sm, hb7.cell 0, _, hb7.cell 1, sf, hb7.cell 2, _, hb7.cell 1, ?_, ?_, trivial⟩
  · refine (c75 (hf.ext e07) hok.2.2.1).mono ?_
    rintro _ w27 ⟨bf, rfl, hbf0, hbf, e27⟩
    have hb27 := hb7.ext e27
    have z27 := e27.size
    refine ⟨⟨some ⟨bf, 0, none⟩, T.toNat, T.toNat⟩, rfl, ⟨_, hb27.cell 1, rfl⟩, ⟨sm, hb27.cell 0, rfl⟩, ⟨by omega, by omega, by omega, by omega, alloc_step (fun w31 e31 hs31 n31 => ?_)⟩, trivial⟩
    have hb31 := hb27.ext e31
    refine ⟨⟨_, hb31.cell 1, sf, hb31.cell 2, rfl⟩, ⟨sm, hb31.cell 0, rfl⟩, ?_, trivial⟩
    have hbl := hbf.lt
    refine (fin w31 bf w27.heap.size (Only.trans e07 (Only.trans e27 e31)) (by omega) (by omega) (by omega) (hbf.ext e31) (by rw [show zerosOf ti4.zero T.toNat = bools (List.replicate T.toNat false) from zeros_bool _] at hs31; exact hs31)).mono ?_
    rintro _ w36 ⟨l, b, rfl, hV⟩
    exact ⟨l, b, rfl, hV⟩
  · refine ⟨by omega, by omega, by omega, by omega, alloc_step (fun w13 e13 hs13 n13 => ?_)⟩
    have hb13 := hb7.ext e13
    have hs13 : Blk w13 w7.heap.size (bools (List.replicate T.toNat false)) := by rw [show zerosOf ti4.zero T.toNat = bools (List.replicate T.toNat false) from zeros_bool _] at hs13; exact hs13
    refine ⟨⟨_, hb13.cell 1, sf, hb13.cell 2, rfl⟩, ⟨sm, hb13.cell 0, rfl⟩, ?_, trivial⟩
    refine (c75 (hf.ext (Only.trans e07 e13)) hok.2.2.1).mono ?_
    rintro _ w18 ⟨bf, rfl, hbf0, hbf, e18⟩
    have hb18 := hb13.ext e18
    refine ⟨⟨some ⟨bf, 0, none⟩, T.toNat, T.toNat⟩, rfl, ⟨_, hb18.cell 1, rfl⟩, ⟨sm, hb18.cell 0, rfl⟩, ?_, trivial⟩
    refine (fin w18 bf w7.heap.size (Only.trans e07 (Only.trans e13 e18)) (by omega) (by omega) (by omega) hbf (hs13.ext e18)).mono ?_
    rintro _ w36 ⟨l, b, rfl, hV⟩
    exact ⟨l, b, rfl, hV⟩
theorem c17 {sm sf : Sl} {m : List Int} {T : Int} {fr : List DBlock} {root : Int} {w : World} (hm : Bytes w sm m) (hf : FrAt w sf fr) : CallW Tryz.prog 17 #[.agg #[.slice sm.a sm.len sm.cap, .int .i64 T, .slice sf.a sf.len sf.cap], .int .i64 root] w (fun v w' => v = .bool (spaceT m T fr root).isSome ∧ Ext w w') := by
  refine go17 ?_
  unfold W17
  refine alloc_step (fun w1 e hb n1 => ?_)
  refine ⟨sm, hb.cell 0, _, hb.cell 1, sf, hb.cell 2, (c24 (hm.ext e) (hf.ext e)).mono ?_⟩
  rintro _ w6 ⟨l, rfl, e6, _⟩
  exact ⟨l, _, rfl, rfl, Only.trans e e6⟩
/-! ## What an entry is, as the program asks -/
theorem cls_eq {x : Int} {lvl : Nat} (hl : lvl ≤ 2) : cls x lvl =
    if (!ebit x 0 || decide (1048576 ≤ x)) = true then none
    else if (ebit x 1 || ebit x 2 || ebit x 3) = true then (if ((lvl : Int) != 0 || (ebit x 2 && !ebit x 1)) = true then none else some true)
    else if ((lvl : Int) == 0 || ebit x 4 || ebit x 5 || ebit x 6) = true then none else some false := by
  unfold cls kindS
  have h0 : efr x % pgs ((0 : Nat) : Int) = 0 := by unfold pgs; simp [Int.emod_one]
  generalize ebit x 0 = b0
  generalize ebit x 1 = b1
  generalize ebit x 2 = b2
  generalize ebit x 3 = b3
  generalize ebit x 4 = b4
  generalize ebit x 5 = b5
  generalize ebit x 6 = b6
  have hlv : lvl = 0 ∨ lvl = 1 ∨ lvl = 2 := by omega
  by_cases hx : 1048576 ≤ x
  · rw [if_pos hx]
    cases b0 <;> simp [hx]
  · rw [if_neg hx]
    rcases hlv with rfl | rfl | rfl
    · rw [h0]
      cases b0 <;> cases b1 <;> cases b2 <;> cases b3 <;> cases b4 <;> cases b5 <;> cases b6 <;> simp [hx]
    · generalize efr x % pgs ((1 : Nat) : Int) = r
      by_cases hr : r = 0 <;> cases b0 <;> cases b1 <;> cases b2 <;> cases b3 <;> cases b4 <;> cases b5 <;> cases b6 <;> simp [hx, hr]
    · generalize efr x % pgs ((2 : Nat) : Int) = r
      by_cases hr : r = 0 <;> cases b0 <;> cases b1 <;> cases b2 <;> cases b3 <;> cases b4 <;> cases b5 <;> cases b6 <;> simp [hx, hr]
theorem shr20 {x : Int} (h0 : 0 ≤ x) : (shrI .u64 x 20 != 0) = decide (1048576 ≤ x) := by
  rw [show (20 : Int) = ((20 : Nat) : Int) from rfl, shr_u64 (by omega)]
  apply Bool.eq_iff_iff.2
  rw [bne_iff_ne, decide_eq_true_eq, show ((2 ^ 20 : Nat) : Int) = 1048576 from rfl]
  omega
end Go.Proofs.YtkgoanjemhbjgaaGreat

/- Spaces: the tables of a space, on the program's side. Conditions: none. -/
set_option linter.unusedVariables false
set_option linter.unusedSimpArgs false
namespace Go.Proofs.YtkgoanjemhbjgaaGreat
open Go Go.Den
theorem map_step {w : World} {k : World → Prop} (h : ∀ w1, Ext w w1 → SetAt w1 w.heap.size [] → w1.heap.size = w.heap.size + 1 → k w1) : LetW (w.alloc (.map #[] 0)) k :=
  LetW_iff.2 (h _ (ext_alloc w _) (setAt_new w) (size_alloc w _))
/-- What the walk has captured: where each thing lies. -/
structure ICap where
  q0 : Nat
  q1 : Nat
  q2 : Nat
  q3 : Nat
  q4 : Nat
  bf : Nat
  bm : Nat
  bp : Nat
  b0 : Nat
def ICap.ptrs (c : ICap) : List Value := [.pointer (some ⟨c.q0, 0, none⟩), .pointer (some ⟨c.q1, 0, none⟩), .pointer (some ⟨c.q2, 0, none⟩), .pointer (some ⟨c.q3, 0, none⟩), .pointer (some ⟨c.q4, 0, none⟩)]
def ICap.S (c : ICap) (k : Nat) : Prop := k = c.bm ∨ k = c.q2 ∨ c.b0 ≤ k
structure ICtx (w : World) (c : ICap) (sm : Sl) (m : List Int) (free : List Bool) (x y : Value) : Prop where
  h0 : Blk w c.q0 [.slice (some ⟨c.bf, 0, none⟩) free.length free.length]
  hf : Blk w c.bf (bools free)
  h1 : Blk w c.q1 [.map (some c.bm)]
  h3 : Blk w c.q3 [.pointer (some ⟨c.bp, 0, none⟩)]
  h4 : Blk w c.q4 [.func (.func 87) ⟨[]⟩ ⟨c.ptrs⟩]
  hp : Blk w c.bp [.slice sm.a sm.len sm.cap, x, y]
  mem : Bytes w sm m
  mo : m ≠ [] → ∀ p, sm.a = some p → ¬ c.S p.block
  n0 : ¬ c.S c.q0
  nf : ¬ c.S c.bf
  n1 : ¬ c.S c.q1
  n3 : ¬ c.S c.q3
  n4 : ¬ c.S c.q4
  np : ¬ c.S c.bp
  nm : c.bm ≠ c.q2
  ml : m.length = 256 * free.length
  few : free.length ≤ 1024
  mlt : c.bm < c.b0
  qlt : c.q2 < c.b0
  bsz : c.b0 ≤ w.heap.size
theorem ICtx.only {w w' : World} {c : ICap} {sm : Sl} {m : List Int} {free : List Bool} {x y : Value} (h : ICtx w c sm m free x y) (o : Only c.S w w') : ICtx w' c sm m free x y :=
  ⟨h.h0.only o h.n0, h.hf.only o h.nf, h.h1.only o h.n1, h.h3.only o h.n3, h.h4.only o h.n4, h.hp.only o h.np, h.mem.only o (fun hm p hp _ => h.mo hm p hp), h.mo, h.n0, h.nf, h.n1, h.n3, h.n4, h.np, h.nm, h.ml, h.few, h.mlt, h.qlt, Nat.le_trans h.bsz o.size⟩
/-- What was seen so far, and listed. -/
structure ISeen (w : World) (c : ICap) (S : List Int) : Prop where
  set : SetAt w c.bm S
  out : ∃ l : Sl, Blk w c.q2 [.slice l.a l.len l.cap] ∧ OwnS w c.b0 l 1 (S.map (Value.int .i64))
def IV (c : ICap) (res : Option (List Int)) (w : World) (v : Value) (w' : World) : Prop := v = .bool res.isSome ∧ Only c.S w w' ∧ ∀ S', res = some S' → ISeen w' c S'
theorem ISeen.ext {w w' : World} {c : ICap} {S : List Int} (h : ISeen w c S) (e : Ext w w') : ISeen w' c S := by
  obtain ⟨h1, l, h2, h3⟩ := h
  exact ⟨h1.ext e, l, h2.ext e, h3.ext e⟩
theorem c87 {lvl : Nat} (hlv : lvl ≤ 2) {c : ICap} {sm : Sl} {m : List Int} {free : List Bool} {x0 y0 : Value} {rec : Int → List Int → Option (List Int)} {cc : Nat} (hadd : Adds cc rec) (hcc : cc ≤ 100)
    (hrec : lvl = 0 ∨ ∀ {w : World} {t : Int} {S : List Int}, ICtx w c sm m free x0 y0 → ISeen w c S → S.length + cc ≤ 8000 → CallW Tryz.prog 87 ⟨[.int .i64 t, .int .i64 ((lvl : Int) - 1)] ++ c.ptrs⟩ w (IV c (rec t S) w))
    {w : World} {t : Int} {S : List Int} (h : ICtx w c sm m free x0 y0) (hs : ISeen w c S) (hS : S.length + (32 * cc + 1) ≤ 8000) :
    CallW Tryz.prog 87 ⟨[.int .i64 t, .int .i64 (lvl : Int)] ++ c.ptrs⟩ w (IV c (tblStep m free lvl rec t S) w) := by
  refine go87 (a0 := t) (a1 := (lvl : Int)) (c0 := ⟨c.q0, 0, none⟩) (c1 := ⟨c.q1, 0, none⟩) (c2 := ⟨c.q2, 0, none⟩) (c3 := ⟨c.q3, 0, none⟩) (c4 := ⟨c.q4, 0, none⟩) ?_
  unfold W87
  have hfew := h.few
  have hml := h.ml
  have bad : ∀ w', Only c.S w w' → tblStep m free lvl rec t S = none → IV c (tblStep m free lvl rec t S) w (.bool false) w' := fun w' o hn => ⟨by rw [hn]; rfl, o, fun S' hS => by rw [hn] at hS; cases hS⟩
  obtain ⟨hset, l0, hl0, own0⟩ := hs
  refine JoinW.cut1 (fun (b : Bool) w' => (b = true ↔ t < 0 ∨ (free.length : Int) ≤ t) ∧ w' = w) ?_ ?_
  · refine BIf.dec (fun h1 => ⟨⟨fun _ => .inl h1, fun _ => rfl⟩, rfl⟩) (fun h1 => ⟨⟨_, _, _⟩, h.h0.cell 0, ?_, rfl⟩)
    rw [decide_eq_true_eq]
    exact ⟨fun hh => .inr hh, fun hh => by rcases hh with hh | hh; omega; exact hh⟩
  rintro (b : Bool) w ⟨hiff, rfl⟩
  refine JoinW.cut1 (fun (b : Bool) w' => (b = true ↔ t < 0 ∨ (free.length : Int) ≤ t ∨ free.getD t.toNat false = true) ∧ w' = w) ?_ ?_
  · refine BIf.of (fun h1 => ⟨?_, rfl⟩) (fun h1 => ?_)
    · have := hiff.1 h1
      exact ⟨fun _ => by omega, fun _ => rfl⟩
    · have h2 : ¬ (t < 0 ∨ (free.length : Int) ≤ t) := fun hh => by rw [hiff.2 hh] at h1; cases h1
      refine ⟨⟨_, _, _⟩, h.h0.cell 0, by omega, by show t < ((free.length : Nat) : Int); omega, _, rfl, free.getD t.toNat false, ?_, ?_, rfl⟩
      · rw [add_mk, h.hf.cell, Nat.zero_add, Nat.mul_one, bools_get (by omega)]
      · exact ⟨fun hh => .inr (.inr hh), fun hh => by rcases hh with hh | hh | hh; omega; omega; exact hh⟩
  clear hiff b
  rintro (b : Bool) w ⟨hiff, rfl⟩
  refine JoinW.cut1 (fun (b : Bool) w' => (b = true ↔ t < 0 ∨ (free.length : Int) ≤ t ∨ free.getD t.toNat false = true ∨ t ∈ S) ∧ w' = w) ?_ ?_
  · refine BIf.of (fun h1 => ⟨?_, rfl⟩) (fun h1 => ?_)
    · have := hiff.1 h1
      exact ⟨fun _ => by rcases this with h | h | h; exact .inl h; exact .inr (.inl h); exact .inr (.inr (.inl h)), fun _ => rfl⟩
    · have h2 : ¬ (t < 0 ∨ (free.length : Int) ≤ t ∨ free.getD t.toNat false = true) := fun hh => by rw [hiff.2 hh] at h1; cases h1
      refine ⟨_, h.h1.cell 0, hset.get t (fun o ho => ⟨decide (t ∈ S), ho, ?_, rfl⟩)⟩
      rw [decide_eq_true_eq]
      exact ⟨fun hh => .inr (.inr (.inr hh)), fun hh => by
        rcases hh with hh | hh | hh | hh
        · exact absurd (.inl hh) h2
        · exact absurd (.inr (.inl hh)) h2
        · exact absurd (.inr (.inr hh)) h2
        · exact hh⟩
  clear hiff b
  rintro (b : Bool) w ⟨hiff, rfl⟩
  refine BIf.of (fun hb => ?_) (fun hb => ?_)
  · refine bad _ (Only.refl _ _) ?_
    unfold tblStep
    rw [if_pos (hiff.1 hb)]
  have hok : ¬ (t < 0 ∨ (free.length : Int) ≤ t ∨ free.getD t.toNat false = true ∨ t ∈ S) := fun hh => by rw [hiff.2 hh] at hb; cases hb
  have hres : tblStep m free lvl rec t S = match scanT (entAt m t) lvl rec 32 (S ++ [t]) (decide (lvl = 2)) with | some (S', true) => some S' | _ => none := by
    unfold tblStep; rw [if_neg hok]; try rfl
  generalize hR : scanT (entAt m t) lvl rec 32 (S ++ [t]) (decide (lvl = 2)) = R at hres
  have ht0 : 0 ≤ t := by omega
  have ht1 : t < free.length := by omega
  have hnS : t ∉ S := fun hh => hok (.inr (.inr (.inr hh)))
  refine ⟨_, h.h1.cell 0, hset.put hnS (fun w11 hset11 o11 => ?_)⟩
  have hbsz := h.bsz
  have hmlt := h.mlt
  have hqlt := h.qlt
  have hl11 := hl0.only o11 (fun hh => h.nm hh.symm)
  have own11 := own0.only o11 (fun b _ hb0 _ hbb => by omega)
  have z11 := o11.size
  refine ⟨l0, hl11.cell 0, LetW_iff.2 ?_⟩
  have hll := own11.len
  rw [List.length_map, Nat.mul_one] at hll
  refine AppendW.one (b0 := c.b0) (z := 1) (x := [.int .i64 t]) own11 (by omega) rfl rfl rfl (by decide) (by show (l0.len + 1) * 8 ≤ _; omega) (fun v hv => by rw [List.mem_singleton.1 hv]; rfl) (fun s' w15 h1 h2 h3 h4 => ?_)
  have hl15 := hl11.only h3 (fun hh => by have := hh.1; omega)
  have hset15 := hset11.only h3 (fun hh => by have := hh.1; omega)
  have z15 := h3.size
  refine set_step hl15 (by simp) (fun w16 o16 hl16 n16 => ?_)
  have hset16 := hset15.only o16 h.nm
  have own16 : OwnS w16 c.b0 s' 1 ((S ++ [t]).map (Value.int .i64)) := by
    rw [List.map_append]
    exact h2.only o16 (fun b _ hb0 _ hbb => by omega)
  have oall : Only c.S w w16 := Only.step (Only.step (o11.mono (fun k _ hk => .inl hk)) h3 (fun i hi hh => .inr (.inr hh.1))) o16 (fun i hi hh => .inr (.inl hh))
  have hbase : ISeen w16 c (S ++ [t]) := ⟨hset16, s', hl16, own16⟩
  refine LoopW.m2 (fun (any : Bool) (i : Int) w' => ∃ (k : Nat) (S1 : List Int), k ≤ 32 ∧ i = 32 - (k : Int) ∧ scanT (entAt m t) lvl rec k S1 any = R ∧ S1.length ≤ S.length + 1 + (32 - k) * cc ∧ Only c.S w w' ∧ ISeen w' c S1) (fun _ (i : Int) _ => (32 - i).toNat)
    ⟨32, S ++ [t], by omega, by omega, by
      rw [← hR]
      congr 1
      apply Bool.eq_iff_iff.2
      rw [beq_iff_eq, decide_eq_true_eq]; omega, by simp, oall, hbase⟩ ?_
  rintro (any : Bool) (i : Int) w20 ⟨k, S1, hk, rfl, hsc, hal, o20, hs20⟩ J hJ
  have h20 := h.only o20
  refine BIf.dec (fun hlt => ?_) (fun hge => ?_)
  · obtain ⟨j, rfl⟩ : ∃ j, k = j + 1 := ⟨k - 1, by omega⟩
    have hidx : (32 : Int) - ((j + 1 : Nat) : Int) = 31 - (j : Int) := by omega
    rw [hidx]
    have hmul : (32 - (j + 1)) * cc + cc = (32 - j) * cc := by rw [← Nat.succ_mul]; congr 1; omega
    have hmul2 : (32 - j) * cc ≤ 32 * cc := Nat.mul_le_mul_right cc (by omega)
    refine ⟨_, h20.h3.cell 0, (c69 h20.hp h20.mem (by omega) (by omega) (by omega) (by omega)).mono ?_⟩
    rintro _ w20 ⟨rfl, rfl⟩
    have hw := word_rng h.mem.rng (t * 256 + 8 * (31 - (j : Int)))
    have hwe : word m (t * 256 + 8 * (31 - (j : Int))) = entAt m t (31 - (j : Int)) := rfl
    rw [hwe] at hw ⊢
    rw [w64 (n := 31 - (j : Int) + 1) (by omega) (by omega)]
    unfold scanT at hsc
    generalize entAt m t (31 - (j : Int)) = x at *
    refine ⟨x, rfl, BIf.eq (fun hx => ?_) (fun hx => ?_)⟩
    · rw [if_pos hx] at hsc
      exact hJ _ _ _ ⟨j, S1, by omega, by omega, hsc, by omega, o20, hs20⟩ (by omega)
    · rw [if_neg hx, cls_eq hlv] at hsc
      refine (c38 hw.1 hw.2).mono ?_
      rintro _ w26 ⟨rfl, e26⟩
      refine ⟨_, _, _, _, _, _, _, _, _, rfl, ?_⟩
      refine alloc_step (fun w36 e36 hz n36 => put_step hz rfl rfl (fun w37 o37 hz n37 => ?_))
      have e37 : Ext w20 w37 := Ext.own (Only.trans e26 e36) o37 (fun k hk => by have := e26.size; omega)
      have o37' : Only c.S w w37 := o20.step e37 (fun i hi hf => hf.elim)
      have h37 := h.only o37'
      have hs37 := hs20.ext e37
      have hno : R = none → ∀ w', Only c.S w w' → IV c (tblStep m free lvl rec t S) w (.bool false) w' := fun hn w' o => bad w' o (by rw [hres, hn])
      refine ⟨_, hz.cell 0, ?_⟩
      refine JoinW.cut1 (fun (b : Bool) w' => b = (!ebit x 0 || decide (1048576 ≤ x)) ∧ w' = w37) ?_ ?_
      · refine BIf.of (fun h1 => ⟨by rw [h1]; rfl, rfl⟩) (fun h1 => ⟨by omega, ?_, rfl⟩)
        rw [shr20 hw.1, h1]; rfl
      rintro (b : Bool) w37 ⟨rfl, rfl⟩
      refine BIf.of (fun h1 => ?_) (fun h1 => ?_)
      · rw [if_pos h1] at hsc
        exact hno hsc.symm _ o37'
      · rw [if_neg (by rw [h1]; simp)] at hsc
        refine ⟨_, hz.cell 1, join_or_ex _ (hz.cell 2) (join_or_ex _ (hz.cell 3) ?_)⟩
        refine BIf.of (fun h2 => ?_) (fun h2 => ?_)
        · rw [if_pos h2] at hsc
          refine JoinW.cut1 (fun (b : Bool) w' => b = ((lvl : Int) != 0 || (ebit x 2 && !ebit x 1)) ∧ w' = w37) ?_ ?_
          · refine BIf.of (fun h3 => ⟨by rw [h3]; rfl, rfl⟩) (fun h3 => ⟨_, hz.cell 2, BIf.of (fun h4 => ⟨_, hz.cell 1, by rw [h3, h4]; rfl, rfl⟩) (fun h4 => ⟨by rw [h3, h4]; rfl, rfl⟩)⟩)
          rintro (b : Bool) w37 ⟨rfl, rfl⟩
          refine BIf.of (fun h3 => ?_) (fun h3 => ?_)
          · rw [if_pos h3] at hsc
            exact hno hsc.symm _ o37'
          · rw [if_neg (by rw [h3]; simp)] at hsc
            exact hJ _ _ _ ⟨j, S1, by omega, by omega, hsc, by omega, o37', hs37⟩ (by omega)
        · rw [if_neg (by rw [h2]; simp)] at hsc
          refine join_or_ex _ (hz.cell 4) (join_or_ex _ (hz.cell 5) (join_or_ex _ (hz.cell 6) ?_))
          refine JoinW.each (BIf.of (fun h3 => ?_) (fun h3 => ?_))
          · rw [if_pos h3] at hsc
            exact BIf.t rfl (hno hsc.symm _ o37')
          · rw [if_neg (by rw [h3]; simp)] at hsc
            rcases hrec with hl0' | hrec
            · exfalso
              subst hl0'
              simp at h3
            refine ⟨⟨87, [], c.ptrs⟩, h37.h4.cell 0, _, hz.cell 8, ?_⟩
            rw [w64 (by omega) (by omega)]
            refine CallW.mono (K := IV c (rec (efr x) S1) w37) (hrec h37 hs37 (by omega)) ?_
            rintro _ w69 ⟨rfl, o69, hs69⟩
            have o69' : Only c.S w w69 := o37'.step o69 (fun i hi hf => hf)
            refine ⟨_, rfl, ?_⟩
            cases hr : rec (efr x) S1 with
            | none =>
              rw [hr] at hsc
              exact BIf.t rfl (hno hsc.symm _ o69')
            | some S2 =>
              rw [hr] at hsc
              obtain ⟨add, hS2, hlen2⟩ := hadd _ _ _ hr
              refine BIf.f rfl (hJ _ _ _ ⟨j, S2, by omega, by omega, hsc, ?_, o69', hs69 S2 hr⟩ (by omega))
              rw [hS2, List.length_append]; omega
  · have hk0 : k = 0 := by omega
    subst hk0
    unfold scanT at hsc
    refine ⟨?_, o20, fun S' hS => ?_⟩
    · rw [hres, ← hsc]
      cases any <;> rfl
    · rw [hres, ← hsc] at hS
      cases any with
      | false => cases hS
      | true => injection hS with hS; subst hS; exact hs20
theorem implTab {c : ICap} {sm : Sl} {m : List Int} {free : List Bool} {x0 y0 : Value} {w : World} {t : Int} {S : List Int} (h : ICtx w c sm m free x0 y0) (hs : ISeen w c S) (hS : S.length ≤ 4000) :
    CallW Tryz.prog 87 ⟨[.int .i64 t, .int .i64 2] ++ c.ptrs⟩ w (IV c (tblF m free 2 t S) w) := by
  have h0 : ∀ {w : World} {t : Int} {S : List Int}, ICtx w c sm m free x0 y0 → ISeen w c S → S.length + 1 ≤ 8000 → CallW Tryz.prog 87 ⟨[.int .i64 t, .int .i64 (((1 : Nat) : Int) - 1)] ++ c.ptrs⟩ w (IV c (tblF m free 0 t S) w) :=
    fun {w t S} h hs hl => c87 (lvl := 0) (by omega) (rec := fun _ _ => none) (cc := 0) adds0 (by omega) (.inl rfl) h hs (by omega)
  have h1 : ∀ {w : World} {t : Int} {S : List Int}, ICtx w c sm m free x0 y0 → ISeen w c S → S.length + 33 ≤ 8000 → CallW Tryz.prog 87 ⟨[.int .i64 t, .int .i64 (((2 : Nat) : Int) - 1)] ++ c.ptrs⟩ w (IV c (tblF m free 1 t S) w) :=
    fun {w t S} h hs hl => c87 (lvl := 1) (by omega) (rec := tblF m free 0) (cc := 1) tblF_adds.1 (by omega) (.inr h0) h hs (by omega)
  exact c87 (lvl := 2) (by omega) (rec := tblF m free 1) (cc := 33) tblF_adds.2.1 (by omega) (.inr h1) h hs (by omega)
/-- The tables that the program lists; nil: none. -/
def ITabs (res : Option (List Int)) (w : World) (v : Value) (w' : World) : Prop := ∃ l : Sl, v = .slice l.a l.len l.cap ∧ Ext w w' ∧ (res = none → l.a = none) ∧ ∀ S', res = some S' → l.a.isSome = true ∧ OwnS w' w.heap.size l 1 (S'.map (Value.int .i64))
theorem tblF_ne {m : List Int} {free : List Bool} {lvl : Nat} {t : Int} {S' : List Int} (h : tblF m free lvl t [] = some S') : S' ≠ [] := by
  have key : ∀ (lvl : Nat) (rec : Int → List Int → Option (List Int)), (∃ c, Adds c rec) → ∀ S', tblStep m free lvl rec t [] = some S' → S' ≠ [] := by
    intro lvl rec ⟨c, hc⟩ S' hS
    unfold tblStep at hS
    split at hS
    · cases hS
    · split at hS
      · rename_i S1 hS1
        injection hS with hS
        subst hS
        obtain ⟨add, h1, _⟩ := scanT_adds hc 32 _ _ _ _ hS1
        rw [h1]; simp
      · cases hS
  have adds : ∀ n, ∃ c, Adds c (tblF m free n) := by
    intro n
    induction n with
    | zero => exact ⟨_, tblStep_adds adds0⟩
    | succ n ih => obtain ⟨c, hc⟩ := ih; exact ⟨_, tblStep_adds hc⟩
  cases lvl with
  | zero => exact key 0 _ ⟨0, adds0⟩ S' h
  | succ n => exact key (n + 1) _ (adds n) S' h
theorem c35 {b : Nat} {sm sf : Sl} {m : List Int} {T : Int} {fr : List DBlock} {root : Int} {w : World} (hp : Blk w b [.slice sm.a sm.len sm.cap, .int .i64 T, .slice sf.a sf.len sf.cap]) (hm : Bytes w sm m) (hf : FrAt w sf fr) (hok : POk m T fr) :
    CallW Tryz.prog 35 #[.pointer (some ⟨b, 0, none⟩), .int .i64 root] w (ITabs (tblF m (freeL T fr) 2 root []) w) := by
  refine go35 ?_
  unfold W35
  have hT0 := hok.2.2.1.1
  have hT1 := hok.2.2.1.2.1
  have hpl := hp.lt
  refine alloc_step (fun w1 e1 hq3 n1 => ?_)
  have hp1 := hp.ext e1
  refine ⟨_, hq3.cell 0, _, rfl, _, hp1.cell 1, sf, hp1.cell 2, (c86 (hf.ext e1) hok.2.2.1).mono ?_⟩
  rintro _ w7 ⟨bf, rfl, hbf0, hbf, e7⟩
  have z7 := e7.size
  have hbl := hbf.lt
  have hq3 := hq3.ext e7
  refine ⟨⟨some ⟨bf, 0, none⟩, T.toNat, T.toNat⟩, rfl, ?_⟩
  refine alloc_step (fun w9 e9 hq0 n9 => set_step hq0 (by simp) (fun w10 o10 hq0 n10 => ?_))
  have e10 : Ext w7 w10 := Ext.own e9 o10 (fun k hk => by omega)
  refine map_step (fun w11 e11 hset n11 => ?_)
  refine alloc_step (fun w12 e12 hq1 n12 => set_step hq1 (by simp) (fun w13 o13 hq1 n13 => ?_))
  have e13 : Ext w11 w13 := Ext.own e12 o13 (fun k hk => by omega)
  refine alloc_step (fun w14 e14 hq2 n14 => ?_)
  refine alloc_step (fun w15 e15 hq4 n15 => set_step hq4 (by simp) (fun w16 o16 hq4 n16 => ?_))
  have e16 : Ext w14 w16 := Ext.own e15 o16 (fun k hk => by omega)
  have e7_16 : Ext w7 w16 := Only.trans e10 (Only.trans e11 (Only.trans e13 (Only.trans e14 e16)))
  have eall : Ext w w16 := Only.trans e1 (Only.trans e7 e7_16)
  have zall := eall.size
  let c : ICap := ⟨w7.heap.size, w11.heap.size, w13.heap.size, w.heap.size, w14.heap.size, bf, w10.heap.size, b, w16.heap.size⟩
  have hc : ∀ k, c.S k ↔ k = w10.heap.size ∨ k = w13.heap.size ∨ w16.heap.size ≤ k := fun k => Iff.rfl
  have nS : ∀ k, k ≠ w10.heap.size → k ≠ w13.heap.size → k < w16.heap.size → ¬ c.S k := fun k h1 h2 h3 hh => by
    rcases (hc k).1 hh with hh | hh | hh
    · exact h1 hh
    · exact h2 hh
    · omega
  have hctx : ICtx w16 c sm m (freeL T fr) (.int .i64 T) (.slice sf.a sf.len sf.cap) := by
    refine ⟨?_, hbf.ext e7_16, hq1.ext (Only.trans e14 e16), hq3.ext e7_16, hq4, hp.ext eall, hm.ext eall, fun hne p hpa => ?_, ?_, ?_, ?_, ?_, ?_, ?_, ?_, hok.len, by rw [freeL_len]; omega, ?_, ?_, Nat.le_refl _⟩
    · rw [freeL_len]; exact hq0.ext (Only.trans e11 (Only.trans e13 (Only.trans e14 e16)))
    · have := hm.old hne hpa
      rw [hc]; omega
    · exact nS w7.heap.size (by omega) (by omega) (by omega)
    · exact nS bf (by omega) (by omega) (by omega)
    · exact nS w11.heap.size (by omega) (by omega) (by omega)
    · exact nS w.heap.size (by omega) (by omega) (by omega)
    · exact nS w14.heap.size (by omega) (by omega) (by omega)
    · exact nS b (by omega) (by omega) (by omega)
    · show w10.heap.size ≠ w13.heap.size; omega
    · show w10.heap.size < w16.heap.size; omega
    · show w13.heap.size < w16.heap.size; omega
  have hseen : ISeen w16 c [] := ⟨hset.ext (Only.trans e13 (Only.trans e14 e16)), ⟨none, 0, 0⟩, hq2.ext e16, OwnS.none _ _ _ _⟩
  refine ⟨⟨87, [], c.ptrs⟩, hq4.cell 0, ?_⟩
  refine CallW.mono (K := IV c (tblF m (freeL T fr) 2 root []) w16) (implTab hctx hseen (by simp)) ?_
  rintro _ w19 ⟨rfl, o19, hs19⟩
  have e19 : Ext w w19 := eall.own o19 (fun i hi => by rw [hc] at hi; omega)
  refine ⟨_, rfl, ?_⟩
  cases hr : tblF m (freeL T fr) 2 root [] with
  | none => exact BIf.t rfl ⟨⟨none, 0, 0⟩, rfl, e19, fun _ => rfl, fun S' hS => by cases hS⟩
  | some S' =>
    obtain ⟨_, l, hl, own⟩ := hs19 S' hr
    refine BIf.f rfl ⟨l, hl.cell 0, l, rfl, e19, (fun hn => by cases hn), fun S2 hS => ?_⟩
    injection hS with hS
    subst hS
    refine ⟨?_, own.mono (by show w.heap.size ≤ w16.heap.size; omega)⟩
    have hll := own.len
    rw [List.length_map, Nat.mul_one] at hll
    have hne : 0 < S'.length := List.length_pos_iff.2 (tblF_ne hr)
    rcases own.2 with ⟨_, h0⟩ | ⟨q, cs, ha, _⟩
    · omega
    · rw [ha]; rfl
end Go.Proofs.YtkgoanjemhbjgaaGreat

/- FnExactSpaceOk: both sides, for the walk. Conditions: none. -/
set_option linter.unusedVariables false
set_option linter.unusedSimpArgs false
namespace Go.Proofs.YtkgoanjemhbjgaaGreat
open Go Go.Den
theorem pool_of {x : DPool} {w : World} {cs : List Value} (h : IsD w x.dat cs) (hs : x.dat.sz ≤ 1048576) : ∃ sm sf : Sl, cs = [.slice sm.a sm.len sm.cap, .int .i64 x.Free.Total, .slice sf.a sf.len sf.cap] ∧ Bytes w sm x.Mem ∧ FrAt w sf x.Free.Free := by
  obtain ⟨sm, sf, rfl, im, _, _, iff⟩ := cells_Pool h
  have hsz : x.dat.sz = (Dat.sl 1 (x.Mem.map (Dat.int .u8))).sz + ((0 + (((x.Free.Free.map DBlock.dat).length + Dat.szs (x.Free.Free.map DBlock.dat)) + 0)) + 0) := rfl
  rw [sz_nums, List.length_map] at hsz
  have hm := isD_len im
  have hf := isD_len iff
  exact ⟨sm, sf, rfl, ⟨hm.1, isD_cap im, isD_nums im, fun y hy => wf_u8_rng (isD_wf im y hy), by omega⟩, ⟨hf.1, isD_row iff (fun _ => rfl) (fun es y hy => DBlock.is_cells hy), by omega⟩⟩
end Go.Proofs.YtkgoanjemhbjgaaGreat

/- Frames: the list of blocks of a set, on both sides: greedy, and by halves. Conditions: none. -/
set_option linter.unusedVariables false
set_option linter.unusedSimpArgs false
namespace Go.Proofs.YtkgoanjemhbjgaaGreat
open Go Go.Den
/-! ## The plain law -/
def wholeP (l : List Bool) (a n : Nat) : Prop := a + n ≤ l.length ∧ ∀ i, i < n → l.getD (a + i) false = true
instance (l : List Bool) (a n : Nat) : Decidable (wholeP l a n) := by unfold wholeP; exact inferInstance
def ordF (l : List Bool) (a : Nat) : Nat → Nat → Nat
  | 0, o => o
  | f + 1, o => if o < 10 ∧ a % 2 ^ (o + 1) = 0 ∧ wholeP l a (2 ^ (o + 1)) then ordF l a f (o + 1) else o
def listF (l : List Bool) (a : Nat) : List DBlock :=
  if a < l.length then (if l.getD a false = true then ⟨a, ordF l a 10 0⟩ :: listF l (a + 2 ^ ordF l a 10 0) else listF l (a + 1)) else []
termination_by l.length - a
decreasing_by
  all_goals have := Nat.one_le_two_pow (n := ordF l a 10 0); omega
def walkF (l : List Bool) : Nat → Nat → List DBlock
  | 0, a => if l.length ≤ a then [] else if wholeP l a (2 ^ 0) then [⟨a, (0 : Nat)⟩] else []
  | o + 1, a => if l.length ≤ a then [] else if wholeP l a (2 ^ (o + 1)) then [⟨a, ((o + 1 : Nat) : Int)⟩] else walkF l o a ++ walkF l o (a + 2 ^ o)
theorem listF_end {l : List Bool} {a : Nat} (h : l.length ≤ a) : listF l a = [] := by rw [listF, if_neg (by omega)]
theorem whole_half {l : List Bool} {a o : Nat} (h : wholeP l a (2 ^ (o + 1))) : wholeP l a (2 ^ o) := by
  have h2 : 2 ^ (o + 1) = 2 ^ o * 2 := Nat.pow_succ 2 o
  exact ⟨by have := h.1; omega, fun i hi => h.2 i (by omega)⟩
theorem whole_le {l : List Bool} {a : Nat} : ∀ {o o' : Nat}, o' ≤ o → wholeP l a (2 ^ o) → wholeP l a (2 ^ o')
  | 0, o', hle, h => by rw [show o' = 0 by omega]; exact h
  | o + 1, o', hle, h => by
    rcases Nat.lt_or_ge o' (o + 1) with h1 | h1
    · exact whole_le (by omega) (whole_half h)
    · rw [show o' = o + 1 by omega]; exact h
theorem mod_le {a : Nat} : ∀ {o o' : Nat}, o' ≤ o → a % 2 ^ o = 0 → a % 2 ^ o' = 0 := fun {o o'} hle h =>
  Nat.mod_eq_zero_of_dvd (Nat.dvd_trans (Nat.pow_dvd_pow 2 hle) (Nat.dvd_of_mod_eq_zero h))
theorem ordF_is {l : List Bool} {a o : Nat} (ho : o ≤ 10) (hm : a % 2 ^ o = 0) (hw : wholeP l a (2 ^ o)) (hs : o = 10 ∨ a % 2 ^ (o + 1) ≠ 0 ∨ ¬ wholeP l a (2 ^ (o + 1))) : ∀ (f k : Nat), k ≤ o → o < k + f + 1 → ordF l a f k = o
  | 0, k, hk, hf => by unfold ordF; omega
  | f + 1, k, hk, hf => by
    unfold ordF
    rcases Nat.lt_or_ge k o with h | h
    · rw [if_pos ⟨by omega, mod_le (by omega) hm, whole_le (by omega) hw⟩]
      exact ordF_is ho hm hw hs f (k + 1) (by omega) (by omega)
    · have hko : k = o := by omega
      subst hko
      rw [if_neg (fun hh => by
        rcases hs with hs | hs | hs
        · omega
        · exact hs hh.2.1
        · exact hs hh.2.2)]
theorem list_walk {l : List Bool} : ∀ (o a : Nat), o ≤ 10 → a % 2 ^ o = 0 → (o = 10 ∨ a % 2 ^ (o + 1) ≠ 0 ∨ ¬ wholeP l a (2 ^ (o + 1))) → listF l a = walkF l o a ++ listF l (a + 2 ^ o)
  | 0, a, ho, hm, hs => by
    unfold walkF
    by_cases h1 : l.length ≤ a
    · rw [if_pos h1, listF_end h1, listF_end (by omega)]; rfl
    · rw [if_neg h1]
      by_cases h2 : wholeP l a (2 ^ 0)
      · have ho2 := ordF_is ho hm h2 hs 10 0 (by omega) (by omega)
        rw [if_pos h2, listF, if_pos (by omega), if_pos (by have := h2.2 0 (by decide); simpa using this), ho2]
        rfl
      · have hf : ¬ (l.getD a false = true) := fun hh => h2 ⟨by show a + 1 ≤ _; omega, fun i hi => by rw [show i = 0 by omega]; exact hh⟩
        rw [if_neg h2, listF, if_pos (by omega), if_neg hf]
        rfl
  | o + 1, a, ho, hm, hs => by
    unfold walkF
    have h2p : 2 ^ (o + 1) = 2 ^ o * 2 := Nat.pow_succ 2 o
    by_cases h1 : l.length ≤ a
    · rw [if_pos h1, listF_end h1, listF_end (by omega)]; rfl
    · rw [if_neg h1]
      by_cases h2 : wholeP l a (2 ^ (o + 1))
      · have ho2 := ordF_is ho hm h2 hs 10 0 (by omega) (by omega)
        have hp := Nat.one_le_two_pow (n := o + 1)
        rw [if_pos h2, listF, if_pos (by omega), if_pos (by have := h2.2 0 (by omega); simpa using this), ho2]
        rfl
      · have hm' : a % 2 ^ o = 0 := mod_le (by omega) hm
        have hp := Nat.one_le_two_pow (n := o)
        have hr : (a + 2 ^ o) % 2 ^ (o + 1) ≠ 0 := by
          rw [Nat.add_mod, hm, Nat.zero_add, Nat.mod_mod, Nat.mod_eq_of_lt (by omega)]; omega
        rw [if_neg h2, list_walk o a (by omega) hm' (.inr (.inr h2)), list_walk o (a + 2 ^ o) (by omega) (by rw [Nat.add_mod, hm', Nat.zero_add, Nat.mod_self]; rfl) (.inr (.inl hr)), List.append_assoc, h2p, show a + 2 ^ o + 2 ^ o = a + 2 ^ o * 2 by omega]
theorem list_eq {l : List Bool} (h : l.length ≤ 1024) : listF l 0 = walkF l 10 0 := by
  rw [list_walk 10 0 (by omega) (by decide) (.inl rfl), listF_end (a := 0 + 2 ^ 10) (by have : 2 ^ 10 = 1024 := rfl; omega), List.append_nil]
theorem walkF_len {l : List Bool} : ∀ (o a : Nat), (walkF l o a).length ≤ 2 ^ o
  | 0, a => by unfold walkF; split; simp; split <;> simp
  | o + 1, a => by
    unfold walkF
    have h2p : 2 ^ (o + 1) = 2 ^ o * 2 := Nat.pow_succ 2 o
    have hp := Nat.one_le_two_pow (n := o)
    split
    · simp
    · split
      · simp; omega
      · have h1 := walkF_len (l := l) o a
        have h2 := walkF_len (l := l) o (a + 2 ^ o)
        rw [List.length_append]; omega
/-! ## Bools that are lent -/
structure Bls (w : World) (s : Sl) (l : List Bool) : Prop where
  len : s.len = l.length
  cap : s.len ≤ s.cap
  row : RowAt w s.a s.len (bools l)
  small : l.length ≤ 1099511627776
theorem Bls.ext {w w' : World} {s : Sl} {l : List Bool} (h : Bls w s l) (e : Ext w w') : Bls w' s l := ⟨h.len, h.cap, e.row h.row, h.small⟩
theorem Bls.at {w : World} {s : Sl} {l : List Bool} (h : Bls w s l) {i : Nat} (h1 : i < l.length) : ∃ p, s.a = some p ∧ w.cell? (p.add (i * 1)) = some (.bool (l.getD i false)) := by
  obtain ⟨p, hp, hc⟩ := h.row.cell (bools_get h1)
  exact ⟨p, hp, by rw [Nat.mul_one]; exact hc⟩
theorem bls_blk {w : World} {b : Nat} {l : List Bool} (h : Blk w b (bools l)) (hs : l.length ≤ 1099511627776) : Bls w ⟨some ⟨b, 0, none⟩, l.length, l.length⟩ l := ⟨rfl, Nat.le_refl _, row_of_blk h (bools_len l), hs⟩
theorem Bls.cut {w : World} {s : Sl} {l : List Bool} (h : Bls w s l) {a n : Nat} (hn : 0 < n) (ha : a + n ≤ l.length) : Bls w ⟨cutA s.a s.cap a 1, n, s.cap - a⟩ ((l.drop a).take n) := by
  have hl := h.len
  have hc := h.cap
  have hsm := h.small
  refine ⟨by simp; omega, by show n ≤ s.cap - a; omega, ?_, by simp; omega⟩
  obtain ⟨p, hp, hcell⟩ := h.row.2 (by omega)
  refine ⟨by rw [bools_len]; simp; omega, fun _ => ⟨p.add (a * 1), ?_, fun j v hj => ?_⟩⟩
  · show cutA s.a s.cap a 1 = _
    unfold cutA
    rw [hp, if_neg (by omega)]
    rfl
  · rw [add_add, Nat.mul_one]
    refine hcell _ v ?_
    unfold bools at hj ⊢
    rw [List.map_take, List.map_drop, List.getElem?_take] at hj
    split at hj
    · rw [List.getElem?_drop] at hj; exact hj
    · cases hj
/-! ## The reference's side -/
theorem c123 {s : Sl} {l : List Bool} {a n : Nat} {w : World} (h : Bls w s l) (ha : a ≤ 1099511627776) (hn : n ≤ 1099511627776) : CallW Tryz.prog 123 #[.slice s.a s.len s.cap, .int .i64 (a : Int), .int .i64 (n : Int)] w (fun v w' => v = .bool (decide (wholeP l a n)) ∧ w' = w) := by
  refine go123 ?_
  unfold W123
  have hl := h.len
  have hs := h.small
  rw [w64 (n := (a : Int) + (n : Int)) (by omega) (by omega)]
  refine BIf.dec (fun hgt => ⟨by rw [decide_eq_false (fun hh => by have := hh.1; omega)], rfl⟩) (fun hle => ?_)
  refine LoopW.m1 (fun (i : Int) w' => ∃ k : Nat, i = k ∧ k ≤ n ∧ (∀ j, j < k → l.getD (a + j) false = true) ∧ w' = w) (fun (i : Int) _ => ((n : Int) - i).toNat) ⟨0, rfl, by omega, fun j hj => absurd hj (Nat.not_lt_zero _), rfl⟩ ?_
  rintro (i : Int) w ⟨k, rfl, hk, hall, rfl⟩ J hJ
  refine BIf.dec (fun hlt => ?_) (fun hge => ⟨by rw [decide_eq_true ⟨by omega, fun j hj => hall j (by omega)⟩], rfl⟩)
  have hidx : IntKind.i64.wrap ((a : Int) + (k : Int)) = ((a + k : Nat) : Int) := by rw [w64 (by omega) (by omega)]; omega
  rw [hidx, Int.toNat_natCast]
  obtain ⟨p, hp, hc⟩ := h.at (i := a + k) (by omega)
  refine ⟨by omega, by omega, p, hp, _, hc, BIf.of (fun hb => ?_) (fun hb => ?_)⟩
  · have hb : l.getD (a + k) false = false := by simpa using hb
    exact ⟨by rw [decide_eq_false (fun hh => by rw [hh.2 k (by omega)] at hb; cases hb)], rfl⟩
  · have hb : l.getD (a + k) false = true := by simpa using hb
    rw [w64 (by omega) (by omega)]
    refine hJ _ _ ⟨k + 1, by omega, by omega, fun j hj => ?_, rfl⟩ (by omega)
    by_cases hjk : j = k
    · rw [hjk]; exact hb
    · exact hall j (by omega)
def FrV (T : Int) (fr : List DBlock) (w : World) (v : Value) (w' : World) : Prop := ∃ t : Sl, v = .agg #[.int .i64 T, .slice t.a t.len t.cap] ∧ OwnS w' w.heap.size t 2 (fr.flatMap DBlock.cells) ∧ Ext w w'
theorem pw_nat (n : Nat) : pw (n : Int) = ((2 ^ n : Nat) : Int) := by unfold pw; rw [Int.toNat_natCast]
theorem listF_len (l : List Bool) (a : Nat) : (listF l a).length ≤ l.length - a := by
  rw [listF]
  split
  · split
    · have := listF_len l (a + 2 ^ ordF l a 10 0)
      have hp := Nat.one_le_two_pow (n := ordF l a 10 0)
      rw [List.length_cons]; omega
    · have := listF_len l (a + 1); omega
  · simp
termination_by l.length - a
decreasing_by
  all_goals have := Nat.one_le_two_pow (n := ordF l a 10 0); omega
theorem Bls.only {S : Nat → Prop} {w w' : World} {s : Sl} {l : List Bool} (h : Bls w s l) (o : Only S w w') (hS : ∀ p, s.a = some p → p.block < w.heap.size → ¬ S p.block) : Bls w' s l := by
  refine ⟨h.len, h.cap, ⟨h.row.1, fun hn => ?_⟩, h.small⟩
  obtain ⟨p, hp, hc⟩ := h.row.2 hn
  refine ⟨p, hp, fun j v hj => ?_⟩
  have hcj := hc j v hj
  refine Only.cell o hcj ?_
  rw [add_block]
  refine hS p hp ?_
  have hlt : (p.add j).block < w.heap.size := by
    unfold World.cell? at hcj
    rcases hb : w.heap[(p.add j).block]? with _ | o
    · rw [hb] at hcj; exact absurd hcj (by simp)
    · exact (Array.getElem?_eq_some_iff.1 hb).1
  rwa [add_block] at hlt
theorem c106 {s : Sl} {l : List Bool} {w : World} (h : Bls w s l) (hl1024 : l.length ≤ 1024) : CallW Tryz.prog 106 #[.slice s.a s.len s.cap] w (FrV l.length (listF l 0) w) := by
  refine go106 ?_
  unfold W106
  have hl := h.len
  rw [hl]
  refine alloc_step (fun w1 e1 hr n1 => ?_)
  refine alloc_step (fun w2 e2 _ n2 => ?_)
  refine alloc_step (fun w3 e3 hf n3 => put_step hf rfl rfl (fun w4 o4 hf n4 => ?_))
  have e24 : Ext w2 w4 := Ext.own e3 o4 (fun k hk => by omega)
  have e4 : Ext w w4 := Only.trans e1 (Only.trans e2 e24)
  have hr4 := hr.ext (Only.trans e2 e24)
  refine LoopW.m1 (fun (i : Int) w' => ∃ (a : Nat) (out : List DBlock) (t : Sl), i = a ∧ out.length ≤ a ∧ a ≤ 3000 ∧ out ++ listF l a = listF l 0 ∧ Ext w w' ∧ w4.heap.size ≤ w'.heap.size ∧ Blk w' w.heap.size [.int .i64 0, .slice none 0 0] ∧ Blk w' w2.heap.size [.int .i64 (l.length : Int), .slice t.a t.len t.cap] ∧ OwnS w' w4.heap.size t 2 (out.flatMap DBlock.cells)) (fun (i : Int) _ => ((l.length : Int) - i).toNat)
    ⟨0, [], ⟨some ⟨w1.heap.size, 0, none⟩, 0, 0⟩, rfl, by simp, by omega, rfl, e4, Nat.le_refl _, hr4, hf, OwnS.none _ _ _ _⟩ ?_
  rintro (i : Int) w7 ⟨a, out, t, rfl, hol, ha3, hls, e7, z7, hr7, hf7, own7⟩ J hJ
  have h7 := h.ext e7
  refine BIf.dec (fun hlt => ?_) (fun hge => ?_)
  · rw [Int.toNat_natCast]
    obtain ⟨p, hp, hc⟩ := h7.at (i := a) (by omega)
    refine ⟨by omega, by omega, p, hp, _, hc, BIf.of (fun hb => ?_) (fun hb => ?_)⟩
    · have hb : ¬ (l.getD a false = true) := by simpa using hb
      rw [w64 (by omega) (by omega)]
      rw [listF, if_pos (by omega), if_neg hb] at hls
      exact hJ _ _ ⟨a + 1, out, t, by omega, by omega, by omega, hls, e7, z7, hr7, hf7, own7⟩ (by omega)
    · have hb : l.getD a false = true := by simpa using hb
      rw [listF, if_pos (by omega), if_pos hb] at hls
      generalize hO : ordF l a 10 0 = O at *
      refine LoopW.m1 (fun (i : Int) w' => ∃ o : Nat, i = o ∧ o ≤ 10 ∧ ordF l a (10 - o) o = O ∧ w' = w7) (fun (i : Int) _ => (10 - i).toNat) ⟨0, rfl, by omega, hO, rfl⟩ ?_
      rintro (i : Int) w7 ⟨o, rfl, ho, hoF, rfl⟩ J2 hJ2
      have hp1 : 2 ^ (o + 1) ≤ 2 ^ 11 := pow_le (by omega)
      have hp2 : 1 ≤ 2 ^ (o + 1) := Nat.one_le_two_pow
      have hp3 : (2 : Nat) ^ 11 = 2048 := by decide
      have hw1 : IntKind.i64.wrap ((o : Int) + 1) = ((o + 1 : Nat) : Int) := by rw [w64 (by omega) (by omega)]; omega
      rw [hw1]
      refine JoinW.cut1 (fun (b : Bool) w' => (b = true ↔ o < 10 ∧ a % 2 ^ (o + 1) = 0) ∧ w' = w7) ?_ ?_
      · refine BIf.dec (fun h1 => (c77 (by omega) (by omega)).mono ?_) (fun h1 => ⟨⟨(fun h => nomatch h), fun hh => by omega⟩, rfl⟩)
        rintro _ w7 ⟨rfl, rfl⟩
        refine ⟨_, rfl, by rw [pw_nat]; omega, ?_, rfl⟩
        rw [pw_nat, Int.tmod_eq_emod_of_nonneg (by omega), beq_iff_eq]
        constructor
        · intro hh; exact ⟨by omega, by omega⟩
        · intro hh; have := hh.2; omega
      rintro (b : Bool) w7 ⟨hb1, rfl⟩
      refine JoinW.cut1 (fun (b : Bool) w' => (b = true ↔ o < 10 ∧ a % 2 ^ (o + 1) = 0 ∧ wholeP l a (2 ^ (o + 1))) ∧ w' = w7) ?_ ?_
      · refine BIf.of (fun h1 => (c77 (by omega) (by omega)).mono ?_) (fun h1 => ⟨⟨(fun h => nomatch h), fun hh => by rw [hb1.2 ⟨hh.1, hh.2.1⟩] at h1; cases h1⟩, rfl⟩)
        rintro _ w7 ⟨rfl, rfl⟩
        refine ⟨_, rfl, ?_⟩
        rw [pw_nat]
        have h7w := c123 (a := a) (n := 2 ^ (o + 1)) h7 (by omega) (by omega)
        rw [hl] at h7w
        refine h7w.mono ?_
        rintro _ w7 ⟨rfl, rfl⟩
        refine ⟨_, rfl, ?_, rfl⟩
        rw [decide_eq_true_eq]
        exact ⟨fun hh => ⟨(hb1.1 h1).1, (hb1.1 h1).2, hh⟩, fun hh => hh.2.2⟩
      clear hb1 b
      rintro (b : Bool) w7 ⟨hb2, rfl⟩
      refine BIf.of (fun hbt => ?_) (fun hbf => ?_)
      · have hh := hb2.1 hbt
        obtain ⟨f, hf10⟩ : ∃ f, 10 - o = f + 1 := ⟨10 - o - 1, by omega⟩
        rw [hf10] at hoF
        unfold ordF at hoF
        rw [if_pos hh] at hoF
        exact hJ2 _ _ ⟨o + 1, by omega, by omega, by rw [show 10 - (o + 1) = f by omega]; exact hoF, rfl⟩ (by omega)
      · have hoO : o = O := by
          rw [← hoF]
          cases hf10 : 10 - o with
          | zero => rfl
          | succ f => unfold ordF; rw [if_neg (fun hh => by rw [hb2.2 hh] at hbf; cases hbf)]
        subst hoO
        have hpo1 : 2 ^ o ≤ 2 ^ 10 := pow_le (by omega)
        have hpo2 : 1 ≤ 2 ^ o := Nat.one_le_two_pow
        have hpo3 : (2 : Nat) ^ 10 = 1024 := by decide
        have hll := own7.len
        rw [blocks_len] at hll
        refine ⟨t, hf7.cell 1, LetW_iff.2 ?_⟩
        refine AppendW.one (b0 := w4.heap.size) (z := 2) (x := [.int .i64 (a : Int), .int .i64 (o : Int)]) own7 z7 rfl rfl rfl (by decide) (by show (t.len + 1) * 16 ≤ _; omega) (fun v hv => by simp only [List.mem_cons, List.not_mem_nil, or_false] at hv; rcases hv with rfl | rfl <;> rfl) (fun s' w22 h1 h2 h3 h4 => ?_)
        have e22 : Ext w w22 := e7.own h3 (fun i hi => by have := hi.1; have := e4.size; omega)
        have z22 := h3.size
        have hf22 := hf7.only h3 (fun hh => by have := hh.1; have := e24.size; omega)
        have hr22 := hr7.only h3 (fun hh => by have := hh.1; have := e4.size; omega)
        refine set_step hf22 (by simp) (fun w23 o23 hf23 n23 => ?_)
        have e23 : Ext w w23 := e22.own o23 (fun i hi => by omega)
        have hr23 := hr22.only o23 (by omega)
        have own23 := h2.only o23 (fun b _ hb0 _ hbb => by have := e24.size; omega)
        refine (c77 (by omega) (by omega)).mono ?_
        rintro _ w23 ⟨rfl, rfl⟩
        refine ⟨_, rfl, ?_⟩
        rw [pw_nat, w64 (by omega) (by omega)]
        refine hJ _ _ ⟨a + 2 ^ o, out ++ [⟨a, o⟩], s', by omega, by rw [List.length_append, List.length_singleton]; omega, by omega, by rw [List.append_assoc]; exact hls, e23, by omega, hr23, hf23, ?_⟩ (by omega)
        rw [List.flatMap_append]
        exact own23
  · rw [listF_end (by omega), List.append_nil] at hls
    subst hls
    refine ⟨_, hf7.cell 0, t, hf7.cell 1, put_step hr7 rfl rfl (fun w38 o38 hr38 n38 => ?_)⟩
    have z4 := e4.size
    have own38 := own7.only o38 (fun b _ hb0 _ hbb => by omega)
    exact ⟨_, hr38.cell 0, t, hr38.cell 1, t, rfl, own38.mono z4, e7.own o38 (fun i hi => by omega)⟩
/-! ## The program's side -/
theorem c129 {s : Sl} {l : List Bool} {w : World} (h : Bls w s l) : CallW Tryz.prog 129 #[.slice s.a s.len s.cap, .bool false] w (fun v w' => ∃ i : Int, v = .int .i64 i ∧ (i < 0 ↔ ∀ k, k < l.length → l.getD k false = true) ∧ w' = w) := by
  refine go129 ?_
  unfold W129
  have hl := h.len
  have hs := h.small
  rw [hl]
  refine LoopW.m1 (fun (i : Int) w' => ∃ k : Nat, i = k ∧ k ≤ l.length ∧ (∀ j, j < k → l.getD j false = true) ∧ w' = w) (fun (i : Int) _ => ((l.length : Int) - i).toNat) ⟨0, rfl, by omega, fun j hj => absurd hj (Nat.not_lt_zero _), rfl⟩ ?_
  rintro (i : Int) w ⟨k, rfl, hk, hall, rfl⟩ J hJ
  refine BIf.dec (fun hlt => ?_) (fun hge => ⟨_, rfl, ⟨fun _ j hj => hall j (by omega), fun _ => by omega⟩, rfl⟩)
  rw [Int.toNat_natCast]
  obtain ⟨p, hp, hc⟩ := h.at (i := k) (by omega)
  refine ⟨by omega, by omega, p, hp, _, hc, BIf.of (fun hb => ?_) (fun hb => ?_)⟩
  · have hb : l.getD k false = false := (eq_of_beq hb).symm
    exact ⟨_, rfl, ⟨fun hh => by omega, fun hh => by rw [hh k (by omega)] at hb; cases hb⟩, rfl⟩
  · have hb : l.getD k false = true := by
      cases hx : l.getD k false with
      | true => rfl
      | false => rw [hx] at hb; cases hb
    rw [w64 (by omega) (by omega)]
    refine hJ _ _ ⟨k + 1, by omega, by omega, fun j hj => ?_, rfl⟩ (by omega)
    by_cases hjk : j = k
    · rw [hjk]; exact hb
    · exact hall j (by omega)
theorem c128 {s : Sl} {l : List Bool} {w : World} (h : Bls w s l) : CallW Tryz.prog 128 #[.slice s.a s.len s.cap, .bool false] w (fun v w' => ∃ b, v = .bool b ∧ (b = false ↔ ∀ k, k < l.length → l.getD k false = true) ∧ w' = w) := by
  refine go128 ?_
  unfold W128
  refine (c129 h).mono ?_
  rintro _ w ⟨i, rfl, hiff, rfl⟩
  refine ⟨i, rfl, _, rfl, ?_, rfl⟩
  rw [← hiff, decide_eq_false_iff_not]; omega
structure WCtx (w : World) (bF bM bW b0 : Nat) (s : Sl) (l : List Bool) : Prop where
  m : Blk w bM [.slice s.a s.len s.cap]
  bl : Bls w s l
  fn : Blk w bW [.func (.func 127) ⟨[]⟩ ⟨[.pointer (some ⟨bF, 0, none⟩), .pointer (some ⟨bM, 0, none⟩), .pointer (some ⟨bW, 0, none⟩)]⟩]
  mo : ∀ p, s.a = some p → 0 < l.length → p.block ≠ bF
  nm : bM ≠ bF ∧ bM < b0
  nw : bW ≠ bF ∧ bW < b0
  nf : bF < b0
  bsz : b0 ≤ w.heap.size
  old : ∀ p, s.a = some p → 0 < l.length → p.block < b0
theorem WCtx.only {w w' : World} {bF bM bW b0 : Nat} {s : Sl} {l : List Bool} (h : WCtx w bF bM bW b0 s l) (o : Only (fun k => k = bF ∨ b0 ≤ k) w w') : WCtx w' bF bM bW b0 s l := by
  have hn := h.nm
  have hw := h.nw
  refine ⟨h.m.only o (by omega), ?_, h.fn.only o (by omega), h.mo, h.nm, h.nw, h.nf, Nat.le_trans h.bsz o.size, h.old⟩
  by_cases h0 : 0 < l.length
  · exact h.bl.only o (fun p hp _ hh => by
      have := h.old p hp h0
      have := h.mo p hp h0
      omega)
  · refine ⟨h.bl.len, h.bl.cap, ⟨h.bl.row.1, fun hn => ?_⟩, h.bl.small⟩
    have := h.bl.len; omega
def WV (bF b0 : Nat) (T : Int) (out : List DBlock) (w : World) (v : Value) (w' : World) : Prop := v = .tuple #[] ∧ Only (fun k => k = bF ∨ b0 ≤ k) w w' ∧ ∃ t : Sl, Blk w' bF [.int .i64 T, .slice t.a t.len t.cap] ∧ OwnS w' b0 t 2 (out.flatMap DBlock.cells)
def wPtrs (bF bM bW : Nat) : List Value := [.pointer (some ⟨bF, 0, none⟩), .pointer (some ⟨bM, 0, none⟩), .pointer (some ⟨bW, 0, none⟩)]
theorem walkF_eq (l : List Bool) (o a : Nat) : walkF l o a = if l.length ≤ a then [] else if wholeP l a (2 ^ o) then [⟨a, (o : Int)⟩] else match o with | 0 => [] | o' + 1 => walkF l o' a ++ walkF l o' (a + 2 ^ o') := by
  cases o <;> rfl
theorem getD_cut {l : List Bool} {a n k : Nat} (hk : k < n) : ((l.drop a).take n).getD k false = l.getD (a + k) false := by
  simp only [List.getD_eq_getElem?_getD, List.getElem?_take, List.getElem?_drop]
  rw [if_pos hk]
theorem c127s {bF bM bW b0 : Nat} {s : Sl} {l : List Bool} (hl1024 : l.length ≤ 1024) {o : Nat} (ho : o ≤ 10)
    (hrec : o = 0 ∨ ∃ o', o = o' + 1 ∧ ∀ {a : Nat} {out : List DBlock} {t : Sl} {w : World}, a ≤ 4096 → WCtx w bF bM bW b0 s l → Blk w bF [.int .i64 (l.length : Int), .slice t.a t.len t.cap] → OwnS w b0 t 2 (out.flatMap DBlock.cells) → out.length + 2 ^ o' ≤ 4096 →
      CallW Tryz.prog 127 ⟨[.int .i64 (a : Int), .int .i64 (o' : Int)] ++ wPtrs bF bM bW⟩ w (WV bF b0 l.length (out ++ walkF l o' a) w))
    {a : Nat} {out : List DBlock} {t : Sl} {w : World} (ha : a ≤ 4096) (h : WCtx w bF bM bW b0 s l) (hF : Blk w bF [.int .i64 (l.length : Int), .slice t.a t.len t.cap]) (own : OwnS w b0 t 2 (out.flatMap DBlock.cells)) (hol : out.length + 2 ^ o ≤ 4096) :
    CallW Tryz.prog 127 ⟨[.int .i64 (a : Int), .int .i64 (o : Int)] ++ wPtrs bF bM bW⟩ w (WV bF b0 l.length (out ++ walkF l o a) w) := by
  refine go127 (a0 := (a : Int)) (a1 := (o : Int)) (c0 := ⟨bF, 0, none⟩) (c1 := ⟨bM, 0, none⟩) (c2 := ⟨bW, 0, none⟩) ?_
  unfold W127
  have hp1 : 2 ^ o ≤ 2 ^ 10 := pow_le ho
  have hp2 : 1 ≤ 2 ^ o := Nat.one_le_two_pow
  have hp3 : (2 : Nat) ^ 10 = 1024 := by decide
  have hbl := h.bl.len
  have hcap := h.bl.cap
  have hwe := walkF_eq l o a
  refine ⟨by omega, _, hF.cell 0, BIf.dec (fun hge => ?_) (fun hlt => ?_)⟩
  · rw [if_pos (by omega)] at hwe
    rw [hwe, List.append_nil]
    exact ⟨rfl, Only.refl _ _, t, hF, own⟩
  rw [if_neg (by omega)] at hwe
  refine ⟨_, hF.cell 0, ?_⟩
  rw [shl_pw (by omega) (by omega), pw_nat]
  have hsum : IntKind.i64.wrap ((a : Int) + ((2 ^ o : Nat) : Int)) = ((a + 2 ^ o : Nat) : Int) := by rw [w64 (by omega) (by omega)]; omega
  rw [hsum]
  refine JoinW.cut1 (fun (b : Bool) w' => (b = true ↔ wholeP l a (2 ^ o)) ∧ w' = w) ?_ ?_
  · refine BIf.dec (fun h1 => ⟨s, h.m.cell 0, by omega, by omega, by omega, by omega, ?_⟩) (fun h1 => ⟨⟨(fun hh => nomatch hh), fun hh => by have := hh.1; omega⟩, rfl⟩)
    rw [Int.toNat_natCast, Int.toNat_natCast, show a + 2 ^ o - a = 2 ^ o by omega]
    refine (c128 (h.bl.cut (a := a) (n := 2 ^ o) (by omega) (by omega))).mono ?_
    rintro _ w ⟨b, rfl, hiff, rfl⟩
    refine ⟨b, rfl, ?_, rfl⟩
    have hlen : ((l.drop a).take (2 ^ o)).length = 2 ^ o := by simp; omega
    rw [hlen] at hiff
    rw [Bool.not_eq_true', hiff]
    exact ⟨fun hh => ⟨by omega, fun i hi => by rw [← getD_cut hi]; exact hh i hi⟩, fun hh k hk => by rw [getD_cut hk]; exact hh.2 k hk⟩
  rintro (b : Bool) w ⟨hiff, rfl⟩
  have hnf := h.nf
  have hbsz := h.bsz
  refine BIf.of (fun hbt => ?_) (fun hbf => ?_)
  · rw [if_pos (hiff.1 hbt)] at hwe
    have hll := own.len
    rw [blocks_len] at hll
    refine ⟨t, hF.cell 1, LetW_iff.2 ?_⟩
    refine AppendW.one (b0 := b0) (z := 2) (x := [.int .i64 (a : Int), .int .i64 (o : Int)]) own hbsz rfl rfl rfl (by decide) (by show (t.len + 1) * 16 ≤ _; omega) (fun v hv => by simp only [List.mem_cons, List.not_mem_nil, or_false] at hv; rcases hv with rfl | rfl <;> rfl) (fun s' w9 h1 h2 h3 h4 => ?_)
    have hF9 := hF.only h3 (fun hh => by have := hh.1; omega)
    refine set_step (i := 1) hF9 (by simp) (fun w10 o10 hF10 n10 => ?_)
    refine ⟨rfl, Only.step (h3.mono (fun i _ hi => .inr hi.1)) o10 (fun i _ hi => .inl hi), s', hF10, ?_⟩
    rw [hwe, List.flatMap_append]
    exact h2.only o10 (fun b _ hb0 _ hbb => by have hbb : b = bF := hbb; omega)
  · rw [if_neg (fun hh => by rw [hiff.2 hh] at hbf; cases hbf)] at hwe
    rcases hrec with rfl | ⟨o', rfl, hrec⟩
    · refine BIf.t rfl ⟨rfl, Only.refl _ _, t, hF, ?_⟩
      rw [hwe, List.append_nil]; exact own
    · have hpo : 2 ^ (o' + 1) = 2 ^ o' * 2 := Nat.pow_succ 2 o'
      have hpo1 : 1 ≤ 2 ^ o' := Nat.one_le_two_pow
      have ho1 : IntKind.i64.wrap (((o' + 1 : Nat) : Int) - 1) = (o' : Int) := by rw [w64 (by omega) (by omega)]; omega
      have hd : IntKind.i64.wrap ((a : Int) + IntKind.i64.wrap (Int.tdiv ((2 ^ (o' + 1) : Nat) : Int) 2)) = ((a + 2 ^ o' : Nat) : Int) := by
        rw [Int.tdiv_eq_ediv_of_nonneg (by omega), w64 (n := ((2 ^ (o' + 1) : Nat) : Int) / 2) (by omega) (by omega), w64 (by omega) (by omega)]; omega
      rw [ho1, hd]
      refine BIf.f (by simp; omega) ⟨⟨127, [], wPtrs bF bM bW⟩, h.fn.cell 0, ?_⟩
      refine CallW.mono (K := WV bF b0 l.length (out ++ walkF l o' a) w) (hrec ha h hF own (by omega)) ?_
      rintro _ w13 ⟨rfl, o13, t2, hF2, own2⟩
      have h13 := h.only o13
      have hwl := walkF_len (l := l) o' a
      refine ⟨rfl, ⟨127, [], wPtrs bF bM bW⟩, h13.fn.cell 0, by omega, ?_⟩
      refine CallW.mono (K := WV bF b0 l.length ((out ++ walkF l o' a) ++ walkF l o' (a + 2 ^ o')) w13) (hrec (by omega) h13 hF2 own2 (by rw [List.length_append]; omega)) ?_
      rintro _ w16 ⟨rfl, o16, t3, hF3, own3⟩
      refine ⟨rfl, rfl, o13.step o16 (fun i _ hi => hi), t3, hF3, ?_⟩
      rw [hwe, ← List.append_assoc]; exact own3
theorem c127 {bF bM bW b0 : Nat} {s : Sl} {l : List Bool} (hl1024 : l.length ≤ 1024) : ∀ (o : Nat), o ≤ 10 → ∀ {a : Nat} {out : List DBlock} {t : Sl} {w : World}, a ≤ 4096 → WCtx w bF bM bW b0 s l → Blk w bF [.int .i64 (l.length : Int), .slice t.a t.len t.cap] → OwnS w b0 t 2 (out.flatMap DBlock.cells) → out.length + 2 ^ o ≤ 4096 →
    CallW Tryz.prog 127 ⟨[.int .i64 (a : Int), .int .i64 (o : Int)] ++ wPtrs bF bM bW⟩ w (WV bF b0 l.length (out ++ walkF l o a) w)
  | 0, ho, _, _, _, _, ha, h, hF, own, hol => c127s hl1024 ho (.inl rfl) ha h hF own hol
  | o + 1, ho, _, _, _, _, ha, h, hF, own, hol => c127s hl1024 ho (.inr ⟨o, rfl, fun {a out t w} ha h hF own hol => c127 hl1024 o (by omega) ha h hF own hol⟩) ha h hF own hol
theorem Bls.old {w : World} {s : Sl} {l : List Bool} (h : Bls w s l) (h0 : 0 < l.length) {p : Addr} (hp : s.a = some p) : p.block < w.heap.size := by
  obtain ⟨q, hq, hc⟩ := h.row.cell (bools_get h0)
  rw [hp] at hq; cases hq
  unfold World.cell? at hc
  rw [add_zero] at hc
  rcases hb : w.heap[p.block]? with _ | o
  · rw [hb] at hc; exact absurd hc (by simp)
  · exact (Array.getElem?_eq_some_iff.1 hb).1
theorem c121 {s : Sl} {l : List Bool} {w : World} (h : Bls w s l) (hl1024 : l.length ≤ 1024) : CallW Tryz.prog 121 #[.slice s.a s.len s.cap] w (FrV l.length (listF l 0) w) := by
  refine go121 ?_
  unfold W121
  have hl := h.len
  refine alloc_step (fun w1 e1 hM n1 => ?_)
  refine alloc_step (fun w2 e2 hr n2 => ?_)
  have hM2 := hM.ext e2
  refine ⟨s, hM2.cell 0, ?_⟩
  rw [hl]
  refine alloc_step (fun w4 e4 hF n4 => put_step hF rfl rfl (fun w5 o5 hF n5 => ?_))
  have e25 : Ext w2 w5 := Ext.own e4 o5 (fun k hk => by omega)
  refine alloc_step (fun w6 e6 hW n6 => set_step hW (by simp) (fun w7 o7 hW n7 => ?_))
  have e57 : Ext w5 w7 := Ext.own e6 o7 (fun k hk => by omega)
  have e27 := Only.trans e25 e57
  have e7 : Ext w w7 := Only.trans e1 (Only.trans e2 e27)
  have z7 := e7.size
  have hctx : WCtx w7 w2.heap.size w.heap.size w5.heap.size w7.heap.size s l := ⟨hM2.ext e27, h.ext e7, hW, fun p hp h0 => by have := h.old h0 hp; omega, by omega, by omega, by omega, Nat.le_refl _, fun p hp h0 => by have := h.old h0 hp; omega⟩
  refine ⟨⟨127, [], wPtrs w2.heap.size w.heap.size w5.heap.size⟩, hW.cell 0, ?_⟩
  refine CallW.mono (K := WV w2.heap.size w7.heap.size l.length ([] ++ walkF l 10 0) w7) (c127 (a := 0) hl1024 10 (by omega) (by omega) hctx (hF.ext e57) (t := ⟨none, 0, 0⟩) (out := []) (OwnS.none _ _ _ _) (by decide)) ?_
  rintro _ w10 ⟨rfl, o10, t, hF10, own10⟩
  have hr10 := (hr.ext e27).only o10 (fun hh => by omega)
  refine ⟨rfl, _, hF10.cell 0, t, hF10.cell 1, put_step hr10 rfl rfl (fun w13 o13 hr13 n13 => ?_)⟩
  have z10 := o10.size
  have e10 : Ext w w10 := e7.own o10 (fun i hi => by omega)
  rw [List.nil_append, ← list_eq hl1024] at own10
  refine ⟨_, hr13.cell 0, t, hr13.cell 1, t, rfl, (own10.only o13 (fun b _ hb0 _ hbb => by omega)).mono z7, e10.own o13 (fun i hi => by omega)⟩
end Go.Proofs.YtkgoanjemhbjgaaGreat

/- Frames: one taken, on both sides. Conditions: none. -/
set_option linter.unusedVariables false
set_option linter.unusedSimpArgs false
namespace Go.Proofs.YtkgoanjemhbjgaaGreat
open Go Go.Den
def setV (b : Bool) (l : List Bool) (a : Nat) : Nat → List Bool
  | 0 => l
  | k + 1 => (setV b l a k).set (a + k) b
theorem setV_len (b : Bool) (l : List Bool) (a : Nat) : ∀ k, (setV b l a k).length = l.length
  | 0 => rfl
  | k + 1 => by unfold setV; rw [List.length_set, setV_len b l a k]
theorem c105 {q a n : Nat} {b : Bool} {l : List Bool} {w : World} (h : Blk w q (bools l)) (hn : a + n ≤ l.length) (hs : l.length ≤ 4096) : CallW Tryz.prog 105 #[.slice (some ⟨q, 0, none⟩) l.length l.length, .int .i64 (a : Int), .int .i64 (n : Int), .bool b] w (fun v w' => v = .tuple #[] ∧ Blk w' q (bools (setV b l a n)) ∧ Only (fun k => k = q) w w') := by
  refine CallW.mono (go105 (a0 := ⟨some ⟨q, 0, none⟩, l.length, l.length⟩) (K := fun v w' => v = .tuple #[] ∧ Blk w' q (bools (setV b l a n)) ∧ Only (fun k => k = q) w w') ?_) (fun _ _ h => h)
  unfold W105
  refine LoopW.m1 (fun (i : Int) w' => ∃ k : Nat, i = k ∧ k ≤ n ∧ Blk w' q (bools (setV b l a k)) ∧ Only (fun k => k = q) w w') (fun (i : Int) _ => ((n : Int) - i).toNat) ⟨0, rfl, by omega, h, Only.refl _ _⟩ ?_
  rintro (i : Int) w3 ⟨k, rfl, hk, h3, o3⟩ J hJ
  refine BIf.dec (fun hlt => ?_) (fun hge => ?_)
  · have hidx : IntKind.i64.wrap ((a : Int) + (k : Int)) = ((a + k : Nat) : Int) := by rw [w64 (by omega) (by omega)]; omega
    rw [hidx, Int.toNat_natCast]
    refine ⟨by omega, by show ((a + k : Nat) : Int) < ((l.length : Nat) : Int); omega, _, rfl, set1_step h3 (by rw [bools_len, setV_len]; omega) (fun w5 o5 h5 n5 => ?_)⟩
    rw [bools_set] at h5
    rw [w64 (by omega) (by omega)]
    exact hJ _ _ ⟨k + 1, by omega, by omega, h5, Only.trans o3 o5⟩ (by omega)
  · have : k = n := by omega
    subst this
    exact ⟨rfl, h3, o3⟩
theorem c76 {l : Sl} {T : Int} {fr : List DBlock} {w : World} (h : FrAt w l fr) : CallW Tryz.prog 76 #[.agg #[.int .i64 T, .slice l.a l.len l.cap]] w (FrV T fr w) := by
  refine go76 ?_
  unfold W76
  have hl := h.len
  have hs := h.few
  refine alloc_step (fun w1 e1 hb n1 => ?_)
  refine alloc_step (fun w2 e2 hz n2 => ?_)
  have hb := (hb.ext e2).ext (ext_drew w2)
  have hz := hz.ext (ext_drew w2)
  have e := Only.trans e1 (Only.trans e2 (ext_drew w2))
  have zd : w2.drew.heap.size = w2.heap.size := rfl
  generalize w2.drew = w2 at *
  refine ⟨_, hb.cell 0, l, hb.cell 1, ?_⟩
  refine alloc_step (fun w5 e5 _ n5 => ?_)
  have hb := hb.ext e5
  have hz := hz.ext e5
  have e := Only.trans e e5
  refine ⟨⟨l, hb.cell 1, rfl⟩, ⟨_, hb.cell 0, rfl⟩, ?_⟩
  refine AppendW.own (b0 := w5.heap.size) (z := 2) (os := []) (vs := fr.flatMap DBlock.cells) (OwnS.none _ _ _ _) ((h.ext e).row) rfl rfl (by decide) (by show (0 + l.len) * 16 ≤ _; omega) plain_blk (Nat.le_refl _) (fun s' w9 h1 h2 h3 h4 => ?_)
  have e9 : Ext w5 w9 := h3.mono (fun k hk hh => by have h5 := hh.1; omega)
  have hb := hb.ext e9
  have hz := hz.ext e9
  have e := Only.trans e e9
  have z9 := e9.size
  refine ⟨⟨_, hb.cell 0, rfl⟩, put_step hz rfl rfl (fun w11 o11 hz n11 => ?_)⟩
  have e := Ext.own e o11 (fun k hk => by omega)
  have h2 := h2.only o11 (fun b _ hb0 _ hbb => by omega)
  exact ⟨_, hz.cell 0, s', hz.cell 1, s', rfl, h2.mono (by omega), e⟩
/-! ## The best block -/
def ordAt (fr : List DBlock) (i : Int) : Int := match fr[i.toNat]? with | some y => y.Order | none => 0
def bestF (fr : List DBlock) (o : Int) : Nat → Int
  | 0 => -1
  | k + 1 => match fr[k]? with
    | none => bestF fr o k
    | some x => if o ≤ x.Order ∧ (bestF fr o k < 0 ∨ x.Order < ordAt fr (bestF fr o k)) then (k : Int) else bestF fr o k
theorem bestF_rng (fr : List DBlock) (o : Int) : ∀ k, -1 ≤ bestF fr o k ∧ bestF fr o k < k
  | 0 => by unfold bestF; omega
  | k + 1 => by
    have := bestF_rng fr o k
    unfold bestF
    split
    · omega
    · split <;> omega
theorem bestF_ord (fr : List DBlock) (o : Int) : ∀ k, bestF fr o k = -1 ∨ ∃ x, fr[(bestF fr o k).toNat]? = some x ∧ o ≤ x.Order
  | 0 => .inl rfl
  | k + 1 => by
    have := bestF_ord fr o k
    unfold bestF
    split
    · exact this
    · rename_i x hx
      split
      · rename_i h; exact .inr ⟨x, by rw [Int.toNat_natCast]; exact hx, h.1⟩
      · exact this
open Classical in
noncomputable def takeF (T : Int) (fr : List DBlock) (o : Int) : Int × List DBlock × Int :=
  if ¬ FOk T fr ∨ o < 0 ∨ 10 < o then (0, [], -1)
  else if bestF fr o fr.length < 0 then (T, fr, -1)
  else match fr[(bestF fr o fr.length).toNat]? with
    | none => (T, fr, -1)
    | some x => (T, listF (setV false (freeL T fr) x.At.toNat (2 ^ o.toNat)) 0, x.At)
def TkV (r : Int × List DBlock × Int) (w : World) (v : Value) (w' : World) : Prop := ∃ t : Sl, v = .tuple #[.agg #[.int .i64 r.1, .slice t.a t.len t.cap], .int .i64 r.2.2] ∧ OwnS w' w.heap.size t 2 (r.2.1.flatMap DBlock.cells) ∧ Ext w w'
theorem takeF_bad {T o : Int} {fr : List DBlock} (h : ¬ FOk T fr ∨ o < 0 ∨ 10 < o) : takeF T fr o = (0, [], -1) := by unfold takeF; rw [if_pos h]
theorem takeF_none {T o : Int} {fr : List DBlock} (h : ¬ (¬ FOk T fr ∨ o < 0 ∨ 10 < o)) (hb : bestF fr o fr.length < 0) : takeF T fr o = (T, fr, -1) := by unfold takeF; rw [if_neg h, if_pos hb]
theorem takeF_some {T o : Int} {fr : List DBlock} (h : ¬ (¬ FOk T fr ∨ o < 0 ∨ 10 < o)) {x : DBlock} (hb : 0 ≤ bestF fr o fr.length) (hx : fr[(bestF fr o fr.length).toNat]? = some x) : takeF T fr o = (T, listF (setV false (freeL T fr) x.At.toNat (2 ^ o.toNat)) 0, x.At) := by unfold takeF; rw [if_neg h, if_neg (by omega), hx]
theorem pow_mono_le {a b : Int} (h : a ≤ b) : pw a ≤ pw b := by
  unfold pw
  have : 2 ^ a.toNat ≤ 2 ^ b.toNat := pow_le (by omega)
  omega
theorem c57 {l : Sl} {T o : Int} {fr : List DBlock} {w : World} (h : FrAt w l fr) : CallW Tryz.prog 57 #[.agg #[.int .i64 T, .slice l.a l.len l.cap], .int .i64 o] w (TkV (takeF T fr o) w) := by
  refine go57 ?_
  unfold W57
  have hl := h.len
  have hfew := h.few
  refine alloc_step (fun w1 e1 hb n1 => ?_)
  refine alloc_step (fun w2 e2 hz n2 => ?_)
  have hb := hb.ext e2
  have e := Only.trans e1 e2
  refine ⟨_, hb.cell 0, l, hb.cell 1, (c55 (h.ext e)).mono ?_⟩
  rintro _ w6 ⟨b, rfl, hiff, e6⟩
  have hb := hb.ext e6
  have hz := hz.ext e6
  have e := Only.trans e e6
  have z6 := e6.size
  refine ⟨b, rfl, ?_⟩
  simp only [join_or]
  refine BIf.of (fun hbad => ?_) (fun hgood => ?_)
  · have hbd : ¬ FOk T fr ∨ o < 0 ∨ 10 < o := by
      simp only [Bool.or_eq_true, Bool.not_eq_true', decide_eq_true_eq] at hbad
      rcases hbad with (hb1 | hb1) | hb1
      · exact .inl (fun hf => by rw [hiff.2 hf] at hb1; cases hb1)
      · exact .inr (.inl hb1)
      · exact .inr (.inr hb1)
    refine put_step hz rfl rfl (fun w14 o14 hz n14 => ?_)
    refine ⟨_, hz.cell 0, ⟨none, 0, 0⟩, hz.cell 1, ?_⟩
    rw [takeF_bad hbd]
    exact ⟨⟨none, 0, 0⟩, rfl, OwnS.none _ _ _ _, Ext.own e o14 (fun k hk => by omega)⟩
  have hgd : ¬ (¬ FOk T fr ∨ o < 0 ∨ 10 < o) := by
    simp only [Bool.or_eq_false_iff, Bool.not_eq_false', decide_eq_false_iff_not] at hgood
    rintro (hh | hh | hh)
    · exact hh (hiff.1 hgood.1.1)
    · omega
    · omega
  have hok : FOk T fr := Classical.byContradiction (fun hn => hgd (.inl hn))
  refine LoopW.m2 (fun (best i : Int) w' => ∃ k : Nat, i = k ∧ k ≤ fr.length ∧ best = bestF fr o k ∧ Ext w6 w') (fun _ (i : Int) _ => ((fr.length : Int) - i).toNat) ⟨0, rfl, by omega, rfl, Only.refl _ _⟩ ?_
  rintro (best : Int) (i : Int) w20 ⟨k, rfl, hk, rfl, e20⟩ J hJ
  have hb20 := hb.ext e20
  have hz20 := hz.ext e20
  have ew20 := Only.trans e e20
  have z20 := e20.size
  have hr := bestF_rng fr o k
  refine ⟨l, hb20.cell 1, ?_⟩
  rw [hl]
  refine BIf.dec (fun hlt => ?_) (fun hge => ?_)
  · obtain ⟨x, hx⟩ : ∃ x, fr[k]? = some x := ⟨_, List.getElem?_eq_getElem (by omega)⟩
    have hst : bestF fr o (k + 1) = if o ≤ x.Order ∧ (bestF fr o k < 0 ∨ x.Order < ordAt fr (bestF fr o k)) then (k : Int) else bestF fr o k := by
      rw [bestF, hx]; try rfl
    have ed := ext_drew w20
    refine JoinW.cut1 (fun (b : Bool) w' => (b = true ↔ o ≤ x.Order ∧ (bestF fr o k < 0 ∨ x.Order < ordAt fr (bestF fr o k))) ∧ Ext w20 w') ?_ ?_
    · generalize w20.drew = w21 at *
      have hb21 := hb20.ext ed
      have h21 := h.ext (Only.trans ew20 ed)
      obtain ⟨p, hp, hc0, hc1⟩ := h21.get hx
      refine ⟨l, hb21.cell 1, by omega, by omega, p, hp, _, hc1, ?_⟩
      refine BIf.dec (fun h1 => BIf.dec (fun h2 => ⟨⟨fun _ => ⟨h1, .inl h2⟩, fun _ => rfl⟩, ed⟩) (fun h2 => ?_)) (fun h1 => ⟨⟨(fun hh => nomatch hh), fun hh => absurd hh.1 h1⟩, ed⟩)
      obtain ⟨y, hy⟩ : ∃ y, fr[(bestF fr o k).toNat]? = some y := ⟨_, List.getElem?_eq_getElem (by omega)⟩
      have hoy : ordAt fr (bestF fr o k) = y.Order := by unfold ordAt; rw [hy]
      obtain ⟨q, hq, hd0, hd1⟩ := h21.get hy
      rw [hoy]
      refine ⟨l, hb21.cell 1, by omega, by omega, p, hp, _, hc1, l, hb21.cell 1, by omega, by omega, q, hq, _, hd1, ?_, ed⟩
      rw [decide_eq_true_eq]
      exact ⟨fun hh => ⟨h1, .inr hh⟩, fun hh => by rcases hh.2 with hh | hh; exact absurd hh h2; exact hh⟩
    rintro (b : Bool) w24 ⟨hb24, e24⟩
    rw [w64 (by omega) (by omega)]
    refine BIf.of (fun hbt => ?_) (fun hbf => ?_)
    · exact hJ _ _ _ ⟨k + 1, by omega, by omega, by rw [hst, if_pos (hb24.1 hbt)], Only.trans e20 e24⟩ (by omega)
    · exact hJ _ _ _ ⟨k + 1, by omega, by omega, by rw [hst, if_neg (fun hh => by rw [hb24.2 hh] at hbf; cases hbf)], Only.trans e20 e24⟩ (by omega)
  · have hkl : k = fr.length := by omega
    subst hkl
    refine BIf.dec (fun hneg => ?_) (fun hpos => ?_)
    · rw [takeF_none hgd hneg]
      refine ⟨_, hb20.cell 0, l, hb20.cell 1, (c76 (h.ext ew20)).mono ?_⟩
      rintro _ w37 ⟨t, rfl, own, e37⟩
      have hz37 := hz20.ext e37
      have z37 := e37.size
      refine ⟨_, t, rfl, put_step hz37 rfl rfl (fun w40 o40 hz40 n40 => ?_)⟩
      have own40 := own.only o40 (fun b _ hb0 _ hbb => by omega)
      exact ⟨_, hz40.cell 0, t, hz40.cell 1, t, rfl, own40.mono (by omega), Ext.own (Only.trans ew20 e37) o40 (fun k hk => by omega)⟩
    · obtain ⟨x, hx⟩ : ∃ x, fr[(bestF fr o fr.length).toNat]? = some x := ⟨_, List.getElem?_eq_getElem (by omega)⟩
      rw [takeF_some hgd (by omega) hx]
      have hbo := blkOk_out (hok.2.2 _ x hx).1
      have hox : o ≤ x.Order := by
        rcases bestF_ord fr o fr.length with hh | ⟨y, hy, hyo⟩
        · omega
        · rw [hx] at hy; cases hy; exact hyo
      have hT0 := hok.1
      have hT1 := hok.2.1
      have ho0 : 0 ≤ o := by omega
      have hpo := pw_rng (o := o) (by omega)
      have hpm := pow_mono_le hox
      have hpn : pw o = ((2 ^ o.toNat : Nat) : Int) := rfl
      refine ⟨_, hb20.cell 0, l, hb20.cell 1, (c75 (h.ext ew20) hok).mono ?_⟩
      rintro _ w46 ⟨bf, rfl, hbf0, hbf, e46⟩
      have z46 := e46.size
      have e46d := Only.trans e46 (ext_drew w46)
      have hb46 := hb20.ext e46d
      have hz46 := hz20.ext e46d
      have hbf46 := hbf.ext (ext_drew w46)
      have zd : w46.drew.heap.size = w46.heap.size := rfl
      generalize w46.drew = w47 at *
      have h47 := h.ext (Only.trans ew20 e46d)
      obtain ⟨p, hp, hc0, hc1⟩ := h47.get hx
      refine ⟨⟨some ⟨bf, 0, none⟩, T.toNat, T.toNat⟩, rfl, l, hb46.cell 1, by omega, by omega, p, hp, _, hc0, (c77 ho0 (by omega)).mono ?_⟩
      rintro _ w47 ⟨rfl, rfl⟩
      refine ⟨_, rfl, ⟨_, hc0, rfl⟩, ⟨l, hb46.cell 1, rfl⟩, ?_⟩
      have hfl := freeL_len T fr
      have hmk := c105 (a := x.At.toNat) (n := 2 ^ o.toNat) (b := false) hbf46 (by omega) (by omega)
      rw [hfl, show ((x.At.toNat : Nat) : Int) = x.At by omega] at hmk
      refine hmk.mono ?_
      rintro _ w57 ⟨rfl, hbf57, o57⟩
      have eb57 : Ext w20 w57 := Ext.own e46d o57 (fun k hk => by omega)
      have e57d := Only.trans eb57 (ext_drew w57)
      have hb57 := hb20.ext e57d
      have hz57 := hz20.ext e57d
      have hbf57 := hbf57.ext (ext_drew w57)
      have zd2 : w57.drew.heap.size = w57.heap.size := rfl
      generalize w57.drew = w58 at *
      have h58 := h.ext (Only.trans ew20 e57d)
      obtain ⟨p2, hp2, hd0, hd1⟩ := h58.get hx
      rw [hp] at hp2; cases hp2
      refine ⟨rfl, l, hb57.cell 1, by omega, by omega, p, hp, _, hd0, ?_⟩
      have hlen2 : (setV false (freeL T fr) x.At.toNat (2 ^ o.toNat)).length = T.toNat := by rw [setV_len, hfl]
      have hls := c106 (bls_blk hbf57 (by omega)) (by omega)
      rw [hlen2] at hls
      refine hls.mono ?_
      rintro _ w62 ⟨t, rfl, own62, e62⟩
      have hb62 := hb57.ext e62
      have hz62 := hz57.ext e62
      have z57 := e57d.size
      have z62 := e62.size
      refine ⟨_, t, rfl, ⟨_, e62.cell hd0, rfl⟩, ⟨l, hb62.cell 1, rfl⟩, put_step hz62 rfl rfl (fun w67 o67 hz67 n67 => ?_)⟩
      have hb67 := hb62.only o67 (by omega)
      have e67 : Ext w w67 := Ext.own (Only.trans ew20 (Only.trans e57d e62)) o67 (fun k hk => by omega)
      obtain ⟨p3, hp3, hf0, hf1⟩ := (h.ext e67).get hx
      rw [hp] at hp3; cases hp3
      have own67 := own62.only o67 (fun b _ hb0 _ hbb => by omega)
      refine ⟨⟨_, hf0, rfl⟩, ⟨l, hb67.cell 1, rfl⟩, _, hz67.cell 0, t, hz67.cell 1, t, ?_, own67.mono (by omega), e67⟩
      rw [show ((T.toNat : Nat) : Int) = T by omega]
end Go.Proofs.YtkgoanjemhbjgaaGreat

/- Frames: one taken, on the program's side; pools: a frame taken and cleared. Conditions: none. -/
set_option linter.unusedVariables false
set_option linter.unusedSimpArgs false
namespace Go.Proofs.YtkgoanjemhbjgaaGreat
open Go Go.Den
theorem c93 {l : Sl} {T o : Int} {fr : List DBlock} {w : World} (h : FrAt w l fr) : CallW Tryz.prog 93 #[.agg #[.int .i64 T, .slice l.a l.len l.cap], .int .i64 o] w (TkV (takeF T fr o) w) := by
  refine go93 ?_
  unfold W93
  have hl := h.len
  have hfew := h.few
  refine alloc_step (fun w1 e1 hb n1 => ?_)
  refine alloc_step (fun w2 e2 hz n2 => ?_)
  have hb := hb.ext e2
  have e := Only.trans e1 e2
  refine ⟨_, hb.cell 0, l, hb.cell 1, (c71 (h.ext e)).mono ?_⟩
  rintro _ w6 ⟨b, rfl, hiff, e6⟩
  have hb := hb.ext e6
  have hz := hz.ext e6
  have e := Only.trans e e6
  have z6 := e6.size
  refine ⟨b, rfl, ?_⟩
  simp only [join_or]
  refine BIf.of (fun hbad => ?_) (fun hgood => ?_)
  · have hbd : ¬ FOk T fr ∨ o < 0 ∨ 10 < o := by
      simp only [Bool.or_eq_true, Bool.not_eq_true', decide_eq_true_eq] at hbad
      rcases hbad with (hb1 | hb1) | hb1
      · exact .inl (fun hf => by rw [hiff.2 hf] at hb1; cases hb1)
      · exact .inr (.inl hb1)
      · exact .inr (.inr hb1)
    refine put_step hz rfl rfl (fun w14 o14 hz n14 => ?_)
    refine ⟨_, hz.cell 0, ⟨none, 0, 0⟩, hz.cell 1, ?_⟩
    rw [takeF_bad hbd]
    exact ⟨⟨none, 0, 0⟩, rfl, OwnS.none _ _ _ _, Ext.own e o14 (fun k hk => by omega)⟩
  have hgd : ¬ (¬ FOk T fr ∨ o < 0 ∨ 10 < o) := by
    simp only [Bool.or_eq_false_iff, Bool.not_eq_false', decide_eq_false_iff_not] at hgood
    rintro (hh | hh | hh)
    · exact hh (hiff.1 hgood.1.1)
    · omega
    · omega
  have hok : FOk T fr := Classical.byContradiction (fun hn => hgd (.inl hn))
  refine ⟨l, hb.cell 1, ?_⟩
  rw [hl]
  refine LoopW.m2 (fun (best i : Int) w' => ∃ k : Nat, i = k ∧ k ≤ fr.length ∧ best = bestF fr o k ∧ Ext w6 w') (fun _ (i : Int) _ => ((fr.length : Int) - i).toNat) ⟨0, rfl, by omega, rfl, Only.refl _ _⟩ ?_
  rintro (best : Int) (i : Int) w20 ⟨k, rfl, hk, rfl, e20⟩ J hJ
  have hb20 := hb.ext e20
  have hz20 := hz.ext e20
  have ew20 := Only.trans e e20
  have z20 := e20.size
  have hr := bestF_rng fr o k
  refine BIf.dec (fun hlt => ?_) (fun hge => ?_)
  · obtain ⟨x, hx⟩ : ∃ x, fr[k]? = some x := ⟨_, List.getElem?_eq_getElem (by omega)⟩
    have hst : bestF fr o (k + 1) = if o ≤ x.Order ∧ (bestF fr o k < 0 ∨ x.Order < ordAt fr (bestF fr o k)) then (k : Int) else bestF fr o k := by
      rw [bestF, hx]; try rfl
    obtain ⟨p0, hp0, hx0, hx1⟩ := (h.ext ew20).get hx
    refine ⟨by omega, by omega, p0, hp0, _, hx0, _, hx1, alloc_step (fun w25 e25 hy n25 => blk_put2 hy (fun w26 o26 hy n26 => ?_))⟩
    have e26 : Ext w20 w26 := Ext.own e25 o26 (fun j hj => by omega)
    have ed := Only.trans e26 (ext_drew w26)
    have hy := hy.ext (ext_drew w26)
    refine JoinW.cut1 (fun (b : Bool) w' => (b = true ↔ o ≤ x.Order ∧ (bestF fr o k < 0 ∨ x.Order < ordAt fr (bestF fr o k))) ∧ Ext w20 w') ?_ ?_
    · generalize w26.drew = w21 at *
      have hb21 := hb20.ext ed
      have h21 := h.ext (Only.trans ew20 ed)
      refine ⟨_, hy.cell 1, ?_⟩
      refine BIf.dec (fun h1 => BIf.dec (fun h2 => ⟨⟨fun _ => ⟨h1, .inl h2⟩, fun _ => rfl⟩, ed⟩) (fun h2 => ?_)) (fun h1 => ⟨⟨(fun hh => nomatch hh), fun hh => absurd hh.1 h1⟩, ed⟩)
      obtain ⟨y, hyy⟩ : ∃ y, fr[(bestF fr o k).toNat]? = some y := ⟨_, List.getElem?_eq_getElem (by omega)⟩
      have hoy : ordAt fr (bestF fr o k) = y.Order := by unfold ordAt; rw [hyy]
      obtain ⟨q, hq, hd0, hd1⟩ := h21.get hyy
      rw [hoy]
      refine ⟨_, hy.cell 1, l, hb21.cell 1, by omega, by omega, q, hq, _, hd1, ?_, ed⟩
      rw [decide_eq_true_eq]
      exact ⟨fun hh => ⟨h1, .inr hh⟩, fun hh => by rcases hh.2 with hh | hh; exact absurd hh h2; exact hh⟩
    rintro (b : Bool) w24 ⟨hb24, e24⟩
    rw [w64 (by omega) (by omega)]
    refine BIf.of (fun hbt => ?_) (fun hbf => ?_)
    · exact hJ _ _ _ ⟨k + 1, by omega, by omega, by rw [hst, if_pos (hb24.1 hbt)], Only.trans e20 e24⟩ (by omega)
    · exact hJ _ _ _ ⟨k + 1, by omega, by omega, by rw [hst, if_neg (fun hh => by rw [hb24.2 hh] at hbf; cases hbf)], Only.trans e20 e24⟩ (by omega)
  · have hkl : k = fr.length := by omega
    subst hkl
    refine BIf.dec (fun hneg => ?_) (fun hpos => ?_)
    · rw [takeF_none hgd hneg]
      refine ⟨_, hb20.cell 0, l, hb20.cell 1, (c85 (h.ext ew20)).mono ?_⟩
      rintro _ w37 ⟨t, rfl, own, e37⟩
      have hz37 := hz20.ext e37
      have z37 := e37.size
      refine ⟨_, t, rfl, put_step hz37 rfl rfl (fun w40 o40 hz40 n40 => ?_)⟩
      have own40 := own.only o40 (fun b _ hb0 _ hbb => by omega)
      exact ⟨_, hz40.cell 0, t, hz40.cell 1, t, rfl, own40.mono (by omega), Ext.own (Only.trans ew20 e37) o40 (fun k hk => by omega)⟩
    · obtain ⟨x, hx⟩ : ∃ x, fr[(bestF fr o fr.length).toNat]? = some x := ⟨_, List.getElem?_eq_getElem (by omega)⟩
      rw [takeF_some hgd (by omega) hx]
      have hbo := blkOk_out (hok.2.2 _ x hx).1
      have hox : o ≤ x.Order := by
        rcases bestF_ord fr o fr.length with hh | ⟨y, hy, hyo⟩
        · omega
        · rw [hx] at hy; cases hy; exact hyo
      have hT0 := hok.1
      have hT1 := hok.2.1
      have ho0 : 0 ≤ o := by omega
      have hpo := pw_rng (o := o) (by omega)
      have hpm := pow_mono_le hox
      have hpn : pw o = ((2 ^ o.toNat : Nat) : Int) := rfl
      have hfl := freeL_len T fr
      refine ⟨_, hb20.cell 0, l, hb20.cell 1, (c86 (h.ext ew20) hok).mono ?_⟩
      rintro _ w47 ⟨bf, rfl, hbf0, hbf, e47⟩
      have z47 := e47.size
      have hb47 := hb20.ext e47
      have hz47 := hz20.ext e47
      have hbfl := hbf.lt
      obtain ⟨p, hp, hc0, hc1⟩ := (h.ext (Only.trans ew20 e47)).get hx
      refine ⟨⟨some ⟨bf, 0, none⟩, T.toNat, T.toNat⟩, rfl, l, hb47.cell 1, by omega, by omega, p, hp, _, hc0, _, hc1, alloc_step (fun w53 e53 hy n53 => blk_put2 hy (fun w54 o54 hy n54 => ?_))⟩
      have e54 : Ext w47 w54 := Ext.own e53 o54 (fun j hj => by omega)
      rw [shl_pw ho0 (by omega)]
      refine ⟨by omega, ?_⟩
      refine LoopW.m1 (fun (i : Int) w' => ∃ q : Nat, i = q ∧ q ≤ 2 ^ o.toNat ∧ Blk w' bf (bools (setV false (freeL T fr) x.At.toNat q)) ∧ Blk w' w47.heap.size [.int .i64 x.At, .int .i64 x.Order] ∧ Ext w20 w' ∧ w47.heap.size < w'.heap.size) (fun (i : Int) _ => (pw o - i).toNat) ⟨0, rfl, by omega, hbf.ext e54, hy, Only.trans e47 e54, by omega⟩ ?_
      rintro (i : Int) w57 ⟨q, rfl, hq, hbf57, hy57, e57, z57⟩ J2 hJ2
      refine BIf.dec (fun hq2 => ?_) (fun hq2 => ?_)
      · have hidx : IntKind.i64.wrap (x.At + (q : Int)) = ((x.At.toNat + q : Nat) : Int) := by rw [w64 (by omega) (by omega)]; omega
        refine ⟨_, hy57.cell 0, ?_⟩
        rw [hidx, Int.toNat_natCast]
        refine ⟨by omega, by show ((x.At.toNat + q : Nat) : Int) < ((T.toNat : Nat) : Int); omega, _, rfl, set1_step hbf57 (by rw [bools_len, setV_len, hfl]; omega) (fun w60 o60 hbf60 n60 => ?_)⟩
        rw [w64 (by omega) (by omega)]
        rw [bools_set] at hbf60
        exact hJ2 _ _ ⟨q + 1, by omega, by omega, hbf60, hy57.only o60 (by omega), Ext.own e57 o60 (fun j hj => by omega), by omega⟩ (by omega)
      · have hq3 : q = 2 ^ o.toNat := by omega
        subst hq3
        have e57d := Only.trans e57 (ext_drew w57)
        have hy58 := hy57.ext (ext_drew w57)
        have hbf58 := hbf57.ext (ext_drew w57)
        have hz58 := hz20.ext e57d
        have zd2 : w57.drew.heap.size = w57.heap.size := rfl
        generalize w57.drew = w58 at *
        have hlen2 : (setV false (freeL T fr) x.At.toNat (2 ^ o.toNat)).length = T.toNat := by rw [setV_len, hfl]
        have hls := c121 (bls_blk hbf58 (by omega)) (by omega)
        rw [hlen2] at hls
        refine ⟨_, hy58.cell 0, hls.mono ?_⟩
        rintro _ w62 ⟨t, rfl, own62, e62⟩
        have hy62 := hy58.ext e62
        have hz62 := hz58.ext e62
        have z62 := e62.size
        refine ⟨_, t, rfl, ⟨_, hy62.cell 0, rfl⟩, put_step hz62 rfl rfl (fun w67 o67 hz67 n67 => ?_)⟩
        have hy67 := hy62.only o67 (by omega)
        have e67 : Ext w w67 := Ext.own (Only.trans ew20 (Only.trans e57d e62)) o67 (fun k hk => by omega)
        have own67 := own62.only o67 (fun b _ hb0 _ hbb => by omega)
        refine ⟨⟨_, hy67.cell 0, rfl⟩, _, hz67.cell 0, t, hz67.cell 1, t, ?_, own67.mono (by omega), e67⟩
        rw [show ((T.toNat : Nat) : Int) = T by omega]
/-! ## A frame's bytes cleared -/
def zer (m : List Int) (a : Nat) : Nat → List Int
  | 0 => m
  | k + 1 => (zer m a k).set (a + k) 0
theorem zer_len (m : List Int) (a : Nat) : ∀ k, (zer m a k).length = m.length
  | 0 => rfl
  | k + 1 => by unfold zer; rw [List.length_set, zer_len m a k]
theorem zer_rng {m : List Int} (h : ∀ x, x ∈ m → 0 ≤ x ∧ x ≤ 255) (a : Nat) : ∀ k x, x ∈ zer m a k → 0 ≤ x ∧ x ≤ 255
  | 0, x, hx => h x hx
  | k + 1, x, hx => by
    unfold zer at hx
    rcases List.mem_or_eq_of_mem_set hx with hx | hx
    · exact zer_rng h a k x hx
    · omega
def u8s (m : List Int) : List Value := m.map (Value.int .u8)
end Go.Proofs.YtkgoanjemhbjgaaGreat

/- Spaces: a pool copied, a frame taken from a pool, both sides. Conditions: none. -/
set_option linter.unusedVariables false
set_option linter.unusedSimpArgs false
namespace Go.Proofs.YtkgoanjemhbjgaaGreat
open Go Go.Den
/-- A pool's two slices, owned. -/
def PoV (m : List Int) (fr : List DBlock) (b0 : Nat) (w : World) (tm tf : Sl) : Prop :=
  OwnS w b0 tm 1 (u8s m) ∧ OwnS w b0 tf 2 (fr.flatMap DBlock.cells) ∧ ∀ q, 0 < tm.cap → tm.a = some ⟨q, 0, none⟩ → Apart tf q
theorem PoV.only {S : Nat → Prop} {m : List Int} {fr : List DBlock} {b0 : Nat} {w w' : World} {tm tf : Sl} (h : PoV m fr b0 w tm tf) (o : Only S w w') (hS : ∀ b, b0 ≤ b → b < w.heap.size → ¬ S b) : PoV m fr b0 w' tm tf :=
  ⟨h.1.only o (fun b _ h1 h2 => hS b h1 h2), h.2.1.only o (fun b _ h1 h2 => hS b h1 h2), h.2.2⟩
theorem PoV.mono {m : List Int} {fr : List DBlock} {b0 b1 : Nat} {w : World} {tm tf : Sl} (h : PoV m fr b0 w tm tf) (hb : b1 ≤ b0) : PoV m fr b1 w tm tf := ⟨h.1.mono hb, h.2.1.mono hb, h.2.2⟩
theorem apart_new {w w2 : World} {b0 b1 z z2 : Nat} {s t : Sl} {vs us : List Value} (hs : OwnS w b0 s z vs) (ht : OwnS w2 b1 t z2 us) (hb : w.heap.size ≤ b1) : ∀ q, 0 < s.cap → s.a = some ⟨q, 0, none⟩ → Apart t q := by
  intro q hc hq hc2 ha
  obtain ⟨q1, hq1, _, hlt1⟩ := OwnS.where_ hs hc
  obtain ⟨q2, hq2, hge, _⟩ := OwnS.where_ ht hc2
  rw [hq1] at hq; cases hq
  rw [hq2] at ha; cases ha; omega
theorem c25 {sm sf : Sl} {m : List Int} {T : Int} {fr : List DBlock} {w : World} (hm : Bytes w sm m) (hf : FrAt w sf fr) : CallW Tryz.prog 25 #[.agg #[.slice sm.a sm.len sm.cap, .int .i64 T, .slice sf.a sf.len sf.cap]] w
    (fun v w' => ∃ tm tf : Sl, v = .agg #[.slice tm.a tm.len tm.cap, .int .i64 T, .slice tf.a tf.len tf.cap] ∧ PoV m fr w.heap.size w' tm tf ∧ Ext w w') := by
  refine go25 ?_
  unfold W25
  have hl := hm.len
  have hs := hm.small
  refine alloc_step (fun w1 e1 hb n1 => ?_)
  refine alloc_step (fun w2 e2 hz n2 => ?_)
  have e := Only.trans (Only.trans e1 e2) (ext_drew w2)
  have hb := hb.ext (Only.trans e2 (ext_drew w2))
  have hz := hz.ext (ext_drew w2)
  have zd : w2.drew.heap.size = w2.heap.size := rfl
  generalize w2.drew = w3 at *
  refine ⟨sm, hb.cell 0, _, hb.cell 1, sf, hb.cell 2, alloc_step (fun w6 e6 hy n6 => ?_)⟩
  have hb := hb.ext e6
  have hz := hz.ext e6
  have e := Only.trans e e6
  refine ⟨⟨_, hb.cell 1, sf, hb.cell 2, rfl⟩, ⟨sm, hb.cell 0, rfl⟩, ?_⟩
  refine AppendW.own (b0 := w6.heap.size) (z := 1) (os := []) (vs := m.map (Value.int .u8)) (OwnS.none _ _ _ _) (by rw [Nat.mul_one]; exact (hm.ext e).row) rfl rfl (by decide) (by show (0 + sm.len) * 1 ≤ _; omega) plain_int (Nat.le_refl _) (fun tm w11 h1 om h3 h4 => ?_)
  have e11 : Ext w6 w11 := h3.mono (fun k hk hh => absurd hh.1 (by omega))
  have hb := hb.ext e11
  have hz := hz.ext e11
  have e := Only.trans e e11
  refine ⟨⟨_, hb.cell 1, sf, hb.cell 2, rfl⟩, (c76 (hf.ext e)).mono ?_⟩
  rintro _ w15 ⟨tf, rfl, of, e15⟩
  have hz := hz.ext e15
  have e := Only.trans e e15
  have om' : OwnS w15 w6.heap.size tm 1 (u8s m) := om.ext e15
  have z11 := e11.size
  have z15 := e15.size
  have hp : PoV m fr w6.heap.size w15 tm tf := ⟨om', of.mono (by omega), apart_new om of (by omega)⟩
  refine ⟨_, tf, rfl, put_step hz rfl rfl (fun w18 o18 hz n18 => ?_)⟩
  refine ⟨tm, hz.cell 0, _, hz.cell 1, tf, hz.cell 2, tm, tf, rfl, (hp.only o18 (fun b h1 _ hb => by omega)).mono (by omega), Ext.own e o18 (fun k hk => by omega)⟩
/-! ## A frame taken from a pool -/
noncomputable def fz : Nat := Classical.choose (⟨256, rfl⟩ : ∃ z, z = 256)
theorem fz_eq : fz = 256 := Classical.choose_spec (⟨256, rfl⟩ : ∃ z, z = 256)
end Go.Proofs.YtkgoanjemhbjgaaGreat

/- Spaces: a space made, both sides. Conditions: none. -/
set_option linter.unusedVariables false
set_option linter.unusedSimpArgs false
namespace Go.Proofs.YtkgoanjemhbjgaaGreat
open Go Go.Den
/-! ## As a tree -/
def POut (m : List Int) (T : Int) (fr : List DBlock) : Prop := (∀ x, x ∈ m → 0 ≤ x ∧ x ≤ 255) ∧ m.length ≤ 2097152 ∧ fr.length ≤ 2097152 ∧ (Lit.int .i64 T).wf = true ∧ ∀ x, x ∈ fr → (Lit.int .i64 x.At).wf = true ∧ (Lit.int .i64 x.Order).wf = true
end Go.Proofs.YtkgoanjemhbjgaaGreat

/- FnExactSpaceNew: both sides, for the walk. Conditions: none. -/
set_option linter.unusedVariables false
set_option linter.unusedSimpArgs false
namespace Go.Proofs.YtkgoanjemhbjgaaGreat
open Go Go.Den
theorem fok_mem {T : Int} {fr : List DBlock} (h : FOk T fr) : ∀ x, x ∈ fr → 0 ≤ x.At ∧ x.At < 1024 ∧ 0 ≤ x.Order ∧ x.Order ≤ 10 := by
  intro x hx
  obtain ⟨i, hi⟩ := List.getElem?_of_mem hx
  have := blkOk_out (h.2.2 i x hi).1
  have := h.2.1
  omega
theorem wf_blk {x : DBlock} (h : 0 ≤ x.At ∧ x.At < 1024 ∧ 0 ≤ x.Order ∧ x.Order ≤ 10) : (Lit.int .i64 x.At).wf = true ∧ (Lit.int .i64 x.Order).wf = true := ⟨wf_i64 (by omega) (by omega), wf_i64 (by omega) (by omega)⟩
theorem pool_few {x : DPool} (hs : x.dat.sz ≤ 1048576) : x.Mem.length ≤ 1048576 ∧ x.Free.Free.length ≤ 1048576 := by
  have hsz : x.dat.sz = (Dat.sl 1 (x.Mem.map (Dat.int .u8))).sz + ((0 + (((x.Free.Free.map DBlock.dat).length + Dat.szs (x.Free.Free.map DBlock.dat)) + 0)) + 0) := rfl
  rw [sz_nums, List.length_map] at hsz
  omega
theorem cnts_nums {k : IntKind} : ∀ l : List Int, Dat.cnts (l.map (Dat.int k)) = l.length
  | [] => rfl
  | a :: r => by simp only [List.map_cons, Dat.cnts, Dat.cnt, cnts_nums r, List.length_cons]; omega
theorem cnts_blks : ∀ l : List DBlock, Dat.cnts (l.map DBlock.dat) = 2 * l.length
  | [] => rfl
  | a :: r => by simp only [List.map_cons, DBlock.dat, Dat.cnts, Dat.cnt, List.length_cons]; have := cnts_blks r; omega
theorem cnt_pool (x : DPool) : x.dat.cntT = x.Mem.length + 2 * x.Free.Free.length := by
  simp only [DPool.dat, DFrames.dat, Dat.cntT, Dat.cntTs, cnts_nums, cnts_blks]; omega
theorem pool_cnt {x : DPool} (hs : x.dat.sz ≤ 1048576) : x.dat.cntT ≤ 4194304 := by
  have := pool_few hs
  rw [cnt_pool]; omega
end Go.Proofs.YtkgoanjemhbjgaaGreat

/- Frames: given back, on both sides. Conditions: none. -/
set_option linter.unusedVariables false
set_option linter.unusedSimpArgs false
namespace Go.Proofs.YtkgoanjemhbjgaaGreat
open Go Go.Den
end Go.Proofs.YtkgoanjemhbjgaaGreat

/- Frames: held, on both sides. Conditions: none. -/
set_option linter.unusedVariables false
set_option linter.unusedSimpArgs false
namespace Go.Proofs.YtkgoanjemhbjgaaGreat
open Go Go.Den
end Go.Proofs.YtkgoanjemhbjgaaGreat

/- Frames: a list of free runs can be. Conditions: none. -/
set_option linter.unusedVariables false
set_option linter.unusedSimpArgs false
namespace Go.Proofs.YtkgoanjemhbjgaaGreat
open Go Go.Den
def RunAt (l : List Bool) (x o : Nat) : Prop := o ≤ 10 ∧ x % 2 ^ o = 0 ∧ wholeP l x (2 ^ o) ∧ (o = 10 ∨ x % 2 ^ (o + 1) ≠ 0 ∨ ¬ wholeP l x (2 ^ (o + 1)))
theorem ordF_run {l : List Bool} {a : Nat} : ∀ (f k : Nat), k + f = 10 → a % 2 ^ k = 0 → wholeP l a (2 ^ k) → RunAt l a (ordF l a f k)
  | 0, k, hk, hm, hw => by unfold ordF; exact ⟨by omega, hm, hw, .inl (by omega)⟩
  | f + 1, k, hk, hm, hw => by
    unfold ordF
    split
    · rename_i h; exact ordF_run f (k + 1) (by omega) h.2.1 h.2.2
    · rename_i h
      refine ⟨by omega, hm, hw, ?_⟩
      by_cases h1 : a % 2 ^ (k + 1) = 0
      · exact .inr (.inr (fun hh => h ⟨by omega, h1, hh⟩))
      · exact .inr (.inl h1)
def Run (l : List Bool) (a : Nat) (b : DBlock) : Prop := ∃ x o : Nat, b = ⟨x, o⟩ ∧ a ≤ x ∧ RunAt l x o
theorem listF_run (l : List Bool) (a : Nat) : ∀ i b, (listF l a)[i]? = some b → Run l a b ∧ ∀ c, 0 < i → (listF l a)[i - 1]? = some c → c.At + pw c.Order ≤ b.At := by
  rw [listF]
  split
  · rename_i h1
    split
    · rename_i h2
      have hr := ordF_run (l := l) (a := a) 10 0 (by omega) (by simp [Nat.mod_one]) ⟨by show a + 2 ^ 0 ≤ l.length; omega, fun i hi => by obtain rfl : i = 0 := by { have : i < 1 := hi; omega }; simpa using h2⟩
      have ih := listF_run l (a + 2 ^ ordF l a 10 0)
      have hp := Nat.one_le_two_pow (n := ordF l a 10 0)
      generalize ordF l a 10 0 = o at *
      intro i b hb
      cases i with
      | zero =>
        simp at hb; subst hb
        exact ⟨⟨a, o, rfl, Nat.le_refl _, hr⟩, fun c h0 => by omega⟩
      | succ i =>
        simp at hb
        obtain ⟨⟨x, p, rfl, hx, hxr⟩, hc⟩ := ih i b hb
        refine ⟨⟨x, p, rfl, by omega, hxr⟩, fun c _ hcc => ?_⟩
        cases i with
        | zero =>
          simp at hcc; subst hcc
          show (a : Int) + pw (o : Int) ≤ (x : Int)
          rw [pw_nat]
          exact_mod_cast hx
        | succ i => exact hc c (by omega) (by simpa using hcc)
    · intro i b hb
      obtain ⟨⟨x, p, rfl, hx, hxr⟩, hc⟩ := listF_run l (a + 1) i b hb
      exact ⟨⟨x, p, rfl, by omega, hxr⟩, hc⟩
  · intro i b hb; simp at hb
termination_by l.length - a
decreasing_by
  all_goals have := Nat.one_le_two_pow (n := ordF l a 10 0); omega
theorem listF_ok {l : List Bool} {T : Int} (hT : T = (l.length : Int)) (hs : l.length ≤ 1024) : FOk T (listF l 0) := by
  refine ⟨by omega, by omega, fun i b hb => ?_⟩
  obtain ⟨⟨x, o, rfl, _, h1, h2, h3, h4⟩, hc⟩ := listF_run l 0 i b hb
  have hp := Nat.one_le_two_pow (n := o)
  have hx := h3.1
  refine ⟨decide_eq_true ?_, fun c hi hcc => ?_⟩
  · show (0 : Int) ≤ (o : Int) ∧ (o : Int) ≤ 10 ∧ (0 : Int) ≤ (x : Int) ∧ (x : Int) < T ∧ (x : Int) % pw (o : Int) = 0 ∧ (x : Int) + pw (o : Int) ≤ T
    rw [pw_nat]
    have : ((x : Int) % ((2 ^ o : Nat) : Int)) = ((x % 2 ^ o : Nat) : Int) := by omega
    rw [this, h2]
    omega
  · refine ⟨hc c hi hcc, ?_⟩
    rintro ⟨g1, g2, g3, g4⟩
    obtain ⟨⟨y, p, rfl, _, k1, k2, k3, k4⟩, _⟩ := listF_run l 0 (i - 1) c hcc
    have g1 : (p : Int) = (o : Int) := g1
    obtain rfl : p = o := by omega
    have g2 : (p : Int) < 10 := g2
    have g3 : (y : Int) + pw (p : Int) = (x : Int) := g3
    have g4 : (y : Int) % (2 * pw (p : Int)) = 0 := g4
    rw [pw_nat] at g3 g4
    have hpow : 2 ^ (p + 1) = 2 * 2 ^ p := by rw [Nat.pow_succ]; omega
    rcases k4 with k4 | k4 | k4
    · omega
    · rw [hpow] at k4
      have : ((y % (2 * 2 ^ p) : Nat) : Int) = 0 := by rw [Int.natCast_emod]; simpa using g4
      omega
    · refine k4 ⟨by rw [hpow]; have := h3.1; omega, fun j hj => ?_⟩
      rw [hpow] at hj
      rcases Nat.lt_or_ge j (2 ^ p) with h | h
      · exact k3.2 j h
      · have := h3.2 (j - 2 ^ p) (by omega)
        rwa [show x + (j - 2 ^ p) = y + j by omega] at this
end Go.Proofs.YtkgoanjemhbjgaaGreat

/- Frames: new ones, how many are left. Conditions: none. -/
set_option linter.unusedVariables false
set_option linter.unusedSimpArgs false
namespace Go.Proofs.YtkgoanjemhbjgaaGreat
open Go Go.Den
def leftF (fr : List DBlock) : Nat → Int
  | 0 => 0
  | k + 1 => leftF fr k + (match fr[k]? with | some x => pw x.Order | none => 0)
theorem leftF_rng {T : Int} {fr : List DBlock} (h : FOk T fr) : ∀ k, 0 ≤ leftF fr k ∧ leftF fr k ≤ k * 1024
  | 0 => by unfold leftF; omega
  | k + 1 => by
    have ih := leftF_rng h k
    unfold leftF
    cases hx : fr[k]? with
    | none => simp only; omega
    | some x =>
      have hb := blkOk_out (h.2.2 k x hx).1
      have := h.2.1
      have hp := pw_rng (o := x.Order) (by omega)
      simp only
      omega
theorem leftF_step {fr : List DBlock} {k : Nat} {x : DBlock} (hx : fr[k]? = some x) : leftF fr (k + 1) = leftF fr k + pw x.Order := by
  rw [leftF, hx]
theorem c21 {l : Sl} {T : Int} {fr : List DBlock} {w : World} (h : FrAt w l fr) (hok : FOk T fr) : CallW Tryz.prog 21 #[.agg #[.int .i64 T, .slice l.a l.len l.cap]] w (fun v w' => v = .int .i64 (leftF fr fr.length) ∧ Ext w w') := by
  refine go21 ?_
  unfold W21
  have hl := h.len
  have hfew := h.few
  refine alloc_step (fun w1 e1 hb n1 => ?_)
  refine ⟨_, hb.cell 0, l, hb.cell 1, (c71 (h.ext e1)).mono ?_⟩
  rintro _ w5 ⟨b, rfl, hiff, e5⟩
  obtain rfl := hiff.2 hok
  have hb := hb.ext e5
  have e := Only.trans e1 e5
  refine ⟨_, rfl, BIf.f rfl ⟨l, hb.cell 1, ?_⟩⟩
  rw [hl]
  refine LoopW.m2 (fun (s i : Int) w' => ∃ k : Nat, i = k ∧ k ≤ fr.length ∧ s = leftF fr k ∧ Ext w w') (fun _ (i : Int) _ => ((fr.length : Int) - i).toNat) ⟨0, rfl, by omega, rfl, e⟩ ?_
  rintro (s : Int) (i : Int) w11 ⟨k, rfl, hk, rfl, e11⟩ J hJ
  refine BIf.dec (fun hlt => ?_) (fun hge => ?_)
  · obtain ⟨x, hx⟩ : ∃ x, fr[k]? = some x := ⟨_, List.getElem?_eq_getElem (by omega)⟩
    obtain ⟨p, hp, hc0, hc1⟩ := (h.ext e11).get hx
    have hbo := blkOk_out (hok.2.2 k x hx).1
    have hpw := pw_rng (o := x.Order) (by omega)
    have hr := leftF_rng hok k
    refine ⟨by omega, by omega, p, hp, _, hc0, _, hc1, alloc_step (fun w15 e15 hy n15 => blk_put2 hy (fun w16 o16 hy n16 => ?_))⟩
    have e16 : Ext w11 w16 := e15.own o16 (fun j hj => by omega)
    refine ⟨_, hy.cell 1, by omega, ?_⟩
    rw [shl_pw hbo.1 (by omega), w64 (n := (k : Int) + 1) (by omega) (by omega), w64 (by omega) (by omega)]
    exact hJ _ _ _ ⟨k + 1, by omega, by omega, (leftF_step hx).symm, Only.trans e11 e16⟩ (by omega)
  · have hk2 : k = fr.length := by omega
    subst hk2
    exact ⟨rfl, e11⟩
theorem c26 {l : Sl} {T : Int} {fr : List DBlock} {w : World} (h : FrAt w l fr) (hok : FOk T fr) : CallW Tryz.prog 26 #[.agg #[.int .i64 T, .slice l.a l.len l.cap]] w (fun v w' => v = .int .i64 (leftF fr fr.length) ∧ Ext w w') := by
  refine go26 ?_
  unfold W26
  have hl := h.len
  have hfew := h.few
  refine alloc_step (fun w1 e1 hb n1 => ?_)
  refine ⟨_, hb.cell 0, l, hb.cell 1, (c55 (h.ext e1)).mono ?_⟩
  rintro _ w5 ⟨b, rfl, hiff, e5⟩
  obtain rfl := hiff.2 hok
  have hb := hb.ext e5
  have e := Only.trans e1 e5
  refine ⟨_, rfl, BIf.f rfl ?_⟩
  refine LoopW.m2 (fun (s i : Int) w' => ∃ k : Nat, i = k ∧ k ≤ fr.length ∧ s = leftF fr k ∧ w' = w5) (fun _ (i : Int) _ => ((fr.length : Int) - i).toNat) ⟨0, rfl, by omega, rfl, rfl⟩ ?_
  rintro (s : Int) (i : Int) w5 ⟨k, rfl, hk, rfl, rfl⟩ J hJ
  refine ⟨l, hb.cell 1, ?_⟩
  rw [hl]
  refine BIf.dec (fun hlt => ?_) (fun hge => ?_)
  · obtain ⟨x, hx⟩ : ∃ x, fr[k]? = some x := ⟨_, List.getElem?_eq_getElem (by omega)⟩
    obtain ⟨p, hp, hc0, hc1⟩ := (h.ext e).get hx
    have hbo := blkOk_out (hok.2.2 k x hx).1
    have hpw := pw_rng (o := x.Order) (by omega)
    have hr := leftF_rng hok k
    refine ⟨l, hb.cell 1, by omega, by omega, p, hp, _, hc1, (c77 hbo.1 (by omega)).mono ?_⟩
    rintro _ w5 ⟨rfl, rfl⟩
    refine ⟨_, rfl, ?_⟩
    rw [w64 (n := (k : Int) + 1) (by omega) (by omega), w64 (by omega) (by omega)]
    exact hJ _ _ _ ⟨k + 1, by omega, by omega, (leftF_step hx).symm, rfl⟩ (by omega)
  · have hk2 : k = fr.length := by omega
    subst hk2
    exact ⟨rfl, e⟩
end Go.Proofs.YtkgoanjemhbjgaaGreat

/- Frames: one operation, on the reference's side. Conditions: none. -/
set_option linter.unusedVariables false
set_option linter.unusedSimpArgs false
namespace Go.Proofs.YtkgoanjemhbjgaaGreat
open Go Go.Den
def oneF (b : Bool) : Int := if b then 1 else 0
/-- Frames that are worked on: can be, and are few. -/
def Fine (T : Int) (fr : List DBlock) : Prop := FOk T fr ∧ fr.length ≤ 1024
theorem fine_list {T : Int} {l : List Bool} (h : l.length = T.toNat) (h0 : 0 ≤ T) (h1 : T ≤ 1024) : Fine T (listF l 0) :=
  ⟨listF_ok (by omega) (by omega), by have := listF_len l 0; omega⟩
theorem c67 {b : Bool} {w : World} : CallW Tryz.prog 67 #[.bool b] w (fun v w' => v = .int .u64 (oneF b) ∧ w' = w) := by
  refine go67 ?_
  unfold W67
  cases b
  · exact BIf.f rfl ⟨rfl, rfl⟩
  · exact BIf.t rfl ⟨rfl, rfl⟩
end Go.Proofs.YtkgoanjemhbjgaaGreat

/- Pools as memory in parts: copies, frames cleared and given back, both sides. Conditions: none. -/
set_option linter.unusedVariables false
set_option linter.unusedSimpArgs false
namespace Go.Proofs.YtkgoanjemhbjgaaGreat
open Go Go.Den
abbrev rowM (s : Sl) (m : List Int) : Asr := aRow s 1 (nums .u8 m)
abbrev rowF (s : Sl) (fr : List DBlock) : Asr := aRow s 2 (recs DBlock.cells fr)
def pc (sm : Sl) (T : Int) (sf : Sl) : List Value := [.slice sm.a sm.len sm.cap, .int .i64 T, .slice sf.a sf.len sf.cap]
theorem recs_flat (fr : List DBlock) : (fr.map DBlock.cells).flatten = fr.flatMap DBlock.cells := (List.flatMap_def ..).symm
/-- Two rows of one's own, apart from one another. -/
theorem SH.ofOwn2H {w0 w : World} {b0 : Nat} {sm sf : Sl} {m : List Int} {fr : List DBlock} (e : Ext w0 w) (h1 : OwnS w b0 sm 1 (m.map (Value.int .u8))) (h2 : OwnS w b0 sf 2 (fr.flatMap DBlock.cells)) (hb : w0.heap.size ≤ b0) (hmf : ∀ q, 0 < sm.cap → sm.a = some ⟨q, 0, none⟩ → Apart sf q) :
    ∃ H, All [rowM sm m, rowF sf fr] H ∧ Sat w0 w H ∧ ∀ x, x ∈ H → (0 < sm.cap ∧ sm.a = some ⟨x.1, 0, none⟩) ∨ (0 < sf.cap ∧ sf.a = some ⟨x.1, 0, none⟩) := by
  have hl1 := h1.len
  have hl2 := h2.len
  rw [List.length_map, Nat.mul_one] at hl1
  rw [flatMap_length DBlock.cells 2 (fun _ => rfl)] at hl2
  have hl2' : fr.length = sf.len := by omega
  have hM : ∃ H1 : HL, rowM sm m H1 ∧ ((H1 = []) ∨ ∃ b cs, sm.a = some ⟨b, 0, none⟩ ∧ 0 < sm.cap ∧ b0 ≤ b ∧ H1 = [(b, .c cs)] ∧ Blk w b cs) := by
    rcases Nat.eq_zero_or_pos sm.cap with h0 | h0
    · have hle : sm.len ≤ sm.cap := OwnS.capLe h1
      exact ⟨[], ⟨by rw [nums_len]; omega, by omega, .inl ⟨h0, rfl⟩⟩, .inl rfl⟩
    · obtain ⟨_, ⟨h3, h4⟩ | ⟨b, cs, ha, h3, h4, h5, h6, h7⟩⟩ := h1
      · omega
      · refine ⟨[(b, .c cs)], ⟨by rw [nums_len]; omega, h6, .inr ⟨b, cs, [], ha, rfl, h5, ?_⟩⟩, .inr ⟨b, cs, ha, h0, h3, rfl, h4⟩⟩
        have := TE.raw (z := 1) (m.map (fun x => [Value.int .u8 x])) (fun y hy => by obtain ⟨x, _, rfl⟩ := List.mem_map.1 hy; rfl) (cs.drop (sm.len * 1))
        rw [show (m.map (fun x => [Value.int .u8 x])).flatten = m.map (Value.int .u8) by rw [show m.map (fun x => [Value.int .u8 x]) = (m.map (Value.int .u8)).map (fun x => [x]) by rw [List.map_map]; rfl, flat_one], ← h7, List.take_append_drop] at this
        rw [nums_raw]; exact this
  have hF : ∃ H2 : HL, rowF sf fr H2 ∧ ((H2 = []) ∨ ∃ b cs, sf.a = some ⟨b, 0, none⟩ ∧ 0 < sf.cap ∧ b0 ≤ b ∧ H2 = [(b, .c cs)] ∧ Blk w b cs) := by
    rcases Nat.eq_zero_or_pos sf.cap with h0 | h0
    · have hle : sf.len ≤ sf.cap := OwnS.capLe h2
      exact ⟨[], ⟨by rw [recs_len]; omega, by omega, .inl ⟨h0, rfl⟩⟩, .inl rfl⟩
    · obtain ⟨_, ⟨h3, h4⟩ | ⟨b, cs, ha, h3, h4, h5, h6, h7⟩⟩ := h2
      · omega
      · refine ⟨[(b, .c cs)], ⟨by rw [recs_len]; omega, h6, .inr ⟨b, cs, [], ha, rfl, h5, ?_⟩⟩, .inr ⟨b, cs, ha, h0, h3, rfl, h4⟩⟩
        have := TE.raw (z := 2) (fr.map DBlock.cells) (fun y hy => by obtain ⟨x, _, rfl⟩ := List.mem_map.1 hy; rfl) (cs.drop (sf.len * 2))
        rw [recs_flat, ← h7, List.take_append_drop] at this
        rw [recs_raw]; exact this
  obtain ⟨H1, hA, hH1⟩ := hM
  obtain ⟨H2, hB, hH2⟩ := hF
  refine ⟨H1 ++ (H2 ++ []), ⟨H1, _, rfl, hA, H2, [], rfl, hB, rfl⟩, ⟨e, fun x hx => ?_, ?_, fun x hx => ?_⟩, fun x hx => ?_⟩
  · simp only [List.append_nil, List.mem_append] at hx
    rcases hx with hx | hx
    · rcases hH1 with rfl | ⟨b, cs, _, _, _, rfl, hbl⟩
      · cases hx
      · rw [List.mem_singleton.1 hx]; exact hbl
    · rcases hH2 with rfl | ⟨b, cs, _, _, _, rfl, hbl⟩
      · cases hx
      · rw [List.mem_singleton.1 hx]; exact hbl
  · rcases hH1 with rfl | ⟨b, cs, ha, hc, _, rfl, _⟩ <;> rcases hH2 with rfl | ⟨b', cs', ha', hc', _, rfl, _⟩
    · simp
    · simp
    · simp
    · have := hmf b hc ha hc'
      have hne : b ≠ b' := fun hh => this (by rw [ha', hh])
      simp [hne]
  · simp only [List.append_nil, List.mem_append] at hx
    rcases hx with hx | hx
    · rcases hH1 with rfl | ⟨b, cs, _, _, hb0, rfl, _⟩
      · cases hx
      · rw [List.mem_singleton.1 hx]; show _ ≤ b; omega
    · rcases hH2 with rfl | ⟨b, cs, _, _, hb0, rfl, _⟩
      · cases hx
      · rw [List.mem_singleton.1 hx]; show _ ≤ b; omega
  · simp only [List.append_nil, List.mem_append] at hx
    rcases hx with hx | hx
    · rcases hH1 with rfl | ⟨b, cs, ha, hc, hb0, rfl, _⟩
      · cases hx
      · rw [List.mem_singleton.1 hx]; exact .inl ⟨hc, ha⟩
    · rcases hH2 with rfl | ⟨b, cs, ha, hc, hb0, rfl, _⟩
      · cases hx
      · rw [List.mem_singleton.1 hx]; exact .inr ⟨hc, ha⟩
theorem SH.ofOwn2 {w0 w : World} {b0 : Nat} {sm sf : Sl} {m : List Int} {fr : List DBlock} (e : Ext w0 w) (h1 : OwnS w b0 sm 1 (m.map (Value.int .u8))) (h2 : OwnS w b0 sf 2 (fr.flatMap DBlock.cells)) (hb : w0.heap.size ≤ b0) (hmf : ∀ q, 0 < sm.cap → sm.a = some ⟨q, 0, none⟩ → Apart sf q) : SH w0 w [rowM sm m, rowF sf fr] := by
  obtain ⟨H, h3, h4, _⟩ := SH.ofOwn2H e h1 h2 hb hmf
  exact ⟨H, h3, h4⟩
theorem SH.ofOwnF {w0 w : World} {b0 : Nat} {sf : Sl} {fr : List DBlock} (e : Ext w0 w) (h : OwnS w b0 sf 2 (fr.flatMap DBlock.cells)) (hb : w0.heap.size ≤ b0) : SH w0 w [rowF sf fr] := by
  have hl := h.len
  rw [flatMap_length DBlock.cells 2 (fun _ => rfl)] at hl
  show SH w0 w [aRow sf 2 (recs DBlock.cells fr)]
  rw [recs_raw]
  exact SH.ofOwn e (by rw [recs_flat]; exact h) hb (by simp; omega) (fun y hy => by obtain ⟨x, _, rfl⟩ := List.mem_map.1 hy; rfl)
theorem SH.bytes {w0 w : World} {As : List Asr} (h : SH w0 w As) (n : Nat) {s : Sl} {m : List Int} (hA : As[n]? = some (rowM s m)) (hr : ∀ x, x ∈ m → 0 ≤ x ∧ x ≤ 255) (hs : m.length ≤ 1099511627776) : Bytes w s m :=
  ⟨by rw [h.len n hA, nums_len], h.lenCap n hA, h.rowN n hA, hr, hs⟩
theorem SH.frAt {w0 w : World} {As : List Asr} (h : SH w0 w As) (n : Nat) {s : Sl} {fr : List DBlock} (hA : As[n]? = some (rowF s fr)) (hl : fr.length ≤ 1099511627776) : FrAt w s fr :=
  ⟨by rw [h.len n hA, recs_len], h.rowR n hA, hl⟩
theorem SH.blk {w0 w : World} {As : List Asr} (h : SH w0 w As) (n : Nat) {b : Nat} {vs : List Value} (hA : As[n]? = some (aB b (vs.map Ce.v))) : Blk w b vs := by
  obtain ⟨H1, H2, h1, h2, hs⟩ := (h.front hA).cut
  obtain rfl := aB_raw.1 h1
  exact hs.blk (b, .c vs) (by simp)
/-! ## A pool copied -/
theorem s25 {sm sf : Sl} {m : List Int} {T : Int} {fr : List DBlock} {w : World} (hm : Bytes w sm m) (hf : FrAt w sf fr) : CallW Tryz.prog 25 #[.agg #[.slice sm.a sm.len sm.cap, .int .i64 T, .slice sf.a sf.len sf.cap]] w
    (fun v w' => ∃ tm tf : Sl, v = .agg #[.slice tm.a tm.len tm.cap, .int .i64 T, .slice tf.a tf.len tf.cap] ∧ SH w w' [rowM tm m, rowF tf fr]) :=
  (c25 hm hf).mono (by rintro _ w' ⟨tm, tf, rfl, hp, e⟩; exact ⟨tm, tf, rfl, SH.ofOwn2 e hp.1 hp.2.1 (Nat.le_refl _) hp.2.2⟩)
theorem s34 {sm sf : Sl} {m : List Int} {T : Int} {fr : List DBlock} {w : World} (hm : Bytes w sm m) (hf : FrAt w sf fr) : CallW Tryz.prog 34 #[.agg #[.slice sm.a sm.len sm.cap, .int .i64 T, .slice sf.a sf.len sf.cap]] w
    (fun v w' => ∃ (b : Nat) (tm tf : Sl), v = .pointer (some ⟨b, 0, none⟩) ∧ SH w w' [aB b ((pc tm T tf).map Ce.v), rowM tm m, rowF tf fr]) :=
  (c34 hm hf).mono (by
    rintro _ w' ⟨b, tm, tf, rfl, hp, e⟩
    refine ⟨b, tm, tf, rfl, ?_⟩
    obtain ⟨H, h1, h2, h3⟩ := SH.ofOwn2H e hp.mem hp.frs (Nat.le_refl _) hp.mf
    have hnb : b ∉ H.map (·.1) := fun hb => by
      obtain ⟨x, hx, rfl⟩ := List.mem_map.1 hb
      rcases h3 x hx with ⟨hc, ha⟩ | ⟨hc, ha⟩
      · exact hp.mb hc ha
      · exact hp.fb hc ha
    refine SH.mk (H1 := [(b, .c (pc tm T tf))]) (aB_raw.2 rfl) h1 ⟨e, fun x hx => ?_, ?_, fun x hx => ?_⟩
    · rcases List.mem_cons.1 hx with rfl | hx
      · exact hp.blk
      · exact h2.blk x hx
    · simp only [List.cons_append, List.nil_append, List.map_cons, List.nodup_cons]
      exact ⟨hnb, h2.nd⟩
    · rcases List.mem_cons.1 hx with rfl | hx
      · exact hp.hb
      · exact h2.own x hx)
end Go.Proofs.YtkgoanjemhbjgaaGreat

/- Frames of a pool cleared and given back, in parts, both sides. Conditions: none. -/
set_option linter.unusedVariables false
set_option linter.unusedSimpArgs false
namespace Go.Proofs.YtkgoanjemhbjgaaGreat
open Go Go.Den
abbrev poolB (b : Nat) (sm : Sl) (T : Int) (sf : Sl) : Asr := aB b ((pc sm T sf).map Ce.v)
theorem nums_set {k : IntKind} {m : List Int} {i : Nat} {x : Int} {a : Int} (h : m[i]? = some a) : (nums k m).set i ([Ce.v (.int k a)].set 0 (.v (.int k x))) = nums k (m.set i x) := by unfold nums; rw [List.map_set]; rfl
set_option maxRecDepth 8000 in
theorem s94 {w0 w : World} {b : Nat} {sm sf : Sl} {m : List Int} {T : Int} {F : List Asr} {f n : Nat} (h : SH w0 w (poolB b sm T sf :: rowM sm m :: F)) (hn256 : n = 256) (hf : f * 256 + n ≤ m.length) (hs : m.length ≤ 1048576) :
    CallW Tryz.prog 94 #[.pointer (some ⟨b, 0, none⟩), .int .i64 (f : Int)] w (fun v w' => v = .tuple #[] ∧ SH w0 w' (poolB b sm T sf :: rowM sm (zer m (f * 256) n) :: F)) := by
  refine go94 ?_
  unfold W94
  have hl : sm.len = m.length := by rw [h.len 1 rfl, nums_len]
  have hc := h.lenCap 1 rfl
  obtain ⟨bm, ha, _, _⟩ := h.addr 1 rfl (by omega)
  refine LoopW.m1 (fun (i : Int) w' => ∃ k : Nat, i = k ∧ k ≤ n ∧ SH w0 w' (poolB b sm T sf :: rowM sm (zer m (f * 256) k) :: F)) (fun (i : Int) _ => (256 - i).toNat) ⟨0, rfl, by omega, h⟩ ?_
  rintro (i : Int) w4 ⟨k, rfl, hk, h4⟩ J hJ
  refine BIf.dec (fun hlt => ?_) (fun hge => ?_)
  · refine ⟨_, rfl, sm, h4.cell 0 rfl rfl, ?_⟩
    have hidx : IntKind.i64.wrap (IntKind.i64.wrap ((f : Int) * 256) + (k : Int)) = ((f * 256 + k : Nat) : Int) := by rw [w64 (n := (f : Int) * 256) (by omega) (by omega), w64 (by omega) (by omega)]; omega
    rw [hidx, Int.toNat_natCast]
    have hz : (zer m (f * 256) k)[f * 256 + k]? = some _ := List.getElem?_eq_getElem (by rw [zer_len]; omega)
    refine ⟨by omega, by omega, _, ha, h4.setE0 1 rfl ha (nums_get hz) rfl (fun w7 h7 n7 => ?_)⟩
    rw [w64 (by omega) (by omega)]
    rw [nums_set hz] at h7
    exact hJ _ _ ⟨k + 1, by omega, by omega, h7⟩ (by omega)
  · have hk2 : k = n := by omega
    subst hk2
    exact ⟨rfl, h4⟩
set_option maxRecDepth 8000 in
theorem s81 {w0 w : World} {sm sf : Sl} {m : List Int} {T : Int} {F : List Asr} {f n : Nat} (h : SH w0 w (rowM sm m :: F)) (hn256 : n = 256) (hf : f * 256 + n ≤ m.length) (hs : m.length ≤ 1048576) :
    CallW Tryz.prog 81 #[.agg #[.slice sm.a sm.len sm.cap, .int .i64 T, .slice sf.a sf.len sf.cap], .int .i64 (f : Int)] w (fun v w' => v = .tuple #[] ∧ SH w0 w' (rowM sm (zer m (f * 256) n) :: F)) := by
  refine go81 ?_
  unfold W81
  have hl : sm.len = m.length := by rw [h.len 0 rfl, nums_len]
  have hc := h.lenCap 0 rfl
  obtain ⟨bm, ha, _, _⟩ := h.addr 0 rfl (by omega)
  refine h.alloc (fun w1 h1 e1 n1 => ?_)
  refine LoopW.m1 (fun (i : Int) w' => ∃ k : Nat, i = k ∧ k ≤ n ∧ SH w0 w' (poolB w.heap.size sm T sf :: rowM sm (zer m (f * 256) k) :: F)) (fun (i : Int) _ => (256 - i).toNat) ⟨0, rfl, by omega, h1⟩ ?_
  rintro (i : Int) w4 ⟨k, rfl, hk, h4⟩ J hJ
  refine BIf.dec (fun hlt => ?_) (fun hge => ?_)
  · refine ⟨sm, h4.cell 0 rfl rfl, ?_⟩
    have hidx : IntKind.i64.wrap (IntKind.i64.wrap ((f : Int) * 256) + (k : Int)) = ((f * 256 + k : Nat) : Int) := by rw [w64 (n := (f : Int) * 256) (by omega) (by omega), w64 (by omega) (by omega)]; omega
    rw [hidx, Int.toNat_natCast]
    have hz : (zer m (f * 256) k)[f * 256 + k]? = some _ := List.getElem?_eq_getElem (by rw [zer_len]; omega)
    refine ⟨by omega, by omega, _, ha, h4.setE0 1 rfl ha (nums_get hz) rfl (fun w7 h7 n7 => ?_)⟩
    rw [w64 (by omega) (by omega)]
    rw [nums_set hz] at h7
    exact hJ _ _ ⟨k + 1, by omega, by omega, h7⟩ (by omega)
  · have hk2 : k = n := by omega
    subst hk2
    exact ⟨rfl, h4.drop⟩
theorem s36 {w0 w : World} {b : Nat} {sm sf : Sl} {T : Int} {F : List Asr} (h : SH w0 w (poolB b sm T sf :: F)) : CallW Tryz.prog 36 #[.pointer (some ⟨b, 0, none⟩)] w
    (fun v w' => v = .agg #[.slice sm.a sm.len sm.cap, .int .i64 T, .slice sf.a sf.len sf.cap] ∧ SH w0 w' (poolB b sm T sf :: F)) := by
  refine go36 ?_
  unfold W36
  refine h.alloc (fun w1 h1 e1 n1 => ?_)
  have h2 := h1.drew
  refine ⟨_, rfl, sm, h2.cell 1 rfl rfl, _, rfl, _, h2.cell 1 (i := 1) rfl rfl, sf, h2.cell 1 (i := 2) rfl rfl, h2.put 0 rfl rfl rfl (fun w7 h7 n7 => ?_)⟩
  exact ⟨sm, h7.cell 0 rfl rfl, _, h7.cell 0 rfl rfl, sf, h7.cell 0 rfl rfl, rfl, h7.drop⟩
/-! ## All tables of a space given back -/
structure GvOk (n : Nat) (T : Int) (p : List Int × Int × List DBlock) : Prop where
  len : p.1.length = n
  tot : p.2.1 = T
  ok : FOk T p.2.2
  few : p.2.2.length ≤ 1048576
  rng : ∀ x, x ∈ p.1 → 0 ≤ x ∧ x ≤ 255
/-- The tables of a space are frames of its pool. -/
theorem scanT_mem {Q : Int → Prop} {x : Int → Int} {lvl : Int} {rec : Int → List Int → Option (List Int)} (hr : ∀ t S S', rec t S = some S' → (∀ y, y ∈ S → Q y) → ∀ y, y ∈ S' → Q y) : ∀ (k : Nat) (S : List Int) (any : Bool) (S' : List Int) (any' : Bool), scanT x lvl rec k S any = some (S', any') → (∀ y, y ∈ S → Q y) → ∀ y, y ∈ S' → Q y
  | 0, S, any, S', any', h, hS => by unfold scanT at h; injection h with h; injection h with h1 h2; subst h1; exact hS
  | k + 1, S, any, S', any', h, hS => by
    unfold scanT at h
    split at h
    · exact scanT_mem hr k S any S' any' h hS
    · split at h
      · cases h
      · exact scanT_mem hr k S true S' any' h hS
      · split at h
        · cases h
        · rename_i S2 h2
          exact scanT_mem hr k S2 true S' any' h (hr _ _ _ h2 hS)
theorem tblStep_mem {m : List Int} {free : List Bool} {lvl : Nat} {rec : Int → List Int → Option (List Int)} (hr : ∀ t S S', rec t S = some S' → (∀ y, y ∈ S → 0 ≤ y ∧ y < (free.length : Int)) → ∀ y, y ∈ S' → 0 ≤ y ∧ y < (free.length : Int)) {t : Int} {S S' : List Int} (h : tblStep m free lvl rec t S = some S') (hS : ∀ y, y ∈ S → 0 ≤ y ∧ y < (free.length : Int)) : ∀ y, y ∈ S' → 0 ≤ y ∧ y < (free.length : Int) := by
  unfold tblStep at h
  split at h
  · cases h
  · rename_i hn
    split at h
    · rename_i S2 h2
      injection h with h; subst h
      refine scanT_mem hr 32 _ _ _ _ h2 (fun y hy => ?_)
      rcases List.mem_append.1 hy with hy | hy
      · exact hS y hy
      · rw [List.mem_singleton.1 hy]
        exact ⟨by by_cases hh : t < 0; exact absurd (.inl hh) hn; omega, by by_cases hh : (free.length : Int) ≤ t; exact absurd (.inr (.inl hh)) hn; omega⟩
    · cases h
theorem tblF_mem {m : List Int} {free : List Bool} : ∀ (lvl : Nat) {t : Int} {S S' : List Int}, tblF m free lvl t S = some S' → (∀ y, y ∈ S → 0 ≤ y ∧ y < (free.length : Int)) → ∀ y, y ∈ S' → 0 ≤ y ∧ y < (free.length : Int)
  | 0, t, S, S', h, hS => tblStep_mem (fun t S S' h => by cases h) h hS
  | n + 1, t, S, S', h, hS => tblStep_mem (fun t S S' h2 => tblF_mem n h2) h hS
theorem spaceT_mem {m : List Int} {T : Int} {fr : List DBlock} {root : Int} {S : List Int} (h : spaceT m T fr root = some S) : POk m T fr ∧ S.length ≤ 1057 ∧ ∀ y, y ∈ S → 0 ≤ y ∧ y < T := by
  by_cases hok : POk m T fr
  · rw [spaceT_pos hok] at h
    have hfree : ((freeL T fr).length : Int) = T := by rw [freeL_len]; have := hok.2.2.1.1; omega
    refine ⟨hok, ?_, fun y hy => by have := tblF_mem 2 h (fun y hy => by cases hy) y hy; omega⟩
    obtain ⟨a, h1, h2⟩ := tblF_adds.2.2 _ _ _ h
    rw [h1]; simpa using h2
  · rw [spaceT_neg hok] at h; cases h
end Go.Proofs.YtkgoanjemhbjgaaGreat

/- SpaceDrop, both sides. Conditions: none. -/
set_option linter.unusedVariables false
set_option linter.unusedSimpArgs false
namespace Go.Proofs.YtkgoanjemhbjgaaGreat
open Go Go.Den
/-! ## Results that are pools -/
theorem blks_ceE (l : List DBlock) : Dat.ceE (l.map DBlock.dat) = recs DBlock.cells l := by
  rw [ceE_map]; unfold recs; congr 1
theorem poolD_ce (m : List Int) (T : Int) (fr : List DBlock) : (⟨m, ⟨T, fr⟩⟩ : DPool).dat.ce = [.sl 1 (nums .u8 m), .v (.int .i64 T), .sl 2 (recs DBlock.cells fr)] := by
  simp only [DPool.dat, DFrames.dat, Dat.ce, Dat.ces, ceE_nums, blks_ceE, List.cons_append, List.nil_append]
theorem poolD_fit {m : List Int} {T : Int} {fr : List DBlock} (h : POut m T fr) : (⟨m, ⟨T, fr⟩⟩ : DPool).dat.fit := by
  have hmx : maxLen = 9223372036854775807 := rfl
  obtain ⟨h1, h2, h3, h4, h5⟩ := h
  simp only [DPool.dat, DFrames.dat, Dat.fit, Dat.fits, List.length_map, fits_iff, List.mem_map]
  refine ⟨⟨by omega, ?_⟩, ⟨h4, ⟨by omega, ?_⟩, True.intro⟩, True.intro⟩
  · rintro d ⟨x, hx, rfl⟩
    exact wf_u8 (h1 x hx).1 (h1 x hx).2
  · rintro d ⟨x, hx, rfl⟩
    simp only [DBlock.dat, Dat.fit, Dat.fits]
    exact ⟨(h5 x hx).1, (h5 x hx).2, True.intro⟩
theorem SH.poolFr {w0 w : World} {tm tf : Sl} {m : List Int} {T : Int} {fr : List DBlock} {F : List Asr} (h : SH w0 w (rowM tm m :: rowF tf fr :: F)) (ho : POut m T fr) : Fr w0.heap.size w.heap.size w (⟨m, ⟨T, fr⟩⟩ : DPool).dat [.slice tm.a tm.len tm.cap, .int .i64 T, .slice tf.a tf.len tf.cap] := by
  have g1 := SH.v0 (SH.p1 h)
  have g2 := SH.vr (SH.p1 g1)
  have g3 := SH.vx (.int .i64 T) g2
  have g4 := SH.vr (SH.p1 g3)
  exact SH.fr (F := F) (by rw [poolD_ce]; exact g4) (poolD_fit ho)
theorem sh_zero {w0 w : World} {F : List Asr} (h : SH w0 w F) : SH w0 w [rowM ⟨none, 0, 0⟩ [], rowF ⟨none, 0, 0⟩ []] :=
  (SH.nil (SH.nil (SH.take h 0) none 2) none 1)
/-! ## SpaceDrop -/
theorem gvOk0 {m : List Int} {T : Int} {fr : List DBlock} (hok : POk m T fr) (hr : ∀ x, x ∈ m → 0 ≤ x ∧ x ≤ 255) (hf : fr.length ≤ 1048576) : GvOk m.length T (m, T, fr) := ⟨rfl, rfl, hok.2.2.1, hf, hr⟩
def DropV (r : (List Int × Int × List DBlock) × Int) (w : World) (v : Value) (w' : World) : Prop := ∃ tm tf : Sl, v = .tuple #[.agg #[.slice tm.a tm.len tm.cap, .int .i64 r.1.2.1, .slice tf.a tf.len tf.cap], .int .i64 r.2] ∧ SH w w' [rowM tm r.1.1, rowF tf r.1.2.2]
/-! ## As the law asks it -/
theorem GvOk.out {n : Nat} {T : Int} {p : List Int × Int × List DBlock} (h : GvOk n T p) (hn : n ≤ 2097152) : POut p.1 p.2.1 p.2.2 := by
  have hT := h.ok.1; have hT2 := h.ok.2.1
  exact ⟨h.rng, by rw [h.len]; exact hn, by have := h.few; omega, by rw [h.tot]; exact wf_i64 (by omega) (by omega), fun x hx => wf_blk (fok_mem h.ok x hx)⟩
end Go.Proofs.YtkgoanjemhbjgaaGreat

/- The way through a space's tables. Conditions: none. -/
set_option linter.unusedVariables false
set_option linter.unusedSimpArgs false
namespace Go.Proofs.YtkgoanjemhbjgaaGreat
open Go Go.Den
/-! ## Tables that can be -/
theorem scanT_at {x : Int → Int} {lvl : Int} {rec : Int → List Int → Option (List Int)} (hr : ∀ t S S', rec t S = some S' → ∀ y, y ∈ S → y ∈ S') : ∀ (k : Nat) (S : List Int) (any : Bool) (S' : List Int) (any' : Bool), scanT x lvl rec k S any = some (S', any') → ∀ j : Nat, j < k → x (31 - (j : Int)) ≠ 0 →
    cls (x (31 - (j : Int))) lvl = some true ∨ (cls (x (31 - (j : Int))) lvl = some false ∧ ∃ S1 S2, rec (efr (x (31 - (j : Int)))) S1 = some S2 ∧ ∀ y, y ∈ S → y ∈ S1)
  | 0, S, any, S', any', h, j, hj, hx => by omega
  | k + 1, S, any, S', any', h, j, hj, hx => by
    unfold scanT at h
    by_cases hk : j = k
    · subst hk
      rw [if_neg hx] at h
      split at h
      · cases h
      · rename_i hc; exact .inl hc
      · rename_i hc
        split at h
        · cases h
        · rename_i S2 h2
          exact .inr ⟨hc, S, S2, h2, fun y hy => hy⟩
    · split at h
      · exact scanT_at hr k S any S' any' h j (by omega) hx
      · split at h
        · cases h
        · exact scanT_at hr k S true S' any' h j (by omega) hx
        · split at h
          · cases h
          · rename_i S2 h2
            rcases scanT_at hr k S2 true S' any' h j (by omega) hx with h3 | ⟨h3, S3, S4, h4, h5⟩
            · exact .inl h3
            · exact .inr ⟨h3, S3, S4, h4, fun y hy => h5 y (hr _ _ _ h2 y hy)⟩
theorem scanT_sub {x : Int → Int} {lvl : Int} {rec : Int → List Int → Option (List Int)} (hr : ∀ t S S', rec t S = some S' → ∀ y, y ∈ S → y ∈ S') : ∀ (k : Nat) (S : List Int) (any : Bool) (S' : List Int) (any' : Bool), scanT x lvl rec k S any = some (S', any') → ∀ y, y ∈ S → y ∈ S'
  | 0, S, any, S', any', h, y, hy => by unfold scanT at h; injection h with h; injection h with h1 h2; subst h1; exact hy
  | k + 1, S, any, S', any', h, y, hy => by
    unfold scanT at h
    split at h
    · exact scanT_sub hr k S any S' any' h y hy
    · split at h
      · cases h
      · exact scanT_sub hr k S true S' any' h y hy
      · split at h
        · cases h
        · rename_i S2 h2
          exact scanT_sub hr k S2 true S' any' h y (hr _ _ _ h2 y hy)
theorem tblStep_sub {m : List Int} {free : List Bool} {lvl : Nat} {rec : Int → List Int → Option (List Int)} (hr : ∀ t S S', rec t S = some S' → ∀ y, y ∈ S → y ∈ S') {t : Int} {S S' : List Int} (h : tblStep m free lvl rec t S = some S') : (∀ y, y ∈ S → y ∈ S') ∧ t ∈ S' := by
  unfold tblStep at h
  split at h
  · cases h
  · split at h
    · rename_i S2 h2
      injection h with h; subst h
      have := scanT_sub hr 32 _ _ _ _ h2
      exact ⟨fun y hy => this y (by simp [hy]), this t (by simp)⟩
    · cases h
theorem tblF_sub {m : List Int} {free : List Bool} : ∀ (lvl : Nat) {t : Int} {S S' : List Int}, tblF m free lvl t S = some S' → ∀ y, y ∈ S → y ∈ S'
  | 0, t, S, S', h => (tblStep_sub (fun t S S' h => by cases h) h).1
  | n + 1, t, S, S', h => (tblStep_sub (fun t S S' h2 => tblF_sub n h2) h).1
/-- A table that can be, behind those of S. -/
def Tab (m : List Int) (free : List Bool) (n : Nat) (t : Int) (S : List Int) : Prop := ∃ S', tblF m free n t S = some S'
theorem cls_true {x lvl : Int} (h : cls x lvl = some true) : x < 1048576 ∧ ¬ 0 < lvl := by
  unfold cls at h
  split at h
  · cases h
  · rename_i hn
    split at h
    · cases h
    · have hk : kindS x lvl = 1 := by
        rcases kindS_cases x lvl with hh | hh | hh | hh | hh <;> first | (exfalso; exact hn (.inl (by omega))) | (exfalso; omega) | exact hh
      exact ⟨kindS_small (.inr hk), fun hl => hn (.inr ⟨hk, hl⟩)⟩
theorem cls_false {x lvl : Int} (h : cls x lvl = some false) : x < 1048576 ∧ kindS x lvl = 0 := by
  unfold cls at h
  split at h
  · cases h
  · split at h
    · rename_i hk; exact ⟨kindS_small (.inl hk), hk⟩
    · cases h
theorem Tab.rng {m : List Int} {free : List Bool} {n : Nat} {t : Int} {S : List Int} (h : Tab m free n t S) : 0 ≤ t ∧ t < (free.length : Int) ∧ t ∉ S := by
  obtain ⟨S', h⟩ := h
  have hstep : ∃ rec, tblStep m free n rec t S = some S' := by cases n <;> exact ⟨_, h⟩
  obtain ⟨rec, h⟩ := hstep
  unfold tblStep at h
  split at h
  · cases h
  · rename_i hn
    exact ⟨by by_cases hh : t < 0; exact absurd (.inl hh) hn; omega, by by_cases hh : (free.length : Int) ≤ t; exact absurd (.inr (.inl hh)) hn; omega, fun hh => hn (.inr (.inr (.inr hh)))⟩
theorem tblStep_at {m : List Int} {free : List Bool} {lvl : Nat} {rec : Int → List Int → Option (List Int)} (hr : ∀ t S S', rec t S = some S' → ∀ y, y ∈ S → y ∈ S') {t : Int} {S S' : List Int} (h : tblStep m free lvl rec t S = some S') {i : Int} (h0 : 0 ≤ i) (h1 : i < 32) (hx : entAt m t i ≠ 0) :
    cls (entAt m t i) lvl = some true ∨ (cls (entAt m t i) lvl = some false ∧ ∃ S1 S2, rec (efr (entAt m t i)) S1 = some S2 ∧ ∀ y, y ∈ S ++ [t] → y ∈ S1) := by
  unfold tblStep at h
  split at h
  · cases h
  · split at h
    · rename_i S2 h2
      have := scanT_at hr 32 _ _ _ _ h2 (31 - i).toNat (by omega)
      rw [show (31 - (((31 - i).toNat : Nat) : Int)) = i by omega] at this
      exact this hx
    · cases h
theorem Tab.ent {m : List Int} {free : List Bool} {n : Nat} {t : Int} {S : List Int} (h : Tab m free n t S) {i : Int} (h0 : 0 ≤ i) (h1 : i < 32) (hx : entAt m t i ≠ 0) : entAt m t i < 1048576 := by
  obtain ⟨S', h⟩ := h
  have hstep : ∃ rec, (∀ t S S', rec t S = some S' → ∀ y, y ∈ S → y ∈ S') ∧ tblStep m free n rec t S = some S' := by
    cases n with
    | zero => exact ⟨_, (fun t S S' h => by cases h), h⟩
    | succ k => exact ⟨_, (fun t S S' h => tblF_sub k h), h⟩
  obtain ⟨rec, hr, h⟩ := hstep
  rcases tblStep_at hr h h0 h1 hx with h2 | ⟨h2, _⟩
  · exact (cls_true h2).1
  · exact (cls_false h2).1
theorem Tab.sub {m : List Int} {free : List Bool} {n : Nat} {t : Int} {S : List Int} (h : Tab m free (n + 1) t S) {i : Int} (h0 : 0 ≤ i) (h1 : i < 32) (hx : entAt m t i ≠ 0) : kindS (entAt m t i) ((n + 1 : Nat) : Int) = 0 ∧ ∃ S1, Tab m free n (efr (entAt m t i)) S1 ∧ ∀ y, y ∈ S ++ [t] → y ∈ S1 := by
  obtain ⟨S', h⟩ := h
  rcases tblStep_at (fun t S S' h => tblF_sub n h) h h0 h1 hx with h2 | ⟨h2, S1, S2, h3, h4⟩
  · have := (cls_true h2).2; omega
  · exact ⟨(cls_false h2).2, S1, ⟨S2, h3⟩, h4⟩
theorem Tab.leaf {m : List Int} {free : List Bool} {t : Int} {S : List Int} (h : Tab m free 0 t S) {i : Int} (h0 : 0 ≤ i) (h1 : i < 32) (hx : entAt m t i ≠ 0) : kindS (entAt m t i) 0 = 1 := by
  obtain ⟨S', h⟩ := h
  rcases tblStep_at (fun t S S' h => by cases h) h h0 h1 hx with h2 | ⟨h2, S1, S2, h3, h4⟩
  · unfold cls at h2
    split at h2
    · cases h2
    · rename_i hn
      split at h2
      · cases h2
      · rcases kindS_cases (entAt m t i) 0 with hh | hh | hh | hh | hh <;> first | (exfalso; exact hn (.inl (by show kindS (entAt m t i) 0 < 0; omega))) | (exfalso; simp_all; done) | exact hh
  · cases h3
theorem tab_root {m : List Int} {T : Int} {fr : List DBlock} {root : Int} {S : List Int} (h : spaceT m T fr root = some S) : Tab m (freeL T fr) 2 root [] := by
  have hok := (spaceT_mem h).1
  rw [spaceT_pos hok] at h
  exact ⟨S, h⟩
/-! ## The way to a page -/
def ixV (va l : Int) : Int := va / (256 * pgs l) % 32
theorem ixV_rng (va l : Int) : 0 ≤ ixV va l ∧ ixV va l < 32 := by unfold ixV; omega
def wayF (m : List Int) (va : Int) : Nat → Int → List Int
  | 0, t => [t]
  | n + 1, t => t :: (if entAt m t (ixV va ((n + 1 : Nat) : Int)) = 0 then [] else wayF m va n (efr (entAt m t (ixV va ((n + 1 : Nat) : Int)))))
/-- An entry's place in its table. -/
def slotA (va : Int) (l : Nat) (t : Int) : Int := t * 256 + 8 * ixV va (l : Int)
def slotW (va : Int) : Nat → List Int → List Int
  | _, [] => []
  | 0, t :: r => slotA va 0 t :: slotW va 0 r
  | n + 1, t :: r => slotA va (n + 1) t :: slotW va n r
theorem wayF_len (m : List Int) (va : Int) : ∀ (n : Nat) (t : Int), (wayF m va n t).length ≤ n + 1
  | 0, t => Nat.le_refl _
  | n + 1, t => by
    unfold wayF
    split
    · simp
    · have := wayF_len m va n (efr (entAt m t (ixV va ((n + 1 : Nat) : Int)))); rw [List.length_cons]; omega
theorem slotW_len (va : Int) : ∀ (l : List Int) (n : Nat), (slotW va n l).length = l.length
  | [], n => by cases n <;> rfl
  | t :: r, 0 => by simp [slotW, slotW_len va r 0]
  | t :: r, n + 1 => by simp [slotW, slotW_len va r n]
theorem c41 {va : Int} {l : Nat} {w : World} (h0 : 0 ≤ va) (h1 : va < 8388608) (hl : l ≤ 2) : CallW Tryz.prog 41 #[.int .i64 va, .int .i64 (l : Int)] w (fun v w' => v = .int .i64 (ixV va (l : Int)) ∧ w' = w) := by
  refine go41 ?_
  unfold W41
  have hand : ∀ y : Int, 0 ≤ y → y < 8388608 → andI .i64 y 31 = y % 32 := by
    intro y hy0 hy1
    have h31 : (31 : Int) = ((2 ^ 5 - 1 : Nat) : Int) := rfl
    rw [h31]
    unfold andI
    show IntKind.i64.wrap (((BitVec.ofInt 64 y &&& BitVec.ofInt 64 ((2 ^ 5 - 1 : Nat) : Int)).toNat : Nat) : Int) = _
    rw [BitVec.toNat_and, bv_nat hy0 (by omega), bv_nat (by omega) (by omega), Int.toNat_natCast, Nat.and_two_pow_sub_one_eq_mod]
    obtain ⟨n, rfl⟩ := Int.eq_ofNat_of_zero_le hy0
    rw [Int.toNat_natCast, w64 (by omega) (by omega)]
    omega
  have hsh : ∀ n : Nat, n ≤ 20 → shrI .i64 va (n : Int) = va / ((2 ^ n : Nat) : Int) := by
    intro n hn
    unfold shrI
    rw [Int.toNat_natCast, show min n (IntKind.i64.bits) = n from Nat.min_eq_left (by show n ≤ 64; omega), Int.fdiv_eq_ediv_of_nonneg _ (by exact_mod_cast Nat.zero_le _)]
    norm_cast
  rw [w64 (n := 5 * (l : Int)) (by omega) (by omega), w64 (by omega) (by omega)]
  refine ⟨by omega, ?_, rfl⟩
  have hpg : (8 + 5 * (l : Int)) = ((8 + 5 * l : Nat) : Int) ∧ ((2 ^ (8 + 5 * l) : Nat) : Int) = 256 * pgs (l : Int) := by
    refine ⟨by omega, ?_⟩
    have : l = 0 ∨ l = 1 ∨ l = 2 := by omega
    rcases this with rfl | rfl | rfl <;> rfl
  have hp := pgs_pos (n := (l : Int)) (by omega)
  rw [hpg.1, hsh _ (by omega), hpg.2, hand _ (Int.ediv_nonneg h0 (by omega)) (by have := Int.ediv_le_self (256 * pgs (l : Int)) h0; omega)]
  rfl
theorem c66 {t va : Int} {l : Nat} {w : World} (ht : 0 ≤ t) (ht1 : t < 4096) (h0 : 0 ≤ va) (h1 : va < 8388608) (hl : l ≤ 2) : CallW Tryz.prog 66 #[.int .i64 t, .int .i64 (l : Int), .int .i64 va] w (fun v w' => v = .int .i64 (slotA va l t) ∧ w' = w) := by
  refine go66 ?_
  unfold W66
  refine (c110 (by omega) (by omega)).mono ?_
  rintro _ w ⟨rfl, rfl⟩
  have hp := pgs_pos (n := (l : Int)) (by omega)
  have hp2 : pgs (l : Int) ≤ 1024 := by unfold pgs; split <;> (try split) <;> omega
  have hx := ixV_rng va (l : Int)
  refine ⟨_, rfl, ?_⟩
  rw [w64 (n := 256 * pgs (l : Int)) (by omega) (by omega)]
  have hd0 : 0 ≤ va / (256 * pgs (l : Int)) := Int.ediv_nonneg h0 (by omega)
  have hd1 := Int.ediv_le_self (256 * pgs (l : Int)) h0
  refine ⟨by omega, by omega, ?_, rfl⟩
  rw [Int.tdiv_eq_ediv_of_nonneg h0, w64 (n := va / (256 * pgs (l : Int))) (by omega) (by omega), Int.tmod_eq_emod_of_nonneg hd0, w64 (n := t * 256) (by omega) (by omega)]
  show Value.int .i64 (IntKind.i64.wrap (t * 256 + IntKind.i64.wrap (8 * ixV va (l : Int)))) = _
  rw [w64 (n := 8 * ixV va (l : Int)) (by omega) (by omega), w64 (by omega) (by omega)]
  rfl
end Go.Proofs.YtkgoanjemhbjgaaGreat

/- The way through a space's tables, in memory; words written. Conditions: none. -/
set_option linter.unusedVariables false
set_option linter.unusedSimpArgs false
namespace Go.Proofs.YtkgoanjemhbjgaaGreat
open Go Go.Den
abbrev rowN (s : Sl) (l : List Int) : Asr := aRow s 1 (nums .i64 l)
/-! ## A word written -/
def pk (m : List Int) (a : Nat) (x : Int) : Nat → List Int
  | 0 => m
  | k + 1 => (pk m a x k).set (a + k) (x / ((256 ^ k : Nat) : Int) % 256)
theorem pk_len (m : List Int) (a : Nat) (x : Int) : ∀ k, (pk m a x k).length = m.length
  | 0 => rfl
  | k + 1 => by unfold pk; rw [List.length_set, pk_len m a x k]
theorem pk_rng {m : List Int} (h : ∀ y, y ∈ m → 0 ≤ y ∧ y ≤ 255) (a : Nat) (x : Int) : ∀ k y, y ∈ pk m a x k → 0 ≤ y ∧ y ≤ 255
  | 0, y, hy => h y hy
  | k + 1, y, hy => by
    unfold pk at hy
    rcases List.mem_or_eq_of_mem_set hy with hy | hy
    · exact pk_rng h a x k y hy
    · omega
theorem pk_out (m : List Int) (a : Nat) (x : Int) : ∀ (k j : Nat), (j < a ∨ a + k ≤ j) → (pk m a x k).getD j 0 = m.getD j 0
  | 0, j, h => rfl
  | k + 1, j, h => by
    unfold pk
    rw [List.getD_eq_getElem?_getD, List.getElem?_set_ne (by omega), ← List.getD_eq_getElem?_getD]
    exact pk_out m a x k j (by omega)
theorem pow256 : ∀ k : Nat, 2 ^ (8 * k) = 256 ^ k
  | 0 => rfl
  | k + 1 => by rw [Nat.mul_succ, Nat.pow_add, pow256 k]; exact (Nat.pow_succ ..).symm
theorem s92 {w0 w : World} {sm : Sl} {m : List Int} {F : List Asr} {a : Nat} {x : Int} (h : SH w0 w (rowM sm m :: F)) (h0 : 0 ≤ x) (h1 : x < 18446744073709551616) (ha : a + 8 ≤ m.length) (hs : m.length ≤ 1048576) :
    CallW Tryz.prog 92 #[.slice sm.a sm.len sm.cap, .int .i64 (a : Int), .int .i64 8, .int .u64 x] w (fun v w' => v = .tuple #[] ∧ SH w0 w' (rowM sm (pk m a x 8) :: F)) := by
  refine go92 ?_
  unfold W92
  have hl : sm.len = m.length := by rw [h.len 0 rfl, nums_len]
  have hc := h.lenCap 0 rfl
  obtain ⟨bm, hba, _, _⟩ := h.addr 0 rfl (by omega)
  refine LoopW.m1 (fun (i : Int) w' => ∃ k : Nat, i = k ∧ k ≤ 8 ∧ SH w0 w' (rowM sm (pk m a x k) :: F)) (fun (i : Int) _ => (8 - i).toNat) ⟨0, rfl, by omega, h⟩ ?_
  rintro (i : Int) w4 ⟨k, rfl, hk, h4⟩ J hJ
  refine BIf.dec (fun hlt => ?_) (fun hge => ?_)
  · have hidx : IntKind.i64.wrap ((a : Int) + (k : Int)) = ((a + k : Nat) : Int) := by rw [w64 (by omega) (by omega)]; omega
    have h8 : IntKind.i64.wrap (8 * (k : Int)) = ((8 * k : Nat) : Int) := by rw [w64 (by omega) (by omega)]; omega
    rw [hidx, Int.toNat_natCast, h8, shrI_u64 (by omega), pow256]
    have hm : IntKind.u8.wrap (x / ((256 ^ k : Nat) : Int)) = x / ((256 ^ k : Nat) : Int) % 256 := by rw [IntKind.wrap_u8]
    rw [hm]
    have hz : (pk m a x k)[a + k]? = some _ := List.getElem?_eq_getElem (by rw [pk_len]; omega)
    refine ⟨by omega, by omega, by omega, _, hba, h4.setE0 0 rfl hba (nums_get hz) rfl (fun w7 h7 n7 => ?_)⟩
    rw [w64 (by omega) (by omega)]
    rw [nums_set hz] at h7
    exact hJ _ _ ⟨k + 1, by omega, by omega, h7⟩ (by omega)
  · have hk2 : k = 8 := by omega
    subst hk2
    exact ⟨rfl, h4⟩
theorem s65 {w0 w : World} {sm : Sl} {m : List Int} {F : List Asr} {a : Nat} {x : Int} (h : SH w0 w (rowM sm m :: F)) (h0 : 0 ≤ x) (h1 : x < 18446744073709551616) (ha : a + 8 ≤ m.length) (hs : m.length ≤ 1048576) :
    CallW Tryz.prog 65 #[.slice sm.a sm.len sm.cap, .int .i64 (a : Int), .int .u64 x] w (fun v w' => v = .tuple #[] ∧ SH w0 w' (rowM sm (pk m a x 8) :: F)) := by
  refine go65 ?_
  unfold W65
  have hl : sm.len = m.length := by rw [h.len 0 rfl, nums_len]
  have hc := h.lenCap 0 rfl
  obtain ⟨bm, hba, _, _⟩ := h.addr 0 rfl (by omega)
  refine LoopW.m2 (fun (y : Int) (i : Int) w' => ∃ k : Nat, i = k ∧ k ≤ 8 ∧ y = x / ((256 ^ k : Nat) : Int) ∧ SH w0 w' (rowM sm (pk m a x k) :: F)) (fun _ (i : Int) _ => (8 - i).toNat) ⟨0, rfl, by omega, by simp, h⟩ ?_
  rintro (y : Int) (i : Int) w4 ⟨k, rfl, hk, rfl, h4⟩ J hJ
  have hp : 1 ≤ 256 ^ k := Nat.one_le_pow _ _ (by omega)
  have hy0 : 0 ≤ x / ((256 ^ k : Nat) : Int) := Int.ediv_nonneg h0 (by omega)
  have hy1 : x / ((256 ^ k : Nat) : Int) ≤ x := Int.ediv_le_self _ h0
  refine BIf.dec (fun hlt => ?_) (fun hge => ?_)
  · have hidx : IntKind.i64.wrap ((a : Int) + (k : Int)) = ((a + k : Nat) : Int) := by rw [w64 (by omega) (by omega)]; omega
    rw [hidx, Int.toNat_natCast, Int.tmod_eq_emod_of_nonneg hy0, Int.tdiv_eq_ediv_of_nonneg hy0]
    have hm : IntKind.u8.wrap (x / ((256 ^ k : Nat) : Int) % 256) = x / ((256 ^ k : Nat) : Int) % 256 := by rw [IntKind.wrap_u8]; omega
    rw [hm]
    have hz : (pk m a x k)[a + k]? = some _ := List.getElem?_eq_getElem (by rw [pk_len]; omega)
    refine ⟨by omega, by omega, by omega, _, hba, h4.setE0 0 rfl hba (nums_get hz) rfl (fun w7 h7 n7 => ?_)⟩
    refine ⟨by omega, ?_⟩
    rw [w64 (by omega) (by omega), wu64 (by omega) (by omega)]
    rw [nums_set hz] at h7
    refine hJ _ _ _ ⟨k + 1, by omega, by omega, ?_, h7⟩ (by omega)
    rw [Nat.pow_succ, Int.natCast_mul, ← Int.ediv_ediv_of_nonneg (by omega)]; rfl
  · have hk2 : k = 8 := by omega
    subst hk2
    exact ⟨rfl, h4⟩
theorem s40 {w0 w : World} {b : Nat} {sm sf : Sl} {m : List Int} {T : Int} {F : List Asr} {t i x : Int} (h : SH w0 w (poolB b sm T sf :: rowM sm m :: F)) (ht : 0 ≤ t) (hi0 : 0 ≤ i) (hi : i < 32) (h0 : 0 ≤ x) (h1 : x < 18446744073709551616) (ha : t * 256 + 256 ≤ m.length) (hs : m.length ≤ 1048576) :
    CallW Tryz.prog 40 #[.pointer (some ⟨b, 0, none⟩), .int .i64 t, .int .i64 i, .int .u64 x] w (fun v w' => v = .tuple #[] ∧ SH w0 w' (poolB b sm T sf :: rowM sm (pk m (t * 256 + 8 * i).toNat x 8) :: F)) := by
  refine go40 ?_
  unfold W40
  refine ⟨_, rfl, sm, h.cell 0 rfl rfl, ?_⟩
  rw [w64 (n := t * 256) (by omega) (by omega), w64 (n := 8 * i) (by omega) (by omega), w64 (by omega) (by omega)]
  have hn : t * 256 + 8 * i = (((t * 256 + 8 * i).toNat : Nat) : Int) := by omega
  rw [hn]
  refine (s92 h.p1 h0 h1 (by omega) hs).mono ?_
  rintro _ w4 ⟨rfl, h4⟩
  rw [Int.toNat_natCast]
  exact ⟨rfl, rfl, h4.p1⟩
/-! ## The way -/
theorem tab_room {m : List Int} {free : List Bool} {n : Nat} {t : Int} {S : List Int} (h : Tab m free n t S) (hm : m.length = 256 * free.length) : 0 ≤ t ∧ t * 256 + 256 ≤ m.length := by
  have := h.rng; omega
theorem efr_rng (x : Int) : 0 ≤ efr x ∧ efr x < 4096 := by unfold efr; omega
theorem s91 {w0 w : World} {b : Nat} {sm sf : Sl} {m : List Int} {free : List Bool} {T root va : Int} {F : List Asr} {S0 : List Int} (h : SH w0 w (poolB b sm T sf :: rowM sm m :: F)) (hT : Tab m free 2 root S0) (hm : m.length = 256 * free.length) (hr : ∀ x, x ∈ m → 0 ≤ x ∧ x ≤ 255) (hs : m.length ≤ 1048576) (hv0 : 0 ≤ va) (hv1 : va < 8388608) :
    CallW Tryz.prog 91 #[.pointer (some ⟨b, 0, none⟩), .int .i64 root, .int .i64 va] w (fun v w' => ∃ l : Sl, v = .slice l.a l.len l.cap ∧ SH w0 w' (rowN l (wayF m va 2 root) :: poolB b sm T sf :: rowM sm m :: F)) := by
  refine go91 ?_
  unfold W91
  refine h.alloc (fun w1 h1 e1 n1 => ?_)
  have h1 : SH w0 w1 (rowN ⟨some ⟨w.heap.size, 0, none⟩, 1, 1⟩ ([] ++ [root]) :: poolB b sm T sf :: rowM sm m :: F) := h1.toRow (ys := [[.int .i64 root]]) (n := 1) (z := 1) rfl rfl (fun u hu => by rw [List.mem_singleton.1 hu]; rfl)
  refine LoopW.m2 (fun (l : Sl) (i : Int) w' => ∃ (n : Nat) (t : Int) (S pref : List Int), i = n ∧ n ≤ 2 ∧ pref.length + n = 2 ∧ pref ++ wayF m va n t = wayF m va 2 root ∧ Tab m free n t S ∧ SH w0 w' (rowN l (pref ++ [t]) :: poolB b sm T sf :: rowM sm m :: F)) (fun (l : Sl) (i : Int) _ => i.toNat) ⟨2, root, S0, [], rfl, by omega, rfl, rfl, hT, h1⟩ ?_
  rintro (l : Sl) (i : Int) w5 ⟨n, t, S, pref, rfl, hn, hpn, hW, hTt, h5⟩ J hJ
  refine BIf.dec (fun hlt => ?_) (fun hge => ?_)
  · have hll : l.len = pref.length + 1 := by rw [h5.len 0 rfl, nums_len]; simp
    have hix : IntKind.i64.wrap (((l.len : Nat) : Int) - 1) = (pref.length : Int) := by rw [w64 (by omega) (by omega)]; omega
    rw [hix, Int.toNat_natCast]
    have h6 := h5.drew
    have hx : (pref ++ [t])[pref.length]? = some t := by simp
    obtain ⟨q, hq, hqc⟩ := h6.elem0 0 rfl (nums_get hx) rfl
    refine ⟨by omega, by omega, q, hq, t, hqc, ?_⟩
    obtain ⟨k, rfl⟩ : ∃ k, n = k + 1 := ⟨n - 1, by omega⟩
    refine (c41 hv0 hv1 hn).mono ?_
    rintro _ w9 ⟨rfl, rfl⟩
    refine ⟨_, rfl, ⟨t, hqc, rfl⟩, rfl, ?_⟩
    have hix2 := ixV_rng va ((k + 1 : Nat) : Int)
    have hroom := tab_room hTt hm
    refine (c69 (SH.blk h6 1 rfl) (SH.bytes h6 2 rfl hr (by omega)) hroom.1 hix2.1 hix2.2 hroom.2).mono ?_
    rintro _ w ⟨rfl, rfl⟩
    refine ⟨_, rfl, BIf.eq (fun h0 => ?_) (fun hne => ?_)⟩
    · refine ⟨l, rfl, ?_⟩
      have h0 : entAt m t (ixV va ((k + 1 : Nat) : Int)) = 0 := h0
      have hw : wayF m va (k + 1) t = [t] := by unfold wayF; rw [if_pos h0]
      rw [← hW, hw]; exact h6
    · have hne : entAt m t (ixV va ((k + 1 : Nat) : Int)) ≠ 0 := hne
      have hw := word_rng hr (t * 256 + 8 * ixV va ((k + 1 : Nat) : Int))
      refine (c38 hw.1 hw.2).mono ?_
      rintro _ w16 ⟨rfl, e16⟩
      have h16 := h6.to e16
      refine ⟨_, _, _, _, _, _, _, _, _, rfl, LetW_iff.2 (SH.appendN1 h16 rfl rfl (by decide) (by simp; show (pref.length + 1 + 1) * 8 ≤ _; omega) (fun s' w28 h28 g1 g2 => ?_))⟩
      rw [w64 (by omega) (by omega)]
      obtain ⟨_, S1, hT1, _⟩ := hTt.sub hix2.1 hix2.2 hne
      refine hJ _ _ _ ⟨k, efr (entAt m t (ixV va ((k + 1 : Nat) : Int))), S1, pref ++ [t], by omega, by omega, by simp; omega, ?_, hT1, h28⟩ (by omega)
      rw [← hW]
      have : wayF m va (k + 1) t = t :: wayF m va k (efr (entAt m t (ixV va ((k + 1 : Nat) : Int)))) := by rw [wayF, if_neg hne]
      rw [this]; simp
  · obtain rfl : n = 0 := by omega
    refine ⟨l, rfl, ?_⟩
    rw [← hW]; exact h5
end Go.Proofs.YtkgoanjemhbjgaaGreat

/- The way through a space's tables, the reference's; a page's entry. Conditions: none. -/
set_option linter.unusedVariables false
set_option linter.unusedSimpArgs false
namespace Go.Proofs.YtkgoanjemhbjgaaGreat
open Go Go.Den
theorem wayF_z {m : List Int} {va : Int} {n : Nat} {t : Int} (h : entAt m t (ixV va ((n + 1 : Nat) : Int)) = 0) : wayF m va (n + 1) t = [t] := by unfold wayF; rw [if_pos h]
theorem wayF_s {m : List Int} {va : Int} {n : Nat} {t : Int} (h : entAt m t (ixV va ((n + 1 : Nat) : Int)) ≠ 0) : wayF m va (n + 1) t = t :: wayF m va n (efr (entAt m t (ixV va ((n + 1 : Nat) : Int)))) := by rw [wayF, if_neg h]
set_option maxHeartbeats 1000000 in
theorem s107 {w : World} {sm sf : Sl} {m : List Int} {free : List Bool} {T root va : Int} {S0 : List Int} (hbm : Bytes w sm m) (hT : Tab m free 2 root S0) (hm : m.length = 256 * free.length) (hs : m.length ≤ 262144) (hv0 : 0 ≤ va) (hv1 : va < 8388608) :
    CallW Tryz.prog 107 #[.agg #[.slice sm.a sm.len sm.cap, .int .i64 T, .slice sf.a sf.len sf.cap], .int .i64 root, .int .i64 va] w (fun v w' => ∃ l : Sl, v = .slice l.a l.len l.cap ∧ SH w w' [rowN l (slotW va 2 (wayF m va 2 root))]) := by
  refine go107 ?_
  unfold W107
  have h := SH.start w
  refine h.alloc (fun w1 h1 e1 n1 => h1.alloc (fun w2 h2 e2 n2 => ?_))
  have h2 := h2.drop
  have hr := hbm.rng
  refine LoopW.m3 (fun (l : Sl) (t : Int) (i : Int) w' => (∃ (n : Nat) (S pref : List Int), i = n ∧ n ≤ 2 ∧ pref.length + n = 2 ∧ pref ++ slotW va n (wayF m va n t) = slotW va 2 (wayF m va 2 root) ∧ Tab m free n t S ∧ SH w w' [rowN l pref, poolB w.heap.size sm T sf]) ∨ (i = -1 ∧ SH w w' [rowN l (slotW va 2 (wayF m va 2 root)), poolB w.heap.size sm T sf])) (fun (l : Sl) (t : Int) (i : Int) _ => (i + 1).toNat) (.inl ⟨2, S0, [], rfl, by omega, rfl, rfl, hT, h2.nil _ 1⟩) ?_
  rintro (l : Sl) (t : Int) (i : Int) w7 hinv J hJ
  rcases hinv with ⟨n, S, pref, rfl, hn, hpn, hW, hTt, h7⟩ | ⟨rfl, h7⟩
  · refine BIf.dec (fun hlt => ?_) (fun hge => by omega)
    have hroom := tab_room hTt hm
    refine (c66 hroom.1 (by omega) hv0 hv1 hn).mono ?_
    rintro _ w9 ⟨rfl, rfl⟩
    refine ⟨_, rfl, LetW_iff.2 (SH.appendN1 h7 rfl rfl (by decide) (by show (_ + 1) * 8 ≤ _; omega) (fun l12 w13 h13 g1 g2 => ?_))⟩
    have hix := ixV_rng va (n : Int)
    refine ⟨sm, h13.cell 1 rfl rfl, ?_⟩
    refine (c108 (hbm.ext h13.ext) (by show 0 ≤ t * 256 + 8 * ixV va (n : Int); omega) (by show t * 256 + 8 * ixV va (n : Int) + 8 ≤ _; omega)).mono ?_
    rintro _ w16 ⟨rfl, rfl⟩
    refine ⟨_, rfl, BIf.eq (fun h0 => ?_) (fun hne => ?_)⟩
    · have h0 : entAt m t (ixV va (n : Int)) = 0 := h0
      refine ⟨l12, rfl, ?_⟩
      have hw : slotW va n (wayF m va n t) = [slotA va n t] := by
        cases n with
        | zero => rfl
        | succ k => rw [wayF_z h0]; cases k <;> rfl
      rw [hw] at hW
      rw [← hW]; exact h13.one
    · have hne : entAt m t (ixV va (n : Int)) ≠ 0 := hne
      have hw := word_rng hr (t * 256 + 8 * ixV va (n : Int))
      have hsm := hTt.ent hix.1 hix.2 hne
      refine (c28 hw.1 hsm).mono ?_
      rintro _ w19 ⟨rfl, e19⟩
      have h19 := h13.to e19
      refine ⟨_, _, _, _, _, _, _, _, _, _, rfl, h19.alloc (fun w30 h30 e30 n30 => h30.put 0 rfl rfl rfl (fun w31 h31 n31 => ?_))⟩
      refine ⟨_, h31.cell 0 (i := 8) rfl rfl, ?_⟩
      rw [w64 (by omega) (by omega)]
      have hgo : SH w w31 [rowN l12 (pref ++ [slotA va n t]), poolB w.heap.size sm T sf] := h31.drop
      cases n with
      | zero =>
        refine hJ _ _ _ _ (.inr ⟨rfl, ?_⟩) (by show _ < _; omega)
        have hw2 : slotW va 0 (wayF m va 0 t) = [slotA va 0 t] := rfl
        rw [hw2] at hW; rw [← hW]; exact hgo
      | succ k =>
        obtain ⟨_, S1, hT1, _⟩ := hTt.sub hix.1 hix.2 hne
        refine hJ _ _ _ _ (.inl ⟨k, S1, pref ++ [slotA va (k + 1) t], by omega, by omega, by simp; omega, ?_, hT1, hgo⟩) (by omega)
        rw [← hW, wayF_s hne]
        show _ = pref ++ slotA va (k + 1) t :: slotW va k _
        simp; rfl
  · refine BIf.dec (fun hlt => by omega) (fun hge => ?_)
    exact ⟨l, rfl, h7.one⟩
/-! ## A page's entry -/
def pageX (m : List Int) (va root : Int) : Int := if (wayF m va 2 root).length = 3 then entAt m ((wayF m va 2 root).getD 2 0) (ixV va 0) else 0
/-- How a way can be. -/
inductive WayIs (m : List Int) (free : List Bool) (va root : Int) : Prop where
  | one (h : entAt m root (ixV va 2) = 0) (hw : wayF m va 2 root = [root]) : WayIs m free va root
  | two (t1 : Int) (S1 : List Int) (h2 : entAt m root (ixV va 2) ≠ 0) (ht1 : t1 = efr (entAt m root (ixV va 2))) (hT1 : Tab m free 1 t1 S1) (hr1 : root ≠ t1) (h : entAt m t1 (ixV va 1) = 0) (hw : wayF m va 2 root = [root, t1]) : WayIs m free va root
  | three (t1 t2 : Int) (S1 S2 : List Int) (h2 : entAt m root (ixV va 2) ≠ 0) (ht1 : t1 = efr (entAt m root (ixV va 2))) (hT1 : Tab m free 1 t1 S1) (hr1 : root ≠ t1) (h1 : entAt m t1 (ixV va 1) ≠ 0) (ht2 : t2 = efr (entAt m t1 (ixV va 1))) (hT2 : Tab m free 0 t2 S2) (hr2 : root ≠ t2) (hr3 : t1 ≠ t2) (hw : wayF m va 2 root = [root, t1, t2]) : WayIs m free va root
theorem way_is {m : List Int} {free : List Bool} {va root : Int} {S0 : List Int} (hT : Tab m free 2 root S0) : WayIs m free va root := by
  by_cases h2 : entAt m root (ixV va 2) = 0
  · exact .one h2 (wayF_z h2)
  · have hi2 := ixV_rng va 2
    have hi1 := ixV_rng va 1
    obtain ⟨_, S1, hT1, hS1⟩ := hT.sub hi2.1 hi2.2 h2
    have hw2 : wayF m va 2 root = root :: wayF m va 1 (efr (entAt m root (ixV va 2))) := wayF_s h2
    have hr1 : root ≠ efr (entAt m root (ixV va 2)) := fun hh => hT1.rng.2.2 (by rw [← hh]; exact hS1 root (by simp))
    by_cases h1 : entAt m (efr (entAt m root (ixV va 2))) (ixV va 1) = 0
    · exact .two _ S1 h2 rfl hT1 hr1 h1 (by rw [hw2, show wayF m va 1 _ = _ from wayF_z h1])
    · obtain ⟨_, S2, hT2, hS2⟩ := hT1.sub hi1.1 hi1.2 h1
      exact .three _ _ S1 S2 h2 rfl hT1 hr1 h1 rfl hT2 (fun hh => hT2.rng.2.2 (by rw [← hh]; exact hS2 root (by simp [hS1 root (by simp)]))) (fun hh => hT2.rng.2.2 (by rw [← hh]; exact hS2 _ (by simp))) (by rw [hw2, show wayF m va 1 _ = _ from wayF_s h1]; rfl)
theorem s39 {w0 w : World} {b : Nat} {sm sf : Sl} {m : List Int} {free : List Bool} {T root va : Int} {F : List Asr} {S0 : List Int} (h : SH w0 w (poolB b sm T sf :: rowM sm m :: F)) (hT : Tab m free 2 root S0) (hm : m.length = 256 * free.length) (hr : ∀ x, x ∈ m → 0 ≤ x ∧ x ≤ 255) (hs : m.length ≤ 1048576) (hv0 : 0 ≤ va) (hv1 : va < 8388608) :
    CallW Tryz.prog 39 #[.pointer (some ⟨b, 0, none⟩), .int .i64 root, .int .i64 va] w (fun v w' => ∃ l : Sl, v = .tuple #[.int .u64 (pageX m va root), .slice l.a l.len l.cap] ∧ SH w0 w' (rowN l (wayF m va 2 root) :: poolB b sm T sf :: rowM sm m :: F)) := by
  refine go39 ?_
  unfold W39
  refine (s91 h hT hm hr hs hv0 hv1).mono ?_
  rintro _ w2 ⟨l, rfl, h2⟩
  refine ⟨l, rfl, ?_⟩
  have hll : l.len = (wayF m va 2 root).length := by rw [h2.len 0 rfl, nums_len]
  have hshort : (wayF m va 2 root).length < 3 → pageX m va root = 0 := fun hh => by unfold pageX; rw [if_neg (by omega)]
  rcases way_is (va := va) hT with ⟨_, hw⟩ | ⟨t1, S1, _, _, _, _, _, hw⟩ | ⟨t1, t2, S1, S2, _, _, _, _, _, _, hT2, _, _, hw⟩
  · refine BIf.dec (fun hlt => ?_) (fun hge => by rw [hll, hw] at hge; simp at hge)
    exact ⟨l, by rw [hshort (by rw [hw]; simp)], h2⟩
  · refine BIf.dec (fun hlt => ?_) (fun hge => by rw [hll, hw] at hge; simp at hge)
    exact ⟨l, by rw [hshort (by rw [hw]; simp)], h2⟩
  · refine BIf.dec (fun hlt => by rw [hll, hw] at hlt; simp at hlt) (fun hge => ?_)
    have hl3 : l.len = 3 := by rw [hll, hw]; rfl
    have h3 := h2.drew
    have hx : (wayF m va 2 root)[2]? = some t2 := by rw [hw]; rfl
    obtain ⟨q, hq, hqc⟩ := h3.elem0 0 rfl (nums_get hx) rfl
    refine ⟨by omega, by omega, q, hq, t2, hqc, ?_⟩
    refine (c41 (l := 0) hv0 hv1 (by omega)).mono ?_
    rintro _ w9 ⟨rfl, rfl⟩
    refine ⟨_, rfl, ⟨t2, hqc, rfl⟩, ?_⟩
    have hroom := tab_room hT2 hm
    have hix := ixV_rng va ((0 : Nat) : Int)
    refine (c69 (SH.blk h3 1 rfl) (SH.bytes h3 2 rfl hr (by omega)) hroom.1 hix.1 hix.2 hroom.2).mono ?_
    rintro _ w ⟨rfl, rfl⟩
    refine ⟨_, rfl, l, ?_, h3⟩
    have : pageX m va root = entAt m t2 (ixV va 0) := by unfold pageX; rw [hw]; rfl
    rw [this]; rfl
theorem s63 {w : World} {sm sf : Sl} {m : List Int} {free : List Bool} {T root va : Int} {S0 : List Int} (hbm : Bytes w sm m) (hT : Tab m free 2 root S0) (hm : m.length = 256 * free.length) (hs : m.length ≤ 262144) (hv0 : 0 ≤ va) (hv1 : va < 8388608) :
    CallW Tryz.prog 63 #[.agg #[.slice sm.a sm.len sm.cap, .int .i64 T, .slice sf.a sf.len sf.cap], .int .i64 root, .int .i64 va] w (fun v w' => ∃ l : Sl, v = .tuple #[.slice l.a l.len l.cap, .bool (pageX m va root != 0)] ∧ SH w w' [rowN l (slotW va 2 (wayF m va 2 root))]) := by
  refine go63 ?_
  unfold W63
  have h := SH.start w
  refine h.alloc (fun w1 h1 e1 n1 => ?_)
  refine ⟨sm, h1.cell 0 rfl rfl, _, h1.cell 0 rfl rfl, sf, h1.cell 0 rfl rfl, ?_⟩
  refine (s107 (hbm.ext h1.ext) hT hm hs hv0 hv1).mono ?_
  rintro _ w6 ⟨l, rfl, g6⟩
  have h6 := h1.seq g6
  refine ⟨l, rfl, ?_⟩
  have hll : l.len = (wayF m va 2 root).length := by rw [h6.len 0 rfl, nums_len, slotW_len]
  have hshort : (wayF m va 2 root).length < 3 → (pageX m va root != 0) = false := fun hh => by unfold pageX; rw [if_neg (by omega)]; rfl
  have h7 := h6.drew
  rcases way_is (va := va) hT with ⟨_, hw⟩ | ⟨t1, S1, _, _, _, _, _, hw⟩ | ⟨t1, t2, S1, S2, _, _, _, _, _, _, hT2, _, _, hw⟩
  · refine BIf.eq (fun hlt => by rw [hll, hw] at hlt; simp at hlt) (fun hge => ?_)
    exact ⟨l, by rw [hshort (by rw [hw]; simp)], h7.one⟩
  · refine BIf.eq (fun hlt => by rw [hll, hw] at hlt; simp at hlt) (fun hge => ?_)
    exact ⟨l, by rw [hshort (by rw [hw]; simp)], h7.one⟩
  · refine BIf.eq (fun hge => ?_) (fun hlt => by rw [hll, hw] at hlt; simp at hlt)
    have hl3 : l.len = 3 := by rw [hll, hw]; rfl
    have hx : (slotW va 2 (wayF m va 2 root))[2]? = some (slotA va 0 t2) := by rw [hw]; rfl
    obtain ⟨q, hq, hqc⟩ := h7.elem0 0 rfl (nums_get hx) rfl
    have hroom := tab_room hT2 hm
    have hix := ixV_rng va ((0 : Nat) : Int)
    refine ⟨sm, h7.cell 1 rfl rfl, by omega, by omega, q, hq, _, hqc, ?_⟩
    refine (c108 (hbm.ext h7.ext) (by show 0 ≤ t2 * 256 + 8 * ixV va ((0 : Nat) : Int); omega) (by show t2 * 256 + 8 * ixV va ((0 : Nat) : Int) + 8 ≤ _; omega)).mono ?_
    rintro _ w16 ⟨rfl, rfl⟩
    refine ⟨_, rfl, l, ?_, h7.one⟩
    have : pageX m va root = entAt m t2 (ixV va 0) := by unfold pageX; rw [hw]; rfl
    rw [this]; rfl
end Go.Proofs.YtkgoanjemhbjgaaGreat

/- UnmapPage: what it comes to; what is asked, empty tables. Conditions: none. -/
set_option linter.unusedVariables false
set_option linter.unusedSimpArgs false
namespace Go.Proofs.YtkgoanjemhbjgaaGreat
open Go Go.Den
/-! ## What is asked -/
noncomputable def badB (m : List Int) (T : Int) (fr : List DBlock) (root va : Int) : Bool := (decide (va < 0) || decide (8388608 ≤ va) || decide (va % 256 ≠ 0)) || !(spaceT m T fr root).isSome
theorem bad_no {m : List Int} {T : Int} {fr : List DBlock} {root va : Int} (h : badB m T fr root va = false) : 0 ≤ va ∧ va < 8388608 ∧ ∃ S, spaceT m T fr root = some S := by
  unfold badB at h
  simp only [Bool.or_eq_false_iff, decide_eq_false_iff_not, Bool.not_eq_false'] at h
  exact ⟨by omega, by omega, Option.isSome_iff_exists.1 h.2⟩
theorem bad_step {m : List Int} {T : Int} {fr : List DBlock} {root va : Int} {w : World} {k : Bool → World → Prop} (h : k (decide (va < 0) || decide (8388608 ≤ va) || decide (va % 256 ≠ 0)) w) :
    JoinW [.bool] (fun J3 => BIf (decide (va < 0)) (J3 true w) (J3 (decide (va ≥ 8388608)) w)) fun (b2 : Bool) w4 => JoinW [.bool] (fun J6 => BIf b2 (J6 true w4) ((256 : Int) ≠ 0 ∧ J6 ((Int.tmod va 256 : Int) != 0) w4)) k := by
  refine JoinW.cut1 (fun (b : Bool) w' => b = (decide (va < 0) || decide (8388608 ≤ va)) ∧ w' = w) ?_ ?_
  · refine BIf.dec (fun h1 => ⟨by simp [h1], rfl⟩) (fun h1 => ⟨?_, rfl⟩)
    simp [h1]
  rintro (b : Bool) w ⟨rfl, rfl⟩
  refine JoinW.cut1 (fun (b : Bool) w' => b = (decide (va < 0) || decide (8388608 ≤ va) || decide (va % 256 ≠ 0)) ∧ w' = w) ?_ ?_
  · refine BIf.of (fun h1 => ⟨by rw [h1]; rfl, rfl⟩) (fun h1 => ⟨by omega, ?_, rfl⟩)
    rw [h1]
    simp only [Bool.or_eq_false_iff, decide_eq_false_iff_not] at h1
    rw [Int.tmod_eq_emod_of_nonneg (by omega), Bool.false_or]
    by_cases hh : va % 256 = 0
    · simp [hh]
    · simp [hh]
  rintro (b : Bool) w ⟨rfl, rfl⟩
  exact h
theorem s61 {sm sf : Sl} {m : List Int} {T root va : Int} {fr : List DBlock} {w : World} (hm : Bytes w sm m) (hf : FrAt w sf fr) :
    CallW Tryz.prog 61 #[.agg #[.slice sm.a sm.len sm.cap, .int .i64 T, .slice sf.a sf.len sf.cap], .int .i64 root, .int .i64 va] w (fun v w' => v = .bool (badB m T fr root va) ∧ Ext w w') := by
  refine go61 ?_
  unfold W61
  refine (SH.start w).alloc (fun w1 h1 e1 n1 => bad_step (m := m) (T := T) (fr := fr) (root := root) ?_)
  refine JoinW.cut1 (fun (b : Bool) w' => b = badB m T fr root va ∧ Ext w w') ?_ ?_
  · refine BIf.of (fun hh => ⟨by unfold badB; rw [hh]; rfl, e1⟩) (fun hh => ?_)
    refine ⟨sm, h1.cell 0 rfl rfl, _, h1.cell 0 rfl rfl, sf, h1.cell 0 rfl rfl, (c17 (hm.ext e1) (hf.ext e1)).mono ?_⟩
    rintro _ w15 ⟨rfl, e15⟩
    exact ⟨_, rfl, by unfold badB; rw [hh]; rfl, Only.trans e1 e15⟩
  · rintro (b : Bool) w10 ⟨rfl, e10⟩
    exact ⟨rfl, e10⟩
/-! ## Empty tables -/
theorem byt_nn {m : List Int} (h : ∀ x, x ∈ m → 0 ≤ x ∧ x ≤ 255) (i : Int) : 0 ≤ byt m i := by
  unfold byt
  rw [List.getD_eq_getElem?_getD]
  rcases hx : m[i.toNat]? with _ | x
  · exact Int.le_refl _
  · exact (h x (List.mem_of_getElem? hx)).1
theorem horn_zero {m : List Int} (hr : ∀ x, x ∈ m → 0 ≤ x ∧ x ≤ 255) (a : Int) : ∀ (k : Nat) (x : Int), 0 ≤ x → (hornr m a k x = 0 ↔ x = 0 ∧ ∀ j : Nat, j < k → byt m (a + (j : Int)) = 0)
  | 0, x, hx => ⟨fun h => ⟨h, fun j hj => by omega⟩, fun h => h.1⟩
  | k + 1, x, hx => by
    have hb := byt_nn hr (a + (k : Int))
    unfold hornr
    rw [horn_zero hr a k _ (by omega)]
    constructor
    · rintro ⟨h1, h2⟩
      exact ⟨by omega, fun j hj => by by_cases hk : j = k; subst hk; omega; exact h2 j (by omega)⟩
    · rintro ⟨h1, h2⟩
      exact ⟨by rw [h1, h2 k (by omega)]; rfl, fun j hj => h2 j (by omega)⟩
end Go.Proofs.YtkgoanjemhbjgaaGreat

/- UnmapPage, both sides. Conditions: none. -/
set_option linter.unusedVariables false
set_option linter.unusedSimpArgs false
namespace Go.Proofs.YtkgoanjemhbjgaaGreat
open Go Go.Den
/-! ## What it comes to -/
noncomputable def pkP (p : List Int × Int × List DBlock) (a : Nat) (x : Int) : List Int × Int × List DBlock := (pk p.1 a x 8, p.2)
theorem GvOk.pk {n : Nat} {T : Int} {p : List Int × Int × List DBlock} (h : GvOk n T p) (a : Nat) (x : Int) : GvOk n T (pkP p a x) :=
  ⟨by show (YtkgoanjemhbjgaaGreat.pk _ _ _ _).length = n; rw [pk_len]; exact h.len, h.tot, h.ok, h.few, fun y hy => pk_rng h.rng _ _ _ y hy⟩
/-- The tables of the way, from the last one. -/
def tk (t0 t1 t2 : Int) : Nat → Int | 0 => t2 | 1 => t1 | _ => t0
/-- What is true of the tables on the way. -/
structure Way3 (m : List Int) (T : Int) (fr : List DBlock) (va t0 t1 t2 : Int) : Prop where
  ok : POk m T fr
  hw : wayF m va 2 t0 = [t0, t1, t2]
  r0 : 0 ≤ t0 ∧ t0 < T
  r1 : 0 ≤ t1 ∧ t1 < T
  r2 : 0 ≤ t2 ∧ t2 < T
  d01 : t0 ≠ t1
  d02 : t0 ≠ t2
  d12 : t1 ≠ t2
  e2 : entAt m t0 (ixV va 2) ≠ 0
  e1 : entAt m t1 (ixV va 1) ≠ 0
  sm : entAt m t2 (ixV va 0) ≠ 0 → entAt m t2 (ixV va 0) < 1048576
theorem Way3.tk {m : List Int} {T : Int} {fr : List DBlock} {va t0 t1 t2 : Int} (h : Way3 m T fr va t0 t1 t2) (k : Nat) : 0 ≤ YtkgoanjemhbjgaaGreat.tk t0 t1 t2 k ∧ YtkgoanjemhbjgaaGreat.tk t0 t1 t2 k < T := by
  match k with
  | 0 => exact h.r2
  | 1 => exact h.r1
  | k + 2 => exact h.r0
theorem Way3.room {m : List Int} {T : Int} {fr : List DBlock} {va t0 t1 t2 : Int} (h : Way3 m T fr va t0 t1 t2) (k : Nat) : 0 ≤ YtkgoanjemhbjgaaGreat.tk t0 t1 t2 k ∧ YtkgoanjemhbjgaaGreat.tk t0 t1 t2 k * 256 + 256 ≤ m.length ∧ m.length ≤ 262144 := by
  have := h.tk k
  have := h.ok.1; have := h.ok.2.1; have := h.ok.2.2.2
  omega
theorem way3 {m : List Int} {T : Int} {fr : List DBlock} {root va : Int} {S : List Int} (h : spaceT m T fr root = some S) (hx : pageX m va root ≠ 0) : ∃ t1 t2, Way3 m T fr va root t1 t2 ∧ pageX m va root = entAt m t2 (ixV va 0) := by
  have hok := (spaceT_mem h).1
  have hT := tab_root h
  have hfl : ((freeL T fr).length : Int) = T := by rw [freeL_len]; have := hok.2.2.1.1; omega
  rcases way_is (va := va) hT with ⟨_, hw⟩ | ⟨t1, S1, _, _, _, _, _, hw⟩ | ⟨t1, t2, S1, S2, h2, _, hT1, hr1, h1, _, hT2, hr2, hr3, hw⟩
  · exfalso; apply hx; unfold pageX; rw [hw]; rfl
  · exfalso; apply hx; unfold pageX; rw [hw]; rfl
  · have hp : pageX m va root = entAt m t2 (ixV va 0) := by unfold pageX; rw [hw]; rfl
    have g0 := hT.rng; have g1 := hT1.rng; have g2 := hT2.rng
    exact ⟨t1, t2, ⟨hok, hw, ⟨g0.1, by omega⟩, ⟨g1.1, by omega⟩, ⟨g2.1, by omega⟩, hr1, hr2, hr3, h2, h1, fun hh => hT2.ent (ixV_rng va 0).1 (ixV_rng va 0).2 hh⟩, hp⟩
/-- A word outside of what is written. -/
theorem word_pk {m : List Int} {a : Nat} {x : Int} {s : Int} (hs : 0 ≤ s) (h : s + 8 ≤ a ∨ (a : Int) + 8 ≤ s) : word (pk m a x 8) s = word m s := by
  unfold word
  refine hornr_congr 8 0 (fun i h0 h1 => ?_)
  unfold byt
  exact pk_out m a x 8 _ (by omega)
end Go.Proofs.YtkgoanjemhbjgaaGreat

/- UnmapPage, both sides: the walks. Conditions: none. -/
set_option linter.unusedVariables false
set_option linter.unusedSimpArgs false
namespace Go.Proofs.YtkgoanjemhbjgaaGreat
open Go Go.Den
theorem addrOf_mk {a : Addr} {K : Addr → Prop} (h : K a) : addrOf (some (.pointer (some a))) K := h
theorem way_get {t0 t1 t2 : Int} {k : Nat} (hk : k ≤ 2) : [t0, t1, t2][2 - k]? = some (tk t0 t1 t2 k) := by
  have hc : k = 0 ∨ k = 1 ∨ k = 2 := by omega
  rcases hc with rfl | rfl | rfl <;> rfl
theorem slot_get {va t0 t1 t2 : Int} {k : Nat} (hk : k ≤ 2) : (slotW va 2 [t0, t1, t2])[2 - k]? = some (slotA va k (tk t0 t1 t2 k)) := by
  have hc : k = 0 ∨ k = 1 ∨ k = 2 := by omega
  rcases hc with rfl | rfl | rfl <;> rfl
end Go.Proofs.YtkgoanjemhbjgaaGreat

/- UnmapPage as the law asks it. Conditions: none. -/
set_option linter.unusedVariables false
set_option linter.unusedSimpArgs false
namespace Go.Proofs.YtkgoanjemhbjgaaGreat
open Go Go.Den
theorem pool_wf {x : DPool} {w : World} {cs : List Value} (h : IsD w x.dat cs) : (Lit.int .i64 x.Free.Total).wf = true ∧ ∀ b, b ∈ x.Free.Free → (Lit.int .i64 b.At).wf = true ∧ (Lit.int .i64 b.Order).wf = true := by
  obtain ⟨sm, sf, rfl, im, i2, i3, i4⟩ := cells_Pool h
  refine ⟨i3, fun b hb => ?_⟩
  obtain ⟨i, hi⟩ := List.mem_iff_getElem?.1 hb
  obtain ⟨p, es, _, _, _, hd⟩ := isD_elem i4 hi
  have q := isD_st hd
  obtain ⟨_, _, _, j0, q⟩ := isF_cons q
  obtain ⟨_, _, _, j1, q⟩ := isF_cons q
  exact ⟨(isD_int j0).2, (isD_int j1).2⟩
end Go.Proofs.YtkgoanjemhbjgaaGreat

/- Entries put into words, both sides. Conditions: none. -/
set_option linter.unusedVariables false
set_option linter.unusedSimpArgs false
namespace Go.Proofs.YtkgoanjemhbjgaaGreat
open Go Go.Den
def lowB (bs : List Bool) : Nat → Nat
  | 0 => 0
  | k + 1 => (if bs.getD k false then 2 ^ k else 0) + lowB bs k
theorem lowB_lt (bs : List Bool) : ∀ k, lowB bs k < 2 ^ k
  | 0 => Nat.lt_succ_self 0
  | k + 1 => by
    have := lowB_lt bs k
    have h2 : 2 ^ (k + 1) = 2 ^ k * 2 := Nat.pow_succ 2 k
    unfold lowB
    split <;> omega
def DEntry.flags (e : DEntry) : List Bool := [e.Valid, e.Read, e.Write, e.Exec, e.User, e.Seen, e.Dirty, e.Soft]
def frOk (e : DEntry) : Bool := decide (0 ≤ e.Frame) && decide (e.Frame ≤ 4095)
def putX (e : DEntry) : Int := if frOk e then e.Frame * 256 + (lowB e.flags 8 : Int) else 0
theorem putX_rng (e : DEntry) : 0 ≤ putX e ∧ putX e < 1048576 := by
  have := lowB_lt e.flags 8
  unfold putX
  split
  · rename_i h
    unfold frOk at h
    simp only [Bool.and_eq_true, decide_eq_true_eq] at h
    have h8 : (2 : Nat) ^ 8 = 256 := rfl
    omega
  · omega
theorem or_low {fr : Nat} {bs : List Bool} {k : Nat} (hk : k < 8) (hfr : fr ≤ 4095) : orI .u64 (((fr * 256 + lowB bs k : Nat)) : Int) (shlI .u64 (oneF (bs.getD k false)) (k : Int)) = ((fr * 256 + lowB bs (k + 1) : Nat) : Int) := by
  have hl := lowB_lt bs k
  have hp : (2 : Nat) ^ k ≤ 2 ^ 7 := Nat.pow_le_pow_right (by omega) (by omega)
  have h7 : (2 : Nat) ^ 7 = 128 := rfl
  have hsh : shlI .u64 (oneF (bs.getD k false)) (k : Int) = (((if bs.getD k false then 2 ^ k else 0 : Nat)) : Int) := by
    unfold shlI
    rw [Int.toNat_natCast, show min k (IntKind.u64.bits) = k from Nat.min_eq_left (by show k ≤ 64; omega)]
    unfold oneF
    split
    · rw [Int.one_mul, show ((2 : Int) ^ k) = ((2 ^ k : Nat) : Int) by norm_cast, wu64 (by omega) (by omega)]
    · rw [Int.zero_mul]; rfl
  rw [hsh]
  obtain ⟨c, hc⟩ : ∃ c, c = (if bs.getD k false then 2 ^ k else 0 : Nat) := ⟨_, rfl⟩
  rw [← hc]
  have hlow : lowB bs (k + 1) = c + lowB bs k := by rw [lowB, hc]
  have hcle : c ≤ 128 := by rw [hc]; split <;> omega
  unfold orI
  show IntKind.u64.wrap (((BitVec.ofInt 64 ((fr * 256 + lowB bs k : Nat) : Int) ||| BitVec.ofInt 64 (c : Int)).toNat : Nat) : Int) = _
  rw [BitVec.toNat_or, bv_nat (by omega) (by omega), bv_nat (by omega) (by omega), Int.toNat_natCast, Int.toNat_natCast]
  have hor : (fr * 256 + lowB bs k) ||| c = fr * 256 + (c + lowB bs k) := by
    have h1 : fr * 256 + lowB bs k = 2 ^ 8 * fr ||| lowB bs k := by
      rw [← Nat.two_pow_add_eq_or_of_lt (show lowB bs k < 2 ^ 8 by omega)]; omega
    have h2 : lowB bs k ||| c = c + lowB bs k := by
      rw [hc]
      split
      · have := Nat.two_pow_add_eq_or_of_lt hl 1
        rw [Nat.mul_one] at this
        rw [this, Nat.or_comm]
      · simp
    rw [h1, Nat.or_assoc, h2, ← Nat.two_pow_add_eq_or_of_lt (show c + lowB bs k < 2 ^ 8 by
      have := lowB_lt bs (k + 1); rw [hlow] at this
      have hp2 : (2 : Nat) ^ (k + 1) ≤ 2 ^ 8 := Nat.pow_le_pow_right (by omega) (by omega)
      omega)]
    omega
  rw [hor, hlow, wu64 (by omega) (by omega)]
theorem c18 {e : DEntry} {w : World} : CallW Tryz.prog 18 #[.agg ⟨e.cells⟩] w (fun v w' => v = .tuple #[.int .u64 (putX e), .bool (frOk e)] ∧ Ext w w') := by
  refine go18 ?_
  unfold W18
  refine (SH.start w).alloc (fun w1 h1 e1 n1 => ?_)
  refine ⟨e.Frame, h1.cell 0 rfl rfl, join_or_ex e.Frame (h1.cell 0 rfl rfl) ?_⟩
  have hfr : (decide (e.Frame < 0) || decide (e.Frame > 4095)) = !frOk e := by
    unfold frOk
    by_cases h0 : e.Frame < 0
    · simp [h0]
    · by_cases h2 : e.Frame > 4095
      · simp [h2]
      · simp [h0, h2]; omega
  rw [hfr]
  refine BIf.not (BIf.of (fun hok => ?_) (fun hno => ?_))
  · have hr : 0 ≤ e.Frame ∧ e.Frame ≤ 4095 := by unfold frOk at hok; simpa using hok
    refine ⟨e.Frame, h1.cell 0 rfl rfl, by omega, _, h1.cell 0 rfl rfl, _, h1.cell 0 rfl rfl, _, h1.cell 0 rfl rfl, _, h1.cell 0 rfl rfl, _, h1.cell 0 rfl rfl, _, h1.cell 0 rfl rfl, _, h1.cell 0 rfl rfl, _, h1.cell 0 rfl rfl, h1.alloc (fun w15 h15 e15 n15 => ?_)⟩
    have hsh : shlI .u64 (IntKind.wrap .u64 e.Frame) 8 = (((e.Frame.toNat * 256 + lowB e.flags 0 : Nat)) : Int) := by
      rw [wu64 (by omega) (by omega), shl_byte (by omega) (by omega)]
      show _ = ((e.Frame.toNat * 256 + 0 : Nat) : Int)
      omega
    rw [hsh]
    refine LoopW.m2 (fun (y : Int) (i : Int) w' => ∃ k : Nat, i = k ∧ k ≤ 8 ∧ y = ((e.Frame.toNat * 256 + lowB e.flags k : Nat) : Int) ∧ w' = w15) (fun _ (i : Int) _ => (8 - i).toNat) ⟨0, rfl, by omega, rfl, rfl⟩ ?_
    rintro (y : Int) (i : Int) w19 ⟨k, rfl, hk, rfl, rfl⟩ J hJ
    refine BIf.dec (fun hlt => ?_) (fun hge => ?_)
    · have hk8 : k < 8 := by omega
      have hb : e.flags[k]? = some (e.flags.getD k false) := by
        rw [List.getD_eq_getElem?_getD, List.getElem?_eq_getElem (show k < e.flags.length from hk8)]; rfl
      have hcell : w19.cell? ⟨w1.heap.size, k, none⟩ = some (.bool (e.flags.getD k false)) := by
        refine h15.cell 0 (i := k) (l := e.flags.map (fun b => Ce.v (.bool b))) rfl ?_
        rw [List.getElem?_map, hb]; rfl
      refine ⟨by omega, by omega, _, rfl, e.flags.getD k false, ?_, ?_⟩
      · rw [Int.toNat_natCast, add_mk, Nat.mul_one, Nat.zero_add]; exact hcell
      refine c67.mono ?_
      rintro _ w23 ⟨rfl, rfl⟩
      refine ⟨_, rfl, by omega, ?_⟩
      rw [or_low hk8 (by omega), w64 (by omega) (by omega)]
      exact hJ _ _ _ ⟨k + 1, by omega, by omega, rfl, rfl⟩ (by omega)
    · have hk8 : k = 8 := by omega
      subst hk8
      refine ⟨?_, h15.ext⟩
      rw [hok]
      unfold putX
      rw [if_pos hok]
      congr 3
      congr 1
      omega
  · refine ⟨?_, h1.ext⟩
    rw [hno]; unfold putX; rw [hno]; rfl
theorem c109 {b : Bool} {n : Nat} {w : World} (hn : n ≤ 63) : CallW Tryz.prog 109 #[.bool b, .int .i64 (n : Int)] w (fun v w' => v = .int .u64 ((if b then 2 ^ n else 0 : Nat) : Int) ∧ w' = w) := by
  refine go109 ?_
  unfold W109
  cases b
  · exact BIf.f rfl ⟨rfl, rfl⟩
  · refine BIf.t rfl ?_
    refine (c124 hn).mono ?_
    rintro _ w ⟨rfl, rfl⟩
    exact ⟨_, rfl, rfl, rfl⟩
set_option maxHeartbeats 1000000 in
theorem c64 {e : DEntry} {w : World} : CallW Tryz.prog 64 #[.agg ⟨e.cells⟩] w (fun v w' => v = .tuple #[.int .u64 (putX e), .bool (frOk e)] ∧ Ext w w') := by
  refine go64 ?_
  unfold W64
  refine (SH.start w).alloc (fun w1 h1 e1 n1 => ?_)
  refine ⟨e.Frame, h1.cell 0 rfl rfl, join_or_ex e.Frame (h1.cell 0 rfl rfl) ?_⟩
  have hfr : (decide (e.Frame < 0) || decide (e.Frame > 4095)) = !frOk e := by
    unfold frOk
    by_cases h0 : e.Frame < 0
    · simp [h0]
    · by_cases h2 : e.Frame > 4095
      · simp [h2]
      · simp [h0, h2]; omega
  rw [hfr]
  refine BIf.not (BIf.of (fun hok => ?_) (fun hno => ?_))
  · have hr : 0 ≤ e.Frame ∧ e.Frame ≤ 4095 := by unfold frOk at hok; simpa using hok
    have h2 := h1.drew
    refine ⟨_, h2.cell 0 rfl rfl, _, h2.cell 0 rfl rfl, _, h2.cell 0 rfl rfl, _, h2.cell 0 rfl rfl, ?_⟩
    refine (c109 (n := 0) (by omega)).mono ?_
    rintro _ w11 ⟨rfl, rfl⟩
    refine ⟨_, rfl, ⟨_, h2.cell 0 rfl rfl, rfl⟩, ⟨_, h2.cell 0 rfl rfl, rfl⟩, ⟨_, h2.cell 0 rfl rfl, rfl⟩, ?_⟩
    refine (c109 (n := 1) (by omega)).mono ?_
    rintro _ w17 ⟨rfl, rfl⟩
    refine ⟨_, rfl, ⟨_, h2.cell 0 rfl rfl, rfl⟩, ⟨_, h2.cell 0 rfl rfl, rfl⟩, ?_⟩
    refine (c109 (n := 2) (by omega)).mono ?_
    rintro _ w22 ⟨rfl, rfl⟩
    refine ⟨_, rfl, ⟨_, h2.cell 0 rfl rfl, rfl⟩, ?_⟩
    refine (c109 (n := 3) (by omega)).mono ?_
    rintro _ w26 ⟨rfl, rfl⟩
    have h3 := h2.drew
    refine ⟨_, rfl, _, h3.cell 0 rfl rfl, _, h3.cell 0 rfl rfl, _, h3.cell 0 rfl rfl, _, h3.cell 0 rfl rfl, ?_⟩
    refine (c109 (n := 4) (by omega)).mono ?_
    rintro _ w33 ⟨rfl, rfl⟩
    refine ⟨_, rfl, ⟨_, h3.cell 0 rfl rfl, rfl⟩, ⟨_, h3.cell 0 rfl rfl, rfl⟩, ⟨_, h3.cell 0 rfl rfl, rfl⟩, ?_⟩
    refine (c109 (n := 5) (by omega)).mono ?_
    rintro _ w39 ⟨rfl, rfl⟩
    refine ⟨_, rfl, ⟨_, h3.cell 0 rfl rfl, rfl⟩, ⟨_, h3.cell 0 rfl rfl, rfl⟩, ?_⟩
    refine (c109 (n := 6) (by omega)).mono ?_
    rintro _ w44 ⟨rfl, rfl⟩
    refine ⟨_, rfl, ⟨_, h3.cell 0 rfl rfl, rfl⟩, ?_⟩
    refine (c109 (n := 7) (by omega)).mono ?_
    rintro _ w48 ⟨rfl, rfl⟩
    refine ⟨_, rfl, e.Frame, h3.cell 0 rfl rfl, ?_, h3.ext⟩
    have hlow : lowB e.flags 8 = (if e.Soft then 2 ^ 7 else 0) + ((if e.Dirty then 2 ^ 6 else 0) + ((if e.Seen then 2 ^ 5 else 0) + ((if e.User then 2 ^ 4 else 0) + ((if e.Exec then 2 ^ 3 else 0) + ((if e.Write then 2 ^ 2 else 0) + ((if e.Read then 2 ^ 1 else 0) + ((if e.Valid then 2 ^ 0 else 0) + 0))))))) := rfl
    rw [hok]
    unfold putX
    rw [if_pos hok, hlow]
    obtain ⟨x0, hx0, g0⟩ : ∃ x0 : Nat, x0 = (if e.Valid then 2 ^ 0 else 0) ∧ x0 ≤ 1 := ⟨_, rfl, by split <;> decide⟩
    obtain ⟨x1, hx1, g1⟩ : ∃ x0 : Nat, x0 = (if e.Read then 2 ^ 1 else 0) ∧ x0 ≤ 2 := ⟨_, rfl, by split <;> decide⟩
    obtain ⟨x2, hx2, g2⟩ : ∃ x0 : Nat, x0 = (if e.Write then 2 ^ 2 else 0) ∧ x0 ≤ 4 := ⟨_, rfl, by split <;> decide⟩
    obtain ⟨x3, hx3, g3⟩ : ∃ x0 : Nat, x0 = (if e.Exec then 2 ^ 3 else 0) ∧ x0 ≤ 8 := ⟨_, rfl, by split <;> decide⟩
    obtain ⟨x4, hx4, g4⟩ : ∃ x0 : Nat, x0 = (if e.User then 2 ^ 4 else 0) ∧ x0 ≤ 16 := ⟨_, rfl, by split <;> decide⟩
    obtain ⟨x5, hx5, g5⟩ : ∃ x0 : Nat, x0 = (if e.Seen then 2 ^ 5 else 0) ∧ x0 ≤ 32 := ⟨_, rfl, by split <;> decide⟩
    obtain ⟨x6, hx6, g6⟩ : ∃ x0 : Nat, x0 = (if e.Dirty then 2 ^ 6 else 0) ∧ x0 ≤ 64 := ⟨_, rfl, by split <;> decide⟩
    obtain ⟨x7, hx7, g7⟩ : ∃ x0 : Nat, x0 = (if e.Soft then 2 ^ 7 else 0) ∧ x0 ≤ 128 := ⟨_, rfl, by split <;> decide⟩
    rw [← hx0, ← hx1, ← hx2, ← hx3, ← hx4, ← hx5, ← hx6, ← hx7]
    rw [wu64 (n := (x0 : Int) + x1) (by omega) (by omega), wu64 (n := (x0 : Int) + x1 + x2) (by omega) (by omega), wu64 (n := (x0 : Int) + x1 + x2 + x3) (by omega) (by omega), wu64 (n := (x0 : Int) + x1 + x2 + x3 + x4) (by omega) (by omega), wu64 (n := (x0 : Int) + x1 + x2 + x3 + x4 + x5) (by omega) (by omega), wu64 (n := (x0 : Int) + x1 + x2 + x3 + x4 + x5 + x6) (by omega) (by omega), wu64 (n := (x0 : Int) + x1 + x2 + x3 + x4 + x5 + x6 + x7) (by omega) (by omega), wu64 (n := e.Frame) (by omega) (by omega), wu64 (n := e.Frame * 256) (by omega) (by omega), wu64 (by omega) (by omega)]
    congr 3
    congr 1
    omega
  · refine ⟨?_, h1.ext⟩
    rw [hno]; unfold putX; rw [hno]; rfl
/-! ## Entries that a page may have -/
def leafB (e : DEntry) : Bool := frOk e && e.Valid && (e.Read || e.Write || e.Exec) && !(e.Write && !e.Read)
theorem c62 {e : DEntry} {w : World} : CallW Tryz.prog 62 #[.agg ⟨e.cells⟩] w (fun v w' => v = .bool (!leafB e) ∧ Ext w w') := by
  refine go62 ?_
  unfold W62
  refine (SH.start w).alloc (fun w1 h1 e1 n1 => ?_)
  refine ⟨_, h1.cell 0 rfl rfl, _, h1.cell 0 rfl rfl, _, h1.cell 0 rfl rfl, _, h1.cell 0 rfl rfl, _, h1.cell 0 rfl rfl, _, h1.cell 0 rfl rfl, _, h1.cell 0 rfl rfl, _, h1.cell 0 rfl rfl, _, h1.cell 0 rfl rfl, ?_⟩
  refine (c64 (e := e)).mono ?_
  rintro _ w12 ⟨rfl, e12⟩
  have h2 := h1.to e12
  have ex := h2.ext
  refine ⟨_, _, rfl, ?_⟩
  have c0 : w12.cell? ⟨w.heap.size, 0, none⟩ = some (.bool e.Valid) := h2.cell 0 rfl rfl
  have c1 : w12.cell? ⟨w.heap.size, 1, none⟩ = some (.bool e.Read) := h2.cell 0 rfl rfl
  have c2 : w12.cell? ⟨w.heap.size, 2, none⟩ = some (.bool e.Write) := h2.cell 0 rfl rfl
  have c3 : w12.cell? ⟨w.heap.size, 3, none⟩ = some (.bool e.Exec) := h2.cell 0 rfl rfl
  unfold leafB
  generalize frOk e = x at *
  generalize e.Valid = v at *
  generalize e.Read = r at *
  generalize e.Write = wr at *
  generalize e.Exec = xx at *
  refine JoinW.cut1 (fun (b : Bool) w' => b = (!x || !v) ∧ w' = w12) ?_ ?_
  · cases x
    · exact BIf.t rfl ⟨rfl, rfl⟩
    · exact BIf.f rfl ⟨v, c0, rfl, rfl⟩
  rintro (b : Bool) w' ⟨rfl, rfl⟩
  refine JoinW.cut1 (fun (b : Bool) w'' => b = ((!x || !v) || (!r && !wr && !xx)) ∧ w'' = w') ?_ ?_
  · refine BIf.of (fun hh => ⟨by rw [hh]; rfl, rfl⟩) (fun hh => ?_)
    rw [hh]
    refine ⟨r, c1, ?_⟩
    cases r
    · refine BIf.t rfl ⟨wr, c2, ?_⟩
      cases wr
      · exact BIf.t rfl ⟨xx, c3, by simp, rfl⟩
      · exact BIf.f rfl ⟨rfl, rfl⟩
    · exact BIf.f rfl ⟨rfl, rfl⟩
  rintro (b : Bool) w' ⟨rfl, rfl⟩
  refine JoinW.cut1 (fun (b : Bool) w'' => b = (((!x || !v) || (!r && !wr && !xx)) || (wr && !r)) ∧ w'' = w') ?_ ?_
  · refine BIf.of (fun hh => ⟨by rw [hh]; rfl, rfl⟩) (fun hh => ?_)
    rw [hh]
    refine ⟨wr, c2, ?_⟩
    cases wr
    · exact BIf.f rfl ⟨rfl, rfl⟩
    · exact BIf.t rfl ⟨r, c1, by simp, rfl⟩
  rintro (b : Bool) w' ⟨rfl, rfl⟩
  refine ⟨?_, ex⟩
  cases x <;> cases v <;> cases r <;> cases wr <;> cases xx <;> rfl
end Go.Proofs.YtkgoanjemhbjgaaGreat

/- SetPage, both sides. Conditions: none. -/
set_option linter.unusedVariables false
set_option linter.unusedSimpArgs false
namespace Go.Proofs.YtkgoanjemhbjgaaGreat
open Go Go.Den
noncomputable def setF (m : List Int) (T : Int) (fr : List DBlock) (root va : Int) (e : DEntry) : (List Int × Int × List DBlock) × Int :=
  if (badB m T fr root va || !leafB e) = true then (([], 0, []), 1)
  else if pageX m va root = 0 then ((m, T, fr), 3)
  else (pkP (m, T, fr) (slotA va 0 ((wayF m va 2 root).getD 2 0)).toNat (putX e), 0)
theorem setF_bad {m : List Int} {T : Int} {fr : List DBlock} {root va : Int} {e : DEntry} (h : (badB m T fr root va || !leafB e) = true) : setF m T fr root va e = (([], 0, []), 1) := by unfold setF; rw [if_pos h]
theorem setF_no {m : List Int} {T : Int} {fr : List DBlock} {root va : Int} {e : DEntry} (h : (badB m T fr root va || !leafB e) = false) (hx : pageX m va root = 0) : setF m T fr root va e = ((m, T, fr), 3) := by unfold setF; rw [if_neg (by rw [h]; exact Bool.false_ne_true), if_pos hx]
theorem setF_yes {m : List Int} {T : Int} {fr : List DBlock} {root va t1 t2 : Int} {e : DEntry} (h : (badB m T fr root va || !leafB e) = false) (hx : pageX m va root ≠ 0) (hw : wayF m va 2 root = [root, t1, t2]) : setF m T fr root va e = (pkP (m, T, fr) (slotA va 0 t2).toNat (putX e), 0) := by unfold setF; rw [if_neg (by rw [h]; exact Bool.false_ne_true), if_neg hx, hw]; rfl
set_option maxHeartbeats 1000000 in
theorem s29 {sm sf : Sl} {m : List Int} {T root va : Int} {fr : List DBlock} {e : DEntry} {w : World} (hm : Bytes w sm m) (hf : FrAt w sf fr) (hfew : fr.length ≤ 1048576) :
    CallW Tryz.prog 29 #[.agg #[.slice sm.a sm.len sm.cap, .int .i64 T, .slice sf.a sf.len sf.cap], .int .i64 root, .int .i64 va, .agg ⟨e.cells⟩] w (DropV (setF m T fr root va e) w) := by
  refine go29 ?_
  unfold W29
  refine (SH.start w).alloc (fun w1 h1 e1 n1 => h1.alloc (fun w2 h2 e2 n2 => h2.alloc (fun w3 h3 e3 n3 => ?_)))
  refine ⟨sm, h3.cell 2 rfl rfl, _, h3.cell 2 rfl rfl, sf, h3.cell 2 rfl rfl, ?_⟩
  refine (s61 (hm.ext h3.ext) (hf.ext h3.ext)).mono ?_
  rintro _ w8 ⟨rfl, e8⟩
  have h8 := h3.to e8
  refine ⟨_, rfl, ?_⟩
  refine JoinW.cut1 (fun (b : Bool) w' => b = (badB m T fr root va || !leafB e) ∧ SH w w' [aB w2.heap.size ([Value.slice none 0 0, .int .i64 0, .slice none 0 0].map Ce.v), aB w1.heap.size (e.cells.map Ce.v), poolB w.heap.size sm T sf]) ?_ ?_
  · refine BIf.of (fun hh => ⟨by rw [hh]; rfl, h8⟩) (fun hh => ?_)
    refine ⟨_, h8.cell 1 rfl rfl, _, h8.cell 1 rfl rfl, _, h8.cell 1 rfl rfl, _, h8.cell 1 rfl rfl, _, h8.cell 1 rfl rfl, _, h8.cell 1 rfl rfl, _, h8.cell 1 rfl rfl, _, h8.cell 1 rfl rfl, _, h8.cell 1 rfl rfl, ?_⟩
    refine (c62 (e := e)).mono ?_
    rintro _ w76 ⟨rfl, e76⟩
    exact ⟨_, rfl, by rw [hh]; rfl, h8.to e76⟩
  rintro (b : Bool) w12 ⟨rfl, h12⟩
  refine BIf.of (fun hbad => ?_) (fun hgood => ?_)
  · refine h12.put 0 rfl rfl rfl (fun w13 h13 n13 => ?_)
    refine ⟨⟨none, 0, 0⟩, h13.cell 0 rfl rfl, _, h13.cell 0 rfl rfl, ⟨none, 0, 0⟩, h13.cell 0 rfl rfl, ?_⟩
    rw [setF_bad hbad]
    exact ⟨⟨none, 0, 0⟩, ⟨none, 0, 0⟩, rfl, sh_zero h13⟩
  have hg2 := hgood
  simp only [Bool.or_eq_false_iff, Bool.not_eq_false'] at hg2
  obtain ⟨hv0, hv1, S, hsp⟩ := bad_no hg2.1
  have hok := (spaceT_mem hsp).1
  have hml := hok.2.1
  refine ⟨sm, h12.cell 2 rfl rfl, _, h12.cell 2 rfl rfl, sf, h12.cell 2 rfl rfl, (s25 (hm.ext h12.ext) (hf.ext h12.ext)).mono ?_⟩
  rintro _ w21 ⟨tm, tf, rfl, g21⟩
  have h21 := h12.seq g21
  refine ⟨tm, _, tf, rfl, h21.alloc (fun w25 h25 e25 n25 => h25.put 0 rfl rfl rfl (fun w26 h26 n26 => ?_))⟩
  refine ⟨sm, h26.cell 5 rfl rfl, _, h26.cell 5 rfl rfl, sf, h26.cell 5 rfl rfl, (s63 (hm.ext h26.ext) (tab_root hsp) hok.len hml hv0 hv1).mono ?_⟩
  rintro _ w31 ⟨l, rfl, g31⟩
  have h31 := h26.seq g31
  refine ⟨l, _, rfl, BIf.not ?_⟩
  refine BIf.ne (fun hx => ?_) (fun hx0 => ?_)
  rotate_left
  · refine ⟨tm, h31.cell 1 rfl rfl, _, h31.cell 1 rfl rfl, tf, h31.cell 1 rfl rfl, h31.put 4 rfl rfl rfl (fun w37 h37 n37 => ?_)⟩
    refine ⟨tm, h37.cell 4 rfl rfl, _, h37.cell 4 rfl rfl, tf, h37.cell 4 rfl rfl, ?_⟩
    rw [setF_no hgood hx0]
    exact ⟨tm, tf, rfl, h37.drop.drop.two⟩
  obtain ⟨t1, t2, W, hpx⟩ := way3 hsp hx
  rw [W.hw] at h31
  rw [setF_yes hgood hx W.hw]
  have hll : l.len = 3 := by rw [h31.len 0 rfl, nums_len]; rfl
  have hroom0 : 0 ≤ t2 ∧ t2 * 256 + 256 ≤ m.length ∧ m.length ≤ 262144 := W.room 0
  have hi0 := ixV_rng va 0
  have hsl0 : slotA va 0 t2 = t2 * 256 + 8 * ixV va 0 := rfl
  refine ⟨_, h31.cell 5 rfl rfl, _, h31.cell 5 rfl rfl, _, h31.cell 5 rfl rfl, _, h31.cell 5 rfl rfl, _, h31.cell 5 rfl rfl, _, h31.cell 5 rfl rfl, _, h31.cell 5 rfl rfl, _, h31.cell 5 rfl rfl, _, h31.cell 5 rfl rfl, ?_⟩
  refine (c64 (e := e)).mono ?_
  rintro _ w51 ⟨rfl, e51⟩
  have h52 := (h31.to e51).drew
  obtain ⟨q, hq, hqc⟩ := h52.elem0 0 rfl (nums_get (slot_get (va := va) (t0 := root) (t1 := t1) (t2 := t2) (k := 0) (by omega))) rfl
  refine ⟨_, _, rfl, tm, h52.cell 1 rfl rfl, by omega, by omega, q, hq, _, hqc, ?_⟩
  show CallW Tryz.prog 65 #[_, .int .i64 (slotA va 0 t2), _] _ _
  have hsn : slotA va 0 t2 = (((slotA va 0 t2).toNat : Nat) : Int) := by omega
  rw [hsn]
  have hpr := putX_rng e
  refine (s65 (h52.front (n := 2) rfl) hpr.1 (by omega) (by omega) (by omega)).mono ?_
  rintro _ w58 ⟨rfl, h58⟩
  refine ⟨rfl, tm, h58.cell 2 rfl rfl, _, h58.cell 2 rfl rfl, tf, h58.cell 2 rfl rfl, h58.put 4 rfl rfl rfl (fun w62 h62 n62 => ?_)⟩
  refine ⟨tm, h62.cell 4 rfl rfl, _, h62.cell 4 rfl rfl, tf, h62.cell 4 rfl rfl, ?_⟩
  rw [Int.toNat_natCast]
  exact ⟨tm, tf, rfl, ((h62.front (n := 3) rfl).p1).two⟩
/-! ## As the law asks it -/
end Go.Proofs.YtkgoanjemhbjgaaGreat

/- How many frames are free. Conditions: none. -/
set_option linter.unusedVariables false
set_option linter.unusedSimpArgs false
namespace Go.Proofs.YtkgoanjemhbjgaaGreat
open Go Go.Den
def cnt : List Bool → Nat
  | [] => 0
  | b :: r => (if b then 1 else 0) + cnt r
def sumO : List DBlock → Int
  | [] => 0
  | x :: r => pw x.Order + sumO r
theorem sumO_app : ∀ a b : List DBlock, sumO (a ++ b) = sumO a + sumO b
  | [], b => by simp [sumO]
  | x :: r, b => by simp only [List.cons_append, sumO, sumO_app r b]; omega
theorem leftF_sum (fr : List DBlock) : ∀ k, leftF fr k = sumO (fr.take k)
  | 0 => by simp [leftF, sumO]
  | k + 1 => by
    rw [leftF, leftF_sum fr k, List.take_add_one, sumO_app]
    cases hx : fr[k]? with
    | none => simp [sumO]
    | some x => simp [sumO]
theorem left_all (fr : List DBlock) : leftF fr fr.length = sumO fr := by rw [leftF_sum, List.take_length]
theorem cnt_set : ∀ (l : List Bool) (i : Nat), cnt l ≤ cnt (l.set i false) + 1
  | [], i => by simp [cnt]
  | b :: r, 0 => by simp only [List.set_cons_zero, cnt]; split <;> simp <;> omega
  | b :: r, i + 1 => by simp only [List.set_cons_succ, cnt]; have := cnt_set r i; omega
theorem cnt_true : ∀ (l : List Bool) (i : Nat), i < l.length → l.getD i false = false → cnt (l.set i true) = cnt l + 1
  | [], i, h, _ => by simp at h
  | b :: r, 0, h, hb => by simp at hb; subst hb; simp [cnt]; omega
  | b :: r, i + 1, h, hb => by simp only [List.set_cons_succ, cnt]; have := cnt_true r i (by simpa using h) (by simpa using hb); omega
theorem setR_out (l : List Bool) (a : Nat) : ∀ (k j : Nat), (j < a ∨ a + k ≤ j) → (setR l a k).getD j false = l.getD j false
  | 0, j, h => rfl
  | k + 1, j, h => by
    unfold setR
    rw [List.getD_eq_getElem?_getD, List.getElem?_set_ne (by omega), ← List.getD_eq_getElem?_getD]
    exact setR_out l a k j (by omega)
theorem cnt_setR (l : List Bool) (a : Nat) : ∀ k, a + k ≤ l.length → (∀ j, j < k → l.getD (a + j) false = false) → cnt (setR l a k) = cnt l + k
  | 0, h, hf => rfl
  | k + 1, h, hf => by
    unfold setR
    rw [cnt_true _ _ (by rw [setR_len]; omega) (by rw [setR_out l a k _ (by omega)]; exact hf k (by omega)), cnt_setR l a k (by omega) (fun j hj => hf j (by omega))]
    omega
theorem cnt_zero : ∀ n, cnt (List.replicate n false) = 0
  | 0 => rfl
  | n + 1 => by simp [List.replicate_succ, cnt, cnt_zero n]
theorem free_cnt {T : Int} {fr : List DBlock} (h : FOk T fr) : ∀ k, k ≤ fr.length → (cnt (fmapF (fr.take k) (List.replicate T.toNat false)) : Int) = sumO (fr.take k) ∧ ∀ x, fr[k]? = some x → ∀ j : Nat, x.At.toNat ≤ j → (fmapF (fr.take k) (List.replicate T.toNat false)).getD j false = false
  | 0, hk => ⟨by simp [fmapF, sumO, cnt_zero], fun x hx j hj => by
      simp only [List.take_zero, fmapF, List.getD_eq_getElem?_getD]
      rcases hq : (List.replicate T.toNat false)[j]? with _ | b
      · rfl
      · exact (List.mem_replicate.1 (List.mem_of_getElem? hq)).2⟩
  | k + 1, hk => by
    have hx : fr[k]? = some (fr[k]'(by omega)) := List.getElem?_eq_getElem (by omega)
    generalize fr[k]'(by omega) = x at hx
    obtain ⟨ih1, ih2⟩ := free_cnt h k (by omega)
    have hb := blkOk_out (h.2.2 k x hx).1
    have hpp : 1 ≤ pw x.Order := by unfold pw; have := Nat.one_le_two_pow (n := x.Order.toNat); omega
    rw [fmapF_take hx]
    refine ⟨?_, fun y hy j hj => ?_⟩
    · rw [cnt_setR _ _ _ (by rw [fmapF_len, List.length_replicate]; omega) (fun j hj => ih2 x hx _ (by omega)), List.take_add_one, hx, sumO_app]
      simp only [Option.toList_some, sumO]
      omega
    · have hba := ((h.2.2 (k + 1) y hy).2 x (by omega) (by simpa using hx)).1
      rw [setR_out _ _ _ _ (by omega)]
      exact ih2 x hx j (by omega)
theorem free_sum {T : Int} {fr : List DBlock} (h : FOk T fr) : (cnt (freeL T fr) : Int) = sumO fr := by
  have := (free_cnt h fr.length (Nat.le_refl _)).1
  rw [List.take_length] at this
  exact this
theorem drop_cnt {l : List Bool} {a : Nat} (h : a < l.length) : cnt (l.drop a) = (if l.getD a false then 1 else 0) + cnt (l.drop (a + 1)) := by
  rw [List.drop_eq_getElem_cons h, cnt, List.getD_eq_getElem?_getD, List.getElem?_eq_getElem h]; rfl
theorem whole_cnt {l : List Bool} {a : Nat} : ∀ n, wholeP l a n → cnt (l.drop a) = n + cnt (l.drop (a + n))
  | 0, h => by simp
  | n + 1, h => by
    rw [whole_cnt n ⟨by have := h.1; omega, fun i hi => h.2 i (by omega)⟩, drop_cnt (by have := h.1; omega), if_pos (h.2 n (by omega)), Nat.add_assoc a n 1]
    omega
theorem ordF_whole {l : List Bool} {a : Nat} : ∀ f o, wholeP l a (2 ^ o) → wholeP l a (2 ^ ordF l a f o)
  | 0, o, h => h
  | f + 1, o, h => by
    unfold ordF
    split
    · rename_i hh; exact ordF_whole f (o + 1) hh.2.2
    · exact h
theorem list_sum (l : List Bool) (a : Nat) : sumO (listF l a) = (cnt (l.drop a) : Int) := by
  rw [listF]
  split
  · rename_i h1
    split
    · rename_i h2
      have hw := ordF_whole (l := l) (a := a) 10 0 ⟨by show a + 2 ^ 0 ≤ l.length; omega, fun i hi => by obtain rfl : i = 0 := by { have : i < 1 := hi; omega }; simpa using h2⟩
      have hp := Nat.one_le_two_pow (n := ordF l a 10 0)
      have hl := hw.1
      rw [sumO, list_sum l (a + 2 ^ ordF l a 10 0), whole_cnt _ hw]
      show pw ((ordF l a 10 0 : Nat) : Int) + _ = _
      rw [pw_nat]; omega
    · rename_i h2
      rw [list_sum l (a + 1), drop_cnt h1, if_neg h2]; omega
  · rename_i h1
    rw [List.drop_eq_nil_of_le (by omega)]; rfl
termination_by l.length - a
/-- A frame is there to be taken, and but one fewer behind it. -/
theorem take_good {T : Int} {fr : List DBlock} (h : FOk T fr) (hs : 1 ≤ sumO fr) : ∃ (n : Int) (fr' : List DBlock), takeF T fr 0 = (T, fr', n) ∧ 0 ≤ n ∧ n < T ∧ Fine T fr' ∧ sumO fr ≤ sumO fr' + 1 := by
  have hb := bestF_rng fr 0 fr.length
  have hn : ¬ (¬ FOk T fr ∨ (0 : Int) < 0 ∨ (10 : Int) < 0) := fun h2 => by rcases h2 with h2 | h2 | h2; exact h2 h; omega; omega
  have hbest : ∀ k, k ≤ fr.length → 0 < k → 0 ≤ bestF fr 0 k := by
    intro k
    induction k with
    | zero => intro _ h; omega
    | succ k ih =>
      intro hk _
      have hx : fr[k]? = some (fr[k]'(by omega)) := List.getElem?_eq_getElem (by omega)
      generalize fr[k]'(by omega) = x at hx
      have ho := (blkOk_out (h.2.2 k x hx).1).1
      unfold bestF
      rw [hx]
      simp only
      split
      · omega
      · rename_i hh
        by_cases hb0 : bestF fr 0 k < 0
        · exact absurd ⟨ho, .inl hb0⟩ hh
        · omega
  have hne : 0 < fr.length := by
    cases fr with
    | nil => simp [sumO] at hs
    | cons a r => simp
  have hbb := hbest fr.length (Nat.le_refl _) hne
  rcases bestF_ord fr 0 fr.length with h1 | ⟨x, hx, _⟩
  · omega
  · have hbo := blkOk_out (h.2.2 _ x hx).1
    refine ⟨x.At, _, takeF_some hn hbb hx, hbo.2.2.1, hbo.2.2.2.1, fine_list (by rw [setV_len, freeL_len]) h.1 h.2.1, ?_⟩
    rw [list_sum, ← free_sum h, List.drop_zero]
    have : setV false (freeL T fr) x.At.toNat (2 ^ (0 : Int).toNat) = (freeL T fr).set x.At.toNat false := rfl
    rw [this]
    have := cnt_set (freeL T fr) x.At.toNat
    omega
end Go.Proofs.YtkgoanjemhbjgaaGreat

/- MapPage: frames taken, what it comes to. Conditions: none. -/
set_option linter.unusedVariables false
set_option linter.unusedSimpArgs false
namespace Go.Proofs.YtkgoanjemhbjgaaGreat
open Go Go.Den
theorem s42 {w0 w : World} {b : Nat} {sm sf : Sl} {m : List Int} {T n : Int} {fr fr' : List DBlock} {F : List Asr} (h : SH w0 w (poolB b sm T sf :: rowM sm m :: rowF sf fr :: F)) (ht : takeF T fr 0 = (T, fr', n)) (h0 : 0 ≤ n) (hf : n.toNat * 256 + fz ≤ m.length) (hs : m.length ≤ 1048576) (hl : fr.length ≤ 1099511627776) :
    CallW Tryz.prog 42 #[.pointer (some ⟨b, 0, none⟩)] w (fun v w' => v = .int .i64 n ∧ ∃ t : Sl, SH w0 w' (poolB b sm T t :: rowM sm (zer m (n.toNat * 256) fz) :: rowF t fr' :: F)) := by
  refine go42 ?_
  unfold W42
  refine ⟨_, rfl, _, h.cell 0 (i := 1) rfl rfl, sf, h.cell 0 (i := 2) rfl rfl, ?_⟩
  refine (c93 (h := SH.frAt h 2 rfl hl)).mono ?_
  rintro _ w5 ⟨t, rfl, hO, e5⟩
  rw [ht] at hO ⊢
  have h5 := h.seq (SH.ofOwnF e5 hO (Nat.le_refl _))
  refine ⟨_, t, _, rfl, h5.alloc (fun w9 h9 e9 n9 => h9.put 0 rfl rfl rfl (fun w10 h10 n10 => ?_))⟩
  refine BIf.dec (fun hge => ?_) (fun hlt => absurd h0 hlt)
  refine ⟨_, h10.cell 0 rfl rfl, t, h10.cell 0 rfl rfl, _, rfl, h10.puts 2 (o := 1) rfl rfl (fun j hj => ?_) (fun w14 h14 n14 => ?_)⟩
  · match j, hj with
    | 0, _ => exact ⟨_, rfl⟩
    | 1, _ => exact ⟨_, rfl⟩
  have g : SH w0 w14 (poolB b sm T t :: rowM sm m :: rowF t fr' :: rowF sf fr :: F) := (h14.drop.front (n := 1) rfl).tl (List.Perm.swap _ _ _)
  have hn : n = ((n.toNat : Nat) : Int) := by omega
  show CallW Tryz.prog 94 #[_, .int .i64 n] _ _
  rw [hn]
  refine (s94 g fz_eq hf hs).mono ?_
  rintro _ w16 ⟨rfl, h16⟩
  exact ⟨rfl, rfl, t, (h16.front (n := 3) rfl).drop⟩
theorem s30 {w0 w : World} {sm sf : Sl} {m : List Int} {T n : Int} {fr fr' : List DBlock} {F : List Asr} (h : SH w0 w (rowM sm m :: rowF sf fr :: F)) (ht : takeF T fr 0 = (T, fr', n)) (h0 : 0 ≤ n) (hf : n.toNat * 256 + fz ≤ m.length) (hs : m.length ≤ 1048576) (hl : fr.length ≤ 1099511627776) :
    CallW Tryz.prog 30 #[.agg #[.slice sm.a sm.len sm.cap, .int .i64 T, .slice sf.a sf.len sf.cap]] w (fun v w' => ∃ t : Sl, v = .tuple #[.agg #[.slice sm.a sm.len sm.cap, .int .i64 T, .slice t.a t.len t.cap], .int .i64 n] ∧ SH w0 w' (rowM sm (zer m (n.toNat * 256) fz) :: rowF t fr' :: F)) := by
  refine go30 ?_
  unfold W30
  refine h.alloc (fun w1 h1 e1 n1 => h1.alloc (fun w2 h2 e2 n2 => ?_))
  refine ⟨_, h2.cell 1 rfl rfl, sf, h2.cell 1 rfl rfl, ?_⟩
  refine (c57 (h := SH.frAt h2 3 rfl hl)).mono ?_
  rintro _ w6 ⟨t, rfl, hO, e6⟩
  rw [ht] at hO ⊢
  have h6 := h2.seq (SH.ofOwnF e6 hO (Nat.le_refl _))
  refine ⟨_, t, _, rfl, h6.alloc (fun w10 h10 e10 n10 => h10.put 0 rfl rfl rfl (fun w11 h11 n11 => ?_))⟩
  refine BIf.dec (fun hlt => absurd h0 (by show ¬ 0 ≤ n; have : n < 0 := hlt; omega)) (fun hge => ?_)
  refine ⟨sm, h11.cell 3 rfl rfl, _, h11.cell 3 rfl rfl, sf, h11.cell 3 rfl rfl, ?_⟩
  have hn : n = ((n.toNat : Nat) : Int) := by omega
  show CallW Tryz.prog 81 #[_, .int .i64 n] _ _
  rw [hn]
  refine (s81 (h11.front (n := 4) rfl) fz_eq hf hs).mono ?_
  rintro _ w23 ⟨rfl, h23⟩
  -- rowM :: aB w6 :: rowF t :: aB w1 :: aB w :: rowF sf :: F
  refine ⟨rfl, sm, h23.cell 4 rfl rfl, _, h23.cell 1 rfl rfl, t, h23.cell 1 rfl rfl, h23.put 3 rfl rfl rfl (fun w27 h27 n27 => ?_)⟩
  refine ⟨sm, h27.cell 3 rfl rfl, _, h27.cell 3 rfl rfl, t, h27.cell 3 rfl rfl, t, rfl, ?_⟩
  exact (((((((h27.front (n := 5) rfl).drop).front (n := 4) rfl).drop).front (n := 3) rfl).drop).front (n := 1) rfl).drop
/-! ## What MapPage comes to -/
def tabE (n : Int) : DEntry := ⟨true, false, false, false, false, false, false, false, n⟩
noncomputable def tkN (p : List Int × Int × List DBlock) : Int := (takeF p.2.1 p.2.2 0).2.2
noncomputable def tkP (p : List Int × Int × List DBlock) : List Int × Int × List DBlock := (zer p.1 ((tkN p).toNat * 256) fz, p.2.1, (takeF p.2.1 p.2.2 0).2.1)
noncomputable def mpS (va : Int) (s : (List Int × Int × List DBlock) × List Int) : (List Int × Int × List DBlock) × List Int :=
  (pkP (tkP s.1) (slotA va (3 - s.2.length) (s.2.getD (s.2.length - 1) 0)).toNat (putX (tabE (tkN s.1))), s.2 ++ [tkN s.1])
noncomputable def mpI (va : Int) (s : (List Int × Int × List DBlock) × List Int) : Nat → (List Int × Int × List DBlock) × List Int
  | 0 => s
  | k + 1 => mpS va (mpI va s k)
noncomputable def mapG (m : List Int) (T : Int) (fr : List DBlock) (root va x : Int) : (List Int × Int × List DBlock) × Int :=
  if pageX m va root ≠ 0 then ((m, T, fr), 4)
  else if sumO fr < 3 - ((wayF m va 2 root).length : Int) then ((m, T, fr), 7)
  else (pkP (mpI va ((m, T, fr), wayF m va 2 root) (3 - (wayF m va 2 root).length)).1 (slotA va 0 ((mpI va ((m, T, fr), wayF m va 2 root) (3 - (wayF m va 2 root).length)).2.getD 2 0)).toNat x, 0)
noncomputable def mapF (m : List Int) (T : Int) (fr : List DBlock) (root va : Int) (e : DEntry) : (List Int × Int × List DBlock) × Int :=
  if (badB m T fr root va || !leafB e) = true then (([], 0, []), 1) else mapG m T fr root va (putX e)
/-- A state that frames can be taken from. -/
structure MpOk (n : Nat) (T : Int) (s : (List Int × Int × List DBlock) × List Int) (k : Nat) : Prop where
  gv : GvOk n T s.1
  sum : (k : Int) ≤ sumO s.1.2.2
  len : s.2.length + k = 3
  one : 0 < s.2.length
  rng : ∀ t, t ∈ s.2 → 0 ≤ t ∧ t < T
  tot : T = ((n / 256 : Nat) : Int)
theorem MpOk.take {n : Nat} {T : Int} {s : (List Int × Int × List DBlock) × List Int} {k : Nat} (h : MpOk n T s (k + 1)) : ∃ fr', takeF T s.1.2.2 0 = (T, fr', tkN s.1) ∧ 0 ≤ tkN s.1 ∧ tkN s.1 < T ∧ Fine T fr' ∧ sumO s.1.2.2 ≤ sumO fr' + 1 := by
  obtain ⟨t, fr', h1, h2, h3, h4, h5⟩ := take_good h.gv.ok (by have := h.sum; omega)
  have ht := h.gv.tot
  have hn : tkN s.1 = t := by unfold tkN; rw [ht, h1]
  exact ⟨fr', by rw [hn]; exact h1, by omega, by omega, h4, h5⟩
theorem MpOk.tkP {n : Nat} {T : Int} {s : (List Int × Int × List DBlock) × List Int} {k : Nat} (h : MpOk n T s (k + 1)) : GvOk n T (YtkgoanjemhbjgaaGreat.tkP s.1) ∧ (k : Int) ≤ sumO (YtkgoanjemhbjgaaGreat.tkP s.1).2.2 := by
  obtain ⟨fr', h1, h2, h3, h4, h5⟩ := h.take
  have he : (YtkgoanjemhbjgaaGreat.tkP s.1).2.2 = fr' := by show (takeF s.1.2.1 s.1.2.2 0).2.1 = fr'; rw [h.gv.tot, h1]
  refine ⟨⟨by show (zer _ _ _).length = n; rw [zer_len]; exact h.gv.len, h.gv.tot, by rw [he]; exact h4.1, by rw [he]; have := h4.2; omega, fun x hx => zer_rng h.gv.rng _ _ x hx⟩, ?_⟩
  rw [he]; have := h.sum; omega
theorem MpOk.next {n : Nat} {T : Int} {s : (List Int × Int × List DBlock) × List Int} {va : Int} {k : Nat} (h : MpOk n T s (k + 1)) : MpOk n T (mpS va s) k := by
  obtain ⟨h1, h2⟩ := h.tkP
  obtain ⟨fr', _, h3, h4, _, _⟩ := h.take
  refine ⟨h1.pk _ _, h2, ?_, by show 0 < (s.2 ++ [tkN s.1]).length; simp, fun t ht => ?_, h.tot⟩
  · show (s.2 ++ [tkN s.1]).length + k = 3
    have := h.len
    simp; omega
  · rcases List.mem_append.1 ht with ht | ht
    · exact h.rng t ht
    · rw [List.mem_singleton.1 ht]; exact ⟨h3, h4⟩
theorem mpI_ok {n : Nat} {T : Int} {s : (List Int × Int × List DBlock) × List Int} {va : Int} {k0 : Nat} (h : MpOk n T s k0) : ∀ k, k ≤ k0 → MpOk n T (mpI va s k) (k0 - k)
  | 0, _ => h
  | k + 1, hk => by
    have := mpI_ok (va := va) h k (by omega)
    exact MpOk.next (by rw [show k0 - (k + 1) + 1 = k0 - k by omega]; exact this)
theorem MpOk.last {n : Nat} {T : Int} {s : (List Int × Int × List DBlock) × List Int} {k : Nat} (h : MpOk n T s k) : s.2[s.2.length - 1]? = some (s.2.getD (s.2.length - 1) 0) ∧ 0 ≤ s.2.getD (s.2.length - 1) 0 ∧ s.2.getD (s.2.length - 1) 0 * 256 + 256 ≤ n := by
  have h1 : s.2[s.2.length - 1]? = some (s.2.getD (s.2.length - 1) 0) := by
    rw [List.getD_eq_getElem?_getD, List.getElem?_eq_getElem (by have := h.one; omega)]; rfl
  have h2 := h.rng _ (List.mem_of_getElem? h1)
  have h3 := h.tot
  exact ⟨h1, by omega, by omega⟩
theorem slotW_app {va n : Int} : ∀ {W : List Int}, W.length ≤ 2 → slotW va 2 (W ++ [n]) = slotW va 2 W ++ [slotA va (2 - W.length) n]
  | [], _ => rfl
  | [a], _ => rfl
  | [a, b], _ => rfl
  | a :: b :: c :: r, h => by simp at h
theorem slotW_last {va : Int} : ∀ {W : List Int}, 0 < W.length → W.length ≤ 3 → (slotW va 2 W)[W.length - 1]? = some (slotA va (3 - W.length) (W.getD (W.length - 1) 0))
  | [], h, _ => by simp at h
  | [a], _, _ => rfl
  | [a, b], _, _ => rfl
  | [a, b, c], _, _ => rfl
  | a :: b :: c :: d :: r, _, h => by simp at h
theorem way_ok {m : List Int} {T : Int} {fr : List DBlock} {root va : Int} {S : List Int} (h : spaceT m T fr root = some S) (hr : ∀ x, x ∈ m → 0 ≤ x ∧ x ≤ 255) (hf : fr.length ≤ 1048576) (hs : ¬ sumO fr < 3 - ((wayF m va 2 root).length : Int)) : MpOk m.length T ((m, T, fr), wayF m va 2 root) (3 - (wayF m va 2 root).length) := by
  have hok := (spaceT_mem h).1
  have hT := tab_root h
  have hfl : ((freeL T fr).length : Int) = T := by rw [freeL_len]; have := hok.2.2.1.1; omega
  have hl := wayF_len m va 2 root
  refine ⟨gvOk0 hok hr hf, by show _ ≤ sumO fr; omega, by show (wayF m va 2 root).length + _ = 3; omega, ?_, ?_, hok.2.2.2⟩
  · show 0 < (wayF m va 2 root).length
    unfold wayF; simp
  · show ∀ t, t ∈ wayF m va 2 root → _
    have g0 := hT.rng
    rcases way_is (va := va) hT with ⟨_, hw⟩ | ⟨t1, S1, _, _, hT1, _, _, hw⟩ | ⟨t1, t2, S1, S2, h2, _, hT1, hr1, h1, _, hT2, hr2, hr3, hw⟩
    · rw [hw]; intro t ht; rw [List.mem_singleton.1 ht]; exact ⟨g0.1, by omega⟩
    · have g1 := hT1.rng
      rw [hw]; intro t ht
      rcases List.mem_cons.1 ht with rfl | ht
      · exact ⟨g0.1, by omega⟩
      · rw [List.mem_singleton.1 ht]; exact ⟨g1.1, by omega⟩
    · have g1 := hT1.rng; have g2 := hT2.rng
      rw [hw]; intro t ht
      rcases List.mem_cons.1 ht with rfl | ht
      · exact ⟨g0.1, by omega⟩
      · rcases List.mem_cons.1 ht with rfl | ht
        · exact ⟨g1.1, by omega⟩
        · rw [List.mem_singleton.1 ht]; exact ⟨g2.1, by omega⟩
end Go.Proofs.YtkgoanjemhbjgaaGreat

/- MapPage, both sides. Conditions: none. -/
set_option linter.unusedVariables false
set_option linter.unusedSimpArgs false
namespace Go.Proofs.YtkgoanjemhbjgaaGreat
open Go Go.Den
theorem mapF_bad {m : List Int} {T : Int} {fr : List DBlock} {root va : Int} {e : DEntry} (h : (badB m T fr root va || !leafB e) = true) : mapF m T fr root va e = (([], 0, []), 1) := by unfold mapF; rw [if_pos h]
theorem mapF_good {m : List Int} {T : Int} {fr : List DBlock} {root va : Int} {e : DEntry} (h : (badB m T fr root va || !leafB e) = false) : mapF m T fr root va e = mapG m T fr root va (putX e) := by unfold mapF; rw [if_neg (by rw [h]; exact Bool.false_ne_true)]
theorem mapG_there {m : List Int} {T : Int} {fr : List DBlock} {root va x : Int} (h : pageX m va root ≠ 0) : mapG m T fr root va x = ((m, T, fr), 4) := by unfold mapG; rw [if_pos h]
theorem mapG_full {m : List Int} {T : Int} {fr : List DBlock} {root va x : Int} (h : pageX m va root = 0) (hs : sumO fr < 3 - ((wayF m va 2 root).length : Int)) : mapG m T fr root va x = ((m, T, fr), 7) := by unfold mapG; rw [if_neg (by rw [h]; simp), if_pos hs]
theorem mapG_done {m : List Int} {T : Int} {fr : List DBlock} {root va x : Int} {s : (List Int × Int × List DBlock) × List Int} (h : pageX m va root = 0) (hs : ¬ sumO fr < 3 - ((wayF m va 2 root).length : Int)) (hm : mpI va ((m, T, fr), wayF m va 2 root) (3 - (wayF m va 2 root).length) = s) : mapG m T fr root va x = (pkP s.1 (slotA va 0 (s.2.getD 2 0)).toNat x, 0) := by unfold mapG; rw [if_neg (by rw [h]; simp), if_neg hs, hm]
set_option maxHeartbeats 1000000 in
theorem s43 {w0 w : World} {b : Nat} {sm sf : Sl} {m : List Int} {T root va x : Int} {fr : List DBlock} {F : List Asr} {S : List Int} (h : SH w0 w (poolB b sm T sf :: rowM sm m :: rowF sf fr :: F)) (hsp : spaceT m T fr root = some S) (hr : ∀ x, x ∈ m → 0 ≤ x ∧ x ≤ 255) (hf : fr.length ≤ 1048576) (hv0 : 0 ≤ va) (hv1 : va < 8388608) (hx0 : 0 ≤ x) (hx1 : x < 18446744073709551616) :
    CallW Tryz.prog 43 #[.pointer (some ⟨b, 0, none⟩), .int .i64 root, .int .i64 va, .int .u64 x] w (fun v w' => v = .int .i64 (mapG m T fr root va x).2 ∧ ∃ t : Sl, SH w0 w' (poolB b sm (mapG m T fr root va x).1.2.1 t :: rowM sm (mapG m T fr root va x).1.1 :: rowF t (mapG m T fr root va x).1.2.2 :: F)) := by
  refine go43 ?_
  unfold W43
  have hok := (spaceT_mem hsp).1
  have hml := hok.2.1
  refine (s39 h (tab_root hsp) hok.len hr (by omega) hv0 hv1).mono ?_
  rintro _ w2 ⟨l, rfl, h2⟩
  refine ⟨_, l, rfl, BIf.ne (fun hx => ?_) (fun hx => ?_)⟩
  · rw [mapG_there hx]
    exact ⟨rfl, sf, h2.drop⟩
  have hll : l.len = (wayF m va 2 root).length := by rw [h2.len 0 rfl, nums_len]
  have hl3 := wayF_len m va 2 root
  refine ⟨_, rfl, _, h2.cell 1 (i := 1) rfl rfl, sf, h2.cell 1 (i := 2) rfl rfl, ?_⟩
  refine (c21 (SH.frAt h2 3 rfl (by omega)) hok.2.2.1).mono ?_
  rintro _ w9 ⟨rfl, e9⟩
  have h9 := h2.to e9
  refine ⟨_, rfl, ?_⟩
  rw [left_all, w64 (by omega) (by omega), hll]
  refine BIf.dec (fun hlt => ?_) (fun hge => ?_)
  · have hlt : sumO fr < 3 - ((wayF m va 2 root).length : Int) := hlt
    rw [mapG_full hx hlt]
    exact ⟨rfl, sf, h9.drop⟩
  have hge : ¬ sumO fr < 3 - ((wayF m va 2 root).length : Int) := hge
  have h0 := way_ok hsp hr hf hge
  obtain ⟨k0, hk0⟩ : ∃ k0, k0 = 3 - (wayF m va 2 root).length := ⟨_, rfl⟩
  rw [← hk0] at h0
  refine LoopW.m1 (fun (l : Sl) w' => ∃ (k : Nat) (t : Sl), k ≤ k0 ∧ SH w0 w' (rowN l (mpI va ((m, T, fr), wayF m va 2 root) k).2 :: poolB b sm (mpI va ((m, T, fr), wayF m va 2 root) k).1.2.1 t :: rowM sm (mpI va ((m, T, fr), wayF m va 2 root) k).1.1 :: rowF t (mpI va ((m, T, fr), wayF m va 2 root) k).1.2.2 :: F)) (fun (l : Sl) _ => 3 - l.len) ⟨0, sf, by omega, h9⟩ ?_
  rintro (l : Sl) w13 ⟨k, t, hk, h13⟩ J hJ
  have hMp := mpI_ok (va := va) h0 k hk
  obtain ⟨s, hs⟩ : ∃ s, s = mpI va ((m, T, fr), wayF m va 2 root) k := ⟨_, rfl⟩
  rw [← hs] at h13 hMp
  have hsl : l.len = s.2.length := by rw [h13.len 0 rfl, nums_len]
  have hslen := hMp.len
  have hgl := hMp.gv.len
  have hone := hMp.one
  refine BIf.dec (fun hlt => ?_) (fun hge3 => ?_)
  · obtain ⟨j, hj⟩ : ∃ j, k0 - k = j + 1 := ⟨k0 - k - 1, by omega⟩
    rw [hj] at hMp
    obtain ⟨fr', ht1, ht2, ht3, ht4, ht5⟩ := hMp.take
    have htot := hMp.gv.tot
    have h13' : SH w0 w13 (poolB b sm T t :: rowM sm s.1.1 :: rowF t s.1.2.2 :: rowN l s.2 :: F) := by
      rw [htot] at h13
      exact h13.p3.p3.p3
    have hfewf := hMp.gv.few
    have htT := hMp.tot
    refine (s42 h13' ht1 ht2 (by rw [fz_eq]; omega) (by omega) (by omega)).mono ?_
    rintro _ w15 ⟨rfl, t2, h15⟩
    refine ⟨_, rfl, ?_⟩
    refine (c18 (e := tabE (tkN s.1))).mono ?_
    rintro _ w18 ⟨rfl, e18⟩
    have h19 := (h15.to e18).drew
    refine ⟨_, _, rfl, ?_⟩
    obtain ⟨hlast, hl0, hl1⟩ := hMp.last
    have hi1 : IntKind.i64.wrap (((l.len : Nat) : Int) - 1) = ((s.2.length - 1 : Nat) : Int) := by rw [hsl, w64 (by omega) (by omega)]; omega
    have hi3 : IntKind.i64.wrap (3 - ((l.len : Nat) : Int)) = ((3 - s.2.length : Nat) : Int) := by rw [hsl, w64 (by omega) (by omega)]; omega
    rw [hi1, hi3, Int.toNat_natCast]
    obtain ⟨q, hq, hqc⟩ := h19.elem0 3 rfl (nums_get hlast) rfl
    refine ⟨by omega, by omega, q, hq, _, hqc, ?_⟩
    refine (c41 hv0 hv1 (by omega)).mono ?_
    rintro _ w24 ⟨rfl, rfl⟩
    refine ⟨_, rfl, ⟨_, hqc, rfl⟩, rfl, ?_⟩
    have hix := ixV_rng va ((3 - s.2.length : Nat) : Int)
    have hpr := putX_rng (tabE (tkN s.1))
    refine (s40 h19 hl0 hix.1 hix.2 hpr.1 (by omega) (by rw [zer_len, hgl]; exact hl1) (by rw [zer_len, hgl]; omega)).mono ?_
    rintro _ w28 ⟨rfl, h28⟩
    refine ⟨rfl, LetW_iff.2 (SH.appendN1 (h28.front (n := 3) rfl) rfl rfl (by decide) (by show (_ + 1) * 8 ≤ _; omega) (fun s' w31 h31 g1 g2 => ?_))⟩
    refine hJ _ _ ⟨k + 1, t2, by omega, ?_⟩ (by omega)
    have hstep : mpI va ((m, T, fr), wayF m va 2 root) (k + 1) = mpS va s := by rw [hs]; rfl
    rw [hstep]
    have hTT : (mpS va s).1.2.1 = T := htot
    have hfr : (mpS va s).1.2.2 = fr' := by show (takeF s.1.2.1 s.1.2.2 0).2.1 = fr'; rw [htot, ht1]
    rw [hTT, hfr]
    exact h31
  · have hkk : k = k0 := by omega
    have hsl3 : s.2.length = 3 := by omega
    have h14 := h13.drew
    obtain ⟨hlast, hl0, hl1⟩ := hMp.last
    rw [hsl3] at hlast hl0 hl1
    obtain ⟨q, hq, hqc⟩ := h14.elem0 0 rfl (nums_get hlast) rfl
    refine ⟨by omega, by omega, q, hq, _, hqc, ?_⟩
    refine (c41 (l := 0) hv0 hv1 (by omega)).mono ?_
    rintro _ w35 ⟨rfl, rfl⟩
    refine ⟨_, rfl, ⟨_, hqc, rfl⟩, ?_⟩
    have hix := ixV_rng va ((0 : Nat) : Int)
    refine (s40 h14.drop hl0 hix.1 hix.2 hx0 hx1 (by rw [hgl]; exact hl1) (by rw [hgl]; omega)).mono ?_
    rintro _ w39 ⟨rfl, h39⟩
    rw [mapG_done (s := s) hx hge (by rw [hs, hkk, hk0])]
    exact ⟨rfl, rfl, t, h39⟩
set_option maxHeartbeats 1000000 in
theorem s16 {sm sf : Sl} {m : List Int} {T root va : Int} {fr : List DBlock} {e : DEntry} {w : World} (hm : Bytes w sm m) (hf : FrAt w sf fr) (hfew : fr.length ≤ 1048576) :
    CallW Tryz.prog 16 #[.agg #[.slice sm.a sm.len sm.cap, .int .i64 T, .slice sf.a sf.len sf.cap], .int .i64 root, .int .i64 va, .agg ⟨e.cells⟩] w (DropV (mapF m T fr root va e) w) := by
  refine go16 ?_
  unfold W16
  refine (SH.start w).alloc (fun w1 h1 e1 n1 => h1.alloc (fun w2 h2 e2 n2 => h2.alloc (fun w3 h3 e3 n3 => ?_)))
  refine ⟨sm, h3.cell 2 rfl rfl, _, h3.cell 2 rfl rfl, sf, h3.cell 2 rfl rfl, ?_⟩
  refine (s61 (hm.ext h3.ext) (hf.ext h3.ext)).mono ?_
  rintro _ w8 ⟨rfl, e8⟩
  have h8 := h3.to e8
  refine ⟨_, rfl, ?_⟩
  refine JoinW.cut1 (fun (b : Bool) w' => b = (badB m T fr root va || !leafB e) ∧ SH w w' [aB w2.heap.size ([Value.slice none 0 0, .int .i64 0, .slice none 0 0].map Ce.v), aB w1.heap.size (e.cells.map Ce.v), poolB w.heap.size sm T sf]) ?_ ?_
  · refine BIf.of (fun hh => ⟨by rw [hh]; rfl, h8⟩) (fun hh => ?_)
    refine ⟨_, h8.cell 1 rfl rfl, _, h8.cell 1 rfl rfl, _, h8.cell 1 rfl rfl, _, h8.cell 1 rfl rfl, _, h8.cell 1 rfl rfl, _, h8.cell 1 rfl rfl, _, h8.cell 1 rfl rfl, _, h8.cell 1 rfl rfl, _, h8.cell 1 rfl rfl, ?_⟩
    refine (c62 (e := e)).mono ?_
    rintro _ w76 ⟨rfl, e76⟩
    exact ⟨_, rfl, by rw [hh]; rfl, h8.to e76⟩
  rintro (b : Bool) w12 ⟨rfl, h12⟩
  refine BIf.of (fun hbad => ?_) (fun hgood => ?_)
  · refine h12.put 0 rfl rfl rfl (fun w13 h13 n13 => ?_)
    refine ⟨⟨none, 0, 0⟩, h13.cell 0 rfl rfl, _, h13.cell 0 rfl rfl, ⟨none, 0, 0⟩, h13.cell 0 rfl rfl, ?_⟩
    rw [mapF_bad hbad]
    exact ⟨⟨none, 0, 0⟩, ⟨none, 0, 0⟩, rfl, sh_zero h13⟩
  have hg2 := hgood
  simp only [Bool.or_eq_false_iff, Bool.not_eq_false'] at hg2
  obtain ⟨hv0, hv1, S, hsp⟩ := bad_no hg2.1
  have hok := (spaceT_mem hsp).1
  have hml := hok.2.1
  rw [mapF_good hgood]
  refine ⟨sm, h12.cell 2 rfl rfl, _, h12.cell 2 rfl rfl, sf, h12.cell 2 rfl rfl, (s25 (hm.ext h12.ext) (hf.ext h12.ext)).mono ?_⟩
  rintro _ w21 ⟨tm, tf, rfl, g21⟩
  have h21 := h12.seq g21
  refine ⟨tm, _, tf, rfl, h21.alloc (fun w25 h25 e25 n25 => h25.put 0 rfl rfl rfl (fun w26 h26 n26 => ?_))⟩
  refine ⟨sm, h26.cell 5 rfl rfl, _, h26.cell 5 rfl rfl, sf, h26.cell 5 rfl rfl, (s63 (hm.ext h26.ext) (tab_root hsp) hok.len hml hv0 hv1).mono ?_⟩
  rintro _ w31 ⟨l, rfl, g31⟩
  have h31 := h26.seq g31
  -- rowN l slots :: poolB w21 tm T tf :: rowM tm :: rowF tf :: aB w2 :: aB w1 :: aB w
  refine ⟨l, _, rfl, BIf.ne (fun hx => ?_) (fun hx => ?_)⟩
  · refine ⟨tm, h31.cell 1 rfl rfl, _, h31.cell 1 rfl rfl, tf, h31.cell 1 rfl rfl, h31.put 4 rfl rfl rfl (fun w37 h37 n37 => ?_)⟩
    refine ⟨tm, h37.cell 4 rfl rfl, _, h37.cell 4 rfl rfl, tf, h37.cell 4 rfl rfl, ?_⟩
    rw [mapG_there hx]
    exact ⟨tm, tf, rfl, h37.drop.drop.two⟩
  have hl3 := wayF_len m va 2 root
  have hll : l.len = (wayF m va 2 root).length := by rw [h31.len 0 rfl, nums_len, slotW_len]
  refine ⟨_, h31.cell 6 rfl rfl, sf, h31.cell 6 rfl rfl, (c26 (hf.ext h31.ext) hok.2.2.1).mono ?_⟩
  rintro _ w44 ⟨rfl, e44⟩
  have h44 := h31.to e44
  refine ⟨_, rfl, ?_⟩
  rw [left_all, w64 (by omega) (by omega), hll]
  refine BIf.dec (fun hlt => ?_) (fun hge => ?_)
  · have hlt : sumO fr < 3 - ((wayF m va 2 root).length : Int) := hlt
    refine ⟨tm, h44.cell 1 rfl rfl, _, h44.cell 1 rfl rfl, tf, h44.cell 1 rfl rfl, h44.put 4 rfl rfl rfl (fun w49 h49 n49 => ?_)⟩
    refine ⟨tm, h49.cell 4 rfl rfl, _, h49.cell 4 rfl rfl, tf, h49.cell 4 rfl rfl, ?_⟩
    rw [mapG_full hx hlt]
    exact ⟨tm, tf, rfl, h49.drop.drop.two⟩
  have hge : ¬ sumO fr < 3 - ((wayF m va 2 root).length : Int) := hge
  have h0 := way_ok hsp hm.rng hfew hge
  obtain ⟨k0, hk0⟩ : ∃ k0, k0 = 3 - (wayF m va 2 root).length := ⟨_, rfl⟩
  rw [← hk0] at h0
  refine LoopW.m1 (fun (l : Sl) w' => ∃ (k : Nat) (t : Sl), k ≤ k0 ∧ SH w w' [rowM tm (mpI va ((m, T, fr), wayF m va 2 root) k).1.1, rowF t (mpI va ((m, T, fr), wayF m va 2 root) k).1.2.2, poolB w21.heap.size tm (mpI va ((m, T, fr), wayF m va 2 root) k).1.2.1 t, rowN l (slotW va 2 (mpI va ((m, T, fr), wayF m va 2 root) k).2), aB w2.heap.size ([Value.slice none 0 0, .int .i64 0, .slice none 0 0].map Ce.v), aB w1.heap.size (e.cells.map Ce.v)]) (fun (l : Sl) _ => 3 - l.len) ⟨0, tf, by omega, ?_⟩ ?_
  · exact ((((h44.front (n := 6) rfl).drop).p1).p3.p3)
  rintro (l : Sl) w55 ⟨k, t, hk, h55⟩ J hJ
  have hMp := mpI_ok (va := va) h0 k hk
  obtain ⟨s, hs⟩ : ∃ s, s = mpI va ((m, T, fr), wayF m va 2 root) k := ⟨_, rfl⟩
  rw [← hs] at h55 hMp
  have hsl : l.len = s.2.length := by rw [h55.len 3 rfl, nums_len, slotW_len]
  have hslen := hMp.len
  have hgl := hMp.gv.len
  have hone := hMp.one
  refine BIf.dec (fun hlt => ?_) (fun hge3 => ?_)
  · obtain ⟨j, hj⟩ : ∃ j, k0 - k = j + 1 := ⟨k0 - k - 1, by omega⟩
    rw [hj] at hMp
    obtain ⟨fr', ht1, ht2, ht3, ht4, ht5⟩ := hMp.take
    have htot := hMp.gv.tot
    have hfewf := hMp.gv.few
    have htT := hMp.tot
    rw [htot] at h55
    refine ⟨tm, h55.cell 2 rfl rfl, _, h55.cell 2 rfl rfl, t, h55.cell 2 rfl rfl, ?_⟩
    refine (s30 h55 ht1 ht2 (by rw [fz_eq]; omega) (by omega) (by omega)).mono ?_
    rintro _ w60 ⟨t2, rfl, h60⟩
    refine ⟨tm, _, t2, _, rfl, h60.alloc (fun w65 h65 e65 n65 => h65.put 0 rfl rfl rfl (fun w66 h66 n66 => ?_))⟩
    refine ⟨tm, h66.cell 0 rfl rfl, _, h66.cell 0 rfl rfl, t2, h66.cell 0 rfl rfl, h66.put 3 rfl rfl rfl (fun w70 h70 n70 => ?_)⟩
    refine (c64 (e := tabE (tkN s.1))).mono ?_
    rintro _ w72 ⟨rfl, e72⟩
    have h73 := (h70.to e72).drew.drop
    refine ⟨_, _, rfl, tm, h73.cell 2 rfl rfl, ?_⟩
    obtain ⟨hlast, hl0, hl1⟩ := hMp.last
    have hi1 : IntKind.i64.wrap (((l.len : Nat) : Int) - 1) = ((s.2.length - 1 : Nat) : Int) := by rw [hsl, w64 (by omega) (by omega)]; omega
    have hi2 : IntKind.i64.wrap (2 - ((l.len : Nat) : Int)) = ((2 - s.2.length : Nat) : Int) := by rw [hsl, w64 (by omega) (by omega)]; omega
    rw [hi1, hi2, Int.toNat_natCast]
    obtain ⟨q, hq, hqc⟩ := h73.elem0 3 rfl (nums_get (slotW_last (va := va) hone (by omega))) rfl
    refine ⟨by omega, by omega, q, hq, _, hqc, ?_⟩
    have hix := ixV_rng va ((3 - s.2.length : Nat) : Int)
    have hpr := putX_rng (tabE (tkN s.1))
    have hsld : slotA va (3 - s.2.length) (s.2.getD (s.2.length - 1) 0) = s.2.getD (s.2.length - 1) 0 * 256 + 8 * ixV va ((3 - s.2.length : Nat) : Int) := rfl
    have hsn : slotA va (3 - s.2.length) (s.2.getD (s.2.length - 1) 0) = (((slotA va (3 - s.2.length) (s.2.getD (s.2.length - 1) 0)).toNat : Nat) : Int) := by omega
    rw [hsn]
    refine (s65 h73 hpr.1 (by omega) (by rw [zer_len, hgl]; omega) (by rw [zer_len, hgl]; omega)).mono ?_
    rintro _ w79 ⟨rfl, h79⟩
    refine ⟨rfl, ?_⟩
    refine (c66 ht2 (by omega) hv0 hv1 (by omega)).mono ?_
    rintro _ w81 ⟨rfl, rfl⟩
    refine ⟨_, rfl, LetW_iff.2 (SH.appendN1 (h79.front (n := 3) rfl) rfl rfl (by decide) (by show (_ + 1) * 8 ≤ _; rw [slotW_len]; omega) (fun s' w85 h85 g1 g2 => ?_))⟩
    rw [slotW_len] at g1
    refine hJ _ _ ⟨k + 1, t2, by omega, ?_⟩ (by omega)
    have hstep : mpI va ((m, T, fr), wayF m va 2 root) (k + 1) = mpS va s := by rw [hs]; rfl
    rw [hstep]
    have hTT : (mpS va s).1.2.1 = T := htot
    have hfr : (mpS va s).1.2.2 = fr' := by show (takeF s.1.2.1 s.1.2.2 0).2.1 = fr'; rw [htot, ht1]
    have hsw : slotW va 2 (mpS va s).2 = slotW va 2 s.2 ++ [slotA va (2 - s.2.length) (tkN s.1)] := slotW_app (by omega)
    rw [hTT, hfr, hsw]
    try rw [Int.toNat_natCast] at h85
    exact ((h85.p1).tl ((List.Perm.swap _ _ _).trans ((List.Perm.swap _ _ _).cons _)))
  · have hkk : k = k0 := by omega
    have hsl3 : s.2.length = 3 := by omega
    refine ⟨_, h55.cell 5 rfl rfl, _, h55.cell 5 rfl rfl, _, h55.cell 5 rfl rfl, _, h55.cell 5 rfl rfl, _, h55.cell 5 rfl rfl, _, h55.cell 5 rfl rfl, _, h55.cell 5 rfl rfl, _, h55.cell 5 rfl rfl, _, h55.cell 5 rfl rfl, ?_⟩
    refine (c64 (e := e)).mono ?_
    rintro _ w96 ⟨rfl, e96⟩
    have h97 := (h55.to e96).drew
    obtain ⟨hlast, hl0, hl1⟩ := hMp.last
    have hsl2 := slotW_last (va := va) hone (by omega)
    rw [hsl3] at hlast hl0 hl1 hsl2
    obtain ⟨q, hq, hqc⟩ := h97.elem0 3 rfl (nums_get hsl2) rfl
    refine ⟨_, _, rfl, tm, h97.cell 2 rfl rfl, by omega, by omega, q, hq, _, hqc, ?_⟩
    have hix := ixV_rng va ((0 : Nat) : Int)
    have hpr := putX_rng e
    show CallW Tryz.prog 65 #[_, .int .i64 (slotA va 0 (s.2.getD 2 0)), _] _ _
    have hl0 : 0 ≤ s.2.getD 2 0 := hl0
    have hl1 : s.2.getD 2 0 * 256 + 256 ≤ (m.length : Int) := hl1
    have hsld : slotA va 0 (s.2.getD 2 0) = s.2.getD 2 0 * 256 + 8 * ixV va ((0 : Nat) : Int) := rfl
    have hsn : slotA va 0 (s.2.getD 2 0) = (((slotA va 0 (s.2.getD 2 0)).toNat : Nat) : Int) := by omega
    rw [hsn]
    refine (s65 h97 hpr.1 (by omega) (by omega) (by omega)).mono ?_
    rintro _ w103 ⟨rfl, h103⟩
    refine ⟨rfl, tm, h103.cell 2 rfl rfl, _, h103.cell 2 rfl rfl, t, h103.cell 2 rfl rfl, h103.put 4 rfl rfl rfl (fun w107 h107 n107 => ?_)⟩
    refine ⟨tm, h107.cell 4 rfl rfl, _, h107.cell 4 rfl rfl, t, h107.cell 4 rfl rfl, ?_⟩
    rw [mapG_done (s := s) hx hge (by rw [hs, hkk, hk0])]
    try rw [Int.toNat_natCast] at h107
    exact ⟨tm, t, rfl, h107.two⟩
end Go.Proofs.YtkgoanjemhbjgaaGreat

/- MapPage as the law asks it. Conditions: none. -/
set_option linter.unusedVariables false
set_option linter.unusedSimpArgs false
namespace Go.Proofs.YtkgoanjemhbjgaaGreat
open Go Go.Den
end Go.Proofs.YtkgoanjemhbjgaaGreat
