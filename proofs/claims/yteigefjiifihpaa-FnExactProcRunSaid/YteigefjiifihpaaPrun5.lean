/- Part 5 of 5: plain readings of code, rules for them, and a proof over them, joined by a program. Conditions: none. -/
import Derived.Test.YteigefjiifihpaaPrun4
import Derived.Test.YteigefjiifihpaaRows
import Derived.WalkKit
import Derived.ProofKit
import Derived.OpenShut
import Derived.ShutString
import Derived.ChangeOld
import Derived.Below
import Derived.Carry
import Derived.SizedLaws
/- Processes, the program's side: an operation on processes at an address. Conditions: none. -/
set_option linter.unusedVariables false
set_option linter.unusedSimpArgs false
namespace Go.Proofs.Yteigefjiifihpaa
open Go Go.Den
theorem retV3 {w0 w : World} {As : List Asr} (h : SH w0 w As) (j : Nat) {c : Nat} {us : List Value} {x y z : Int} {K : Value → World → Prop} (hc : As[j]? = some (aB c (us.map Ce.v))) (hu : us.length = 3)
    (hk : ∀ w2, SH w0 w2 (As.set j (aB c ((rs3 x y z).map Ce.v))) → K (.agg #[.int .i64 x, .int .i64 y, .int .i64 z]) w2) :
    MayN w ⟨c, 0, none⟩ 3 ∧ LetW (Den.puts w ⟨c, 0, none⟩ 0 [.int .i64 x, .int .i64 y, .int .i64 z]) fun w14 => ∃ n19 : Int, w14.cell? ⟨c, 0, none⟩ = some (.int .i64 n19) ∧ ∃ n20 : Int, w14.cell? ⟨c, 1, none⟩ = some (.int .i64 n20) ∧ ∃ n21 : Int, w14.cell? ⟨c, 2, none⟩ = some (.int .i64 n21) ∧ K (.agg #[.int .i64 n19, .int .i64 n20, .int .i64 n21]) w14 := by
  refine h.put j hc rfl hu (fun w14 h nw => ?_)
  have hj := (List.getElem?_eq_some_iff.1 hc).1
  have g2 : (As.set j (aB c ((rs3 x y z).map Ce.v)))[j]? = some (aB c ((rs3 x y z).map Ce.v)) := List.getElem?_set_self hj
  exact ⟨x, h.cell j g2 rfl, y, h.cell j g2 rfl, z, h.cell j g2 rfl, hk _ h⟩
theorem retE {w0 w : World} {As : List Asr} (h : SH w0 w As) (j : Nat) {c : Nat} {us : List Value} {e : Int} {K : Value → World → Prop} (hc : As[j]? = some (aB c (us.map Ce.v))) (hu : us.length = 3)
    (hk : ∀ w2, SH w0 w2 (As.set j (aB c ((rs3 e 0 0).map Ce.v))) → K (.agg #[.int .i64 e, .int .i64 0, .int .i64 0]) w2) :
    CallW Try.prog 136 #[.int .i64 e] w fun v7 w8 => ∃ n9 : Int, ∃ n10 : Int, ∃ n11 : Int, v7 = .agg #[.int .i64 n9, .int .i64 n10, .int .i64 n11] ∧ MayN w8 ⟨c, 0, none⟩ 3 ∧ LetW (Den.puts w8 ⟨c, 0, none⟩ 0 [.int .i64 n9, .int .i64 n10, .int .i64 n11]) fun w14 => ∃ n19 : Int, w14.cell? ⟨c, 0, none⟩ = some (.int .i64 n19) ∧ ∃ n20 : Int, w14.cell? ⟨c, 1, none⟩ = some (.int .i64 n20) ∧ ∃ n21 : Int, w14.cell? ⟨c, 2, none⟩ = some (.int .i64 n21) ∧ K (.agg #[.int .i64 n19, .int .i64 n20, .int .i64 n21]) w14 := by
  refine c136.mono ?_
  rintro _ w8 ⟨rfl, e⟩
  exact ⟨_, _, _, rfl, retV3 (h.to e) j hc hu hk⟩
abbrev BP (b : Nat) (p : Addr) : Asr := aB b ([Value.pointer (some p)].map Ce.v)
def KM (w0 : World) (F : List Asr) (b : Nat) (r : PRes) (v : Value) (w' : World) : Prop := v = .agg #[.int .i64 r.2.1, .int .i64 r.2.2.1, .int .i64 r.2.2.2] ∧ ∃ t, SH w0 w' (PSt b t r.1 F)
abbrev intC (n : Int) : List Value := [.int .i64 n]
theorem plain_int (n : Int) : ∀ v, v ∈ intC n → plainB v = true := by intro v hv; obtain rfl := List.mem_singleton.1 hv; rfl
theorem s96 {w0 w : World} {F : List Asr} {b : Nat} {t : Sl} {l : List DProc} {k id to_ n : Int} (h : SH w0 w (PSt b t l F)) (hv : PInv l) (hto : inR to_) :
    CallW Try.prog 96 #[.pointer (some ⟨b, 0, none⟩), .agg #[.int .i64 k, .int .i64 id, .int .i64 to_, .int .i64 n]] w (KM w0 F b (stepP l k id to_ n)) := by
  refine go96 ?_
  unfold W96
  have hlen := hv.len
  have htl := h.len 1 rfl
  rw [recs_len] at htl
  have htc := h.lenCap 1 rfl
  refine h.alloc (fun w1 h e1 n1 => ?_)
  refine h.alloc (fun w2 h e2 n2 => ?_)
  refine ⟨_, h.cell 1 rfl rfl, ?_⟩
  refine join_or_ex _ (h.cell 1 rfl rfl) ?_
  refine BIf.of (fun hb => ?_) (fun hb => ?_)
  · simp only [Bool.or_eq_true, decide_eq_true_eq] at hb
    rw [stepP_bad hb]
    exact retE h 0 rfl rfl (fun w2 h => ⟨rfl, t, ((h.dropAt 1).dropAt 0)⟩)
  simp only [Bool.or_eq_false_iff, decide_eq_false_iff_not] at hb
  have hb : ¬ (k < 1 ∨ k > 9) := by omega
  refine ⟨_, h.cell 1 rfl rfl, (c104 (h.cellP 2 rfl rfl) (qatOf h 3 rfl (by omega))).mono ?_⟩
  rintro _ w18 ⟨rfl, rfl⟩
  refine ⟨_, rfl, ?_⟩
  refine h.alloc (fun w20 h e20 n20 => ?_)
  refine h.setV 0 rfl rfl (fun w21 h n21 => ?_)
  rcases ixP_find l id with ⟨g1, g2⟩ | ⟨i, x, g1, g2, g3⟩
  · rw [g1, ptr_none] at h
    rw [stepP_none hv hb g1]
    refine ⟨_, h.cell 0 rfl rfl, BIf.t rfl ?_⟩
    exact retE h 1 rfl rfl (fun w2 h => ⟨rfl, t, (((h.dropAt 2).dropAt 1).dropAt 0)⟩)
  have hil := (List.getElem?_eq_some_iff.1 g2).1
  have hxid := (prOf_some g3).2
  have ho := hv.ok x (List.mem_of_getElem? g2)
  obtain ⟨q, hqa⟩ := h.rowQ 4 rfl g2
  rw [g1, ptr_some hqa] at h
  have hstep := stepP_some (to_ := to_) (n := n) hb g1 g2
  generalize stepP l k id to_ n = r at *
  have h : SH w0 w21 (BP w18.heap.size (q.add (i * 10)) :: aB w1.heap.size ((rs3 0 0 0).map Ce.v) :: BO w.heap.size k id to_ n :: BS b t :: RP t l :: F) := h
  generalize w18.heap.size = pb at *
  generalize w1.heap.size = rb at *
  generalize w.heap.size = ob at *
  refine ⟨_, h.cell 0 rfl rfl, BIf.f rfl ⟨_, h.cell 0 rfl rfl, _, rfl, _, h.rdR 4 rfl hqa g2 rfl, ?_⟩⟩
  refine BIf.eq (fun hz => ?_) (fun hz => ?_)
  · rw [if_pos hz] at hstep
    rw [hstep]
    exact retE h 1 rfl rfl (fun w2 h => ⟨rfl, t, (((h.dropAt 2).dropAt 1).dropAt 0)⟩)
  rw [if_neg hz] at hstep
  unfold prR at hstep
  refine JoinW.cut0 (fun w' => ∃ t', SH w0 w' (aB rb ((rs3 r.2.1 r.2.2.1 r.2.2.2).map Ce.v) :: BS b t' :: RP t' r.1 :: F)) ?_ ?_
  rotate_left
  · rintro w45 ⟨t', h⟩
    refine ⟨_, h.cell 0 rfl rfl, _, h.cell 0 rfl rfl, _, h.cell 0 rfl rfl, ?_⟩
    exact retV3 h 0 rfl rfl (fun w2 h => ⟨rfl, t', (h.dropAt 0)⟩)
  refine ⟨_, h.cell 2 rfl rfl, BIf.eq (fun hk => ?_) (fun hk1 => ?_)⟩
  · -- fork
    rw [if_pos hk] at hstep
    have hfull := hv.full
    obtain ⟨q0, q1, q2, q3⟩ := hv.gap
    refine ⟨_, rfl, t, h.cellP 3 rfl rfl, BIf.eq (fun h32 => ?_) (fun h32 => ?_)⟩
    · rw [if_pos (by omega)] at hstep
      rw [hstep]
      exact retE h 1 rfl rfl (fun w2 h => ⟨rfl, t, (((h.dropAt 2).dropAt 1).dropAt 0)⟩)
    rw [if_neg (by omega)] at hstep
    have hff : forkF l x = [] ++ l.take (gapQ l 0) ++ [child (gapQ l 0) x] ++ l.drop (gapQ l 0) := by unfold forkF; simp
    rw [hff] at hstep
    refine LoopW.m1 (fun (i' : Int) w' => ∃ m : Nat, i' = m ∧ m ≤ gapQ l 0 ∧ SH w0 w' (BP pb (q.add (i * 10)) :: aB rb ((rs3 0 0 0).map Ce.v) :: BO ob k id to_ n :: BS b t :: RP t l :: F)) (fun (i' : Int) _ => (40 - i').toNat) ⟨0, rfl, by omega, h⟩ ?_
    clear h
    rintro (i' : Int) w67 ⟨m, rfl, hmg, h⟩ J hJ
    rw [w64 (n := (m : Int) + 1) (by omega) (by omega)]
    refine ⟨_, rfl, t, h.cellP 3 rfl rfl, ?_⟩
    refine JoinW.cut1 (fun (c : Bool) w' => c = decide (m < gapQ l 0) ∧ w' = w67) ?_ ?_
    · refine BIf.dec (fun hlt => ?_) (fun hge => ⟨(decide_eq_false (by omega)).symm, rfl⟩)
      have hget : l[m]? = some l[m] := List.getElem?_eq_getElem (by omega)
      simp only [Int.toNat_natCast]
      refine ⟨_, rfl, t, h.cellP 3 rfl rfl, by omega, by omega, q, hqa, _, h.rdR 4 rfl hqa hget rfl, ?_, trivial⟩
      by_cases hm2 : m < gapQ l 0
      · rw [decide_eq_true hm2, q2 m _ hm2 hget]; simp
      · have := q3 m _ (by omega) hget
        rw [decide_eq_false hm2]
        simp; omega
    rintro (c : Bool) w72 ⟨rfl, rfl⟩
    refine BIf.dec (fun hc => hJ _ _ ⟨m + 1, by omega, by omega, h⟩ (by omega)) (fun hc => ?_)
    clear hJ J
    obtain rfl : m = gapQ l 0 := by omega
    generalize gapQ l 0 = m at *
    simp only [Int.toNat_natCast]
    refine ⟨_, h.cell 0 rfl rfl, _, rfl, _, h.rdR 4 rfl hqa g2 rfl, _, h.rdR 4 rfl hqa g2 rfl, _, h.rdR 4 rfl hqa g2 rfl, _, h.rdR 4 rfl hqa g2 rfl, _, h.rdR 4 rfl hqa g2 rfl, _, h.rdR 4 rfl hqa g2 rfl, _, h.rdR 4 rfl hqa g2 rfl, _, h.rdR 4 rfl hqa g2 rfl, _, h.rdR 4 rfl hqa g2 rfl, _, h.rdR 4 rfl hqa g2 rfl, ?_⟩
    refine h.alloc (fun w85 h e85 n85 => ?_)
    refine h.put 0 rfl rfl rfl (fun w86 h n86 => ?_)
    have h := h.drew
    refine ⟨_, h.cell 1 rfl rfl, _, rfl, _, h.rdR 5 rfl hqa g2 rfl, ?_⟩
    refine h.setV 0 rfl rfl (fun w90 h n90 => ⟨⟨_, h.rdR 5 rfl hqa g2 rfl, rfl⟩, ⟨_, h.cell 1 rfl rfl, rfl⟩, ?_⟩)
    refine h.setV 0 rfl rfl (fun w93 h n93 => ?_)
    refine h.setV 0 rfl rfl (fun w94 h n94 => ?_)
    refine h.setV 0 rfl rfl (fun w95 h n95 => ?_)
    have h : SH w0 w95 (BX w72.heap.size (child m x) :: BP pb (q.add (i * 10)) :: aB rb ((rs3 0 0 0).map Ce.v) :: BO ob k id to_ n :: BS b t :: RP t l :: F) := h
    refine ⟨_, rfl, t, h.cellP 4 rfl rfl, by omega, by omega, ?_⟩
    have hrow := h.rowR 5 rfl
    have h := SH.nil h none 10
    refine SH.appendR (f := DProc.cells) (l := []) (us := l.take m) h (hrow.pre (fun _ => rfl) (by omega)) (by simp; omega) (fun _ => rfl) rfl rfl (by decide) (by show (_ + _) * 80 ≤ _; simp; omega) plain_pr (fun l98 w99 h hl98 _ => ?_)
    have h := h.drew
    refine ⟨_, h.cell 1 rfl rfl, _, h.cell 1 rfl rfl, _, h.cell 1 rfl rfl, _, h.cell 1 rfl rfl, _, h.cell 1 rfl rfl, _, h.cell 1 rfl rfl, _, h.cell 1 rfl rfl, _, h.cell 1 rfl rfl, _, h.cell 1 rfl rfl, _, h.cell 1 rfl rfl, _, rfl, t, h.cellP 5 rfl rfl, by omega, by omega, ?_⟩
    refine LetW_iff.2 ?_
    have hfact := (h.to (ext_alloc w99.drew (.cells ⟨(child m x).cells⟩ 100))).cellP 5 (i := 0) rfl rfl
    refine ⟨⟨t, hfact, rfl⟩, ?_⟩
    refine SH.appendR1 (f := DProc.cells) (x := child m x) h rfl rfl rfl (by decide) (by show _ * 80 ≤ _; simp; omega) (plain_pr _) (fun l114 w115 h hl114 _ => ?_)
    refine ⟨⟨t, h.cellP 5 rfl rfl, rfl⟩, ?_⟩
    have hrow := h.rowR 6 rfl
    refine SH.appendR (f := DProc.cells) (us := l.drop m) h (hrow.suf (fun _ => rfl) htl htc (by omega)) (by simp; omega) (fun _ => rfl) rfl rfl (by decide) (by show (_ + _) * 80 ≤ _; simp; omega) plain_pr (fun l117 w118 h hl117 _ => ?_)
    refine ⟨_, rfl, ?_⟩
    refine h.setVP 5 rfl rfl (fun w120 h n120 => ⟨_, h.cell 1 rfl rfl, ?_⟩)
    refine h.setV 3 rfl rfl (fun w122 h n122 => ⟨l117, ?_⟩)
    rw [hstep]
    exact ((((((h.dropAt 6).dropAt 4).dropAt 2).dropAt 1).front (n := 2) rfl).front (n := 2) rfl)
  rw [if_neg hk1] at hstep
  refine BIf.eq (fun hk => ?_) (fun hk2 => ?_)
  · -- exit
    rw [if_pos hk] at hstep
    refine ⟨_, h.cell 2 rfl rfl, ?_⟩
    refine join_or_ex _ (h.cell 2 rfl rfl) ?_
    refine BIf.of (fun hb => ?_) (fun hb => ?_)
    · simp only [Bool.or_eq_true, decide_eq_true_eq] at hb
      rw [if_pos hb] at hstep
      rw [hstep]
      exact retE h 1 rfl rfl (fun w2 h => ⟨rfl, t, (((h.dropAt 2).dropAt 1).dropAt 0)⟩)
    simp only [Bool.or_eq_false_iff, decide_eq_false_iff_not] at hb
    rw [if_neg (show ¬ (n < 0 ∨ n > 255) by omega)] at hstep
    refine ⟨_, h.cell 2 rfl rfl, BIf.eq (fun h1 => ?_) (fun h1 => ?_)⟩
    · rw [if_pos h1] at hstep
      rw [hstep]
      exact retE h 1 rfl rfl (fun w2 h => ⟨rfl, t, (((h.dropAt 2).dropAt 1).dropAt 0)⟩)
    rw [if_neg h1] at hstep
    refine ⟨_, h.cell 2 rfl rfl, _, h.cell 2 rfl rfl, ?_⟩
    have key := s138 (status := n) ((h.front (n := 4) rfl).front (n := 4) rfl) hv g2 (by omega) (by omega)
    rw [hxid] at key
    refine key.mono ?_
    rintro _ w153 ⟨rfl, t2, h⟩
    refine ⟨rfl, t2, ?_⟩
    rw [hstep]
    exact (((h.dropAt 4).dropAt 2).front (n := 2) rfl)
  rw [if_neg hk2] at hstep
  refine BIf.eq (fun hk => ?_) (fun hk3 => ?_)
  · -- wait
    rw [if_pos hk] at hstep
    refine ⟨_, rfl, t, h.cellP 3 rfl rfl, ?_⟩
    refine LoopW.m2 (fun (b3 : Bool) (i' : Int) w' => ∃ m : Nat, i' = m ∧ m ≤ l.length ∧ b3 = (l.take m).any (fun y => y.Parent == x.Id && meant x to_ y) ∧ (∀ y, y ∈ l.take m → (y.Parent == x.Id && meant x to_ y && y.State == 3) = false) ∧ SH w0 w' (BP pb (q.add (i * 10)) :: aB rb ((rs3 0 0 0).map Ce.v) :: BO ob k id to_ n :: BS b t :: RP t l :: F)) (fun _ (i' : Int) _ => (l.length - i').toNat) ⟨0, rfl, by omega, rfl, (fun y hy => by simp at hy), h⟩ ?_
    clear h
    rintro (b3 : Bool) (i' : Int) w160 ⟨m, rfl, hm, rfl, hall, h⟩ J hJ
    refine BIf.dec (fun hlt => ?_) (fun hge => ?_)
    · have hget : l[m]? = some l[m] := List.getElem?_eq_getElem (by omega)
      have hstp := any_step (fun y : DProc => y.Parent == x.Id && meant x to_ y) hget
      have hmem : ∀ z, z ∈ l.take (m + 1) → z ∈ l.take m ∨ z = l[m] := fun z hz => by
        rw [List.take_add_one, hget] at hz
        rcases List.mem_append.1 hz with hz | hz
        · exact .inl hz
        · exact .inr (by simpa using hz)
      generalize l[m] = y at *
      simp only [Int.toNat_natCast]
      rw [w64 (n := (m : Int) + 1) (by omega) (by omega)]
      refine ⟨by omega, by omega, q, hqa, _, h.rdR 4 rfl hqa hget rfl, _, h.rdR 4 rfl hqa hget rfl, _, h.rdR 4 rfl hqa hget rfl, _, h.rdR 4 rfl hqa hget rfl, _, h.rdR 4 rfl hqa hget rfl, _, h.rdR 4 rfl hqa hget rfl, _, h.rdR 4 rfl hqa hget rfl, _, h.rdR 4 rfl hqa hget rfl, _, h.rdR 4 rfl hqa hget rfl, _, h.rdR 4 rfl hqa hget rfl, ?_⟩
      refine h.alloc (fun w172 h e172 n172 => ?_)
      refine h.put 0 rfl rfl rfl (fun w173 h n173 => ?_)
      refine ⟨_, h.cell 0 rfl rfl, _, h.cell 3 rfl rfl, ?_⟩
      refine JoinW.cut1 (fun (c : Bool) w' => c = !(y.Parent == x.Id && meant x to_ y) ∧ SH w0 w' (BX w160.heap.size y :: BP pb (q.add (i * 10)) :: aB rb ((rs3 0 0 0).map Ce.v) :: BO ob k id to_ n :: BS b t :: RP t l :: F)) ?_ ?_
      · refine BIf.ne (fun hne => ⟨?_, h⟩) (fun heq => ?_)
        · rw [show (y.Parent == x.Id) = false by rw [hxid]; simpa using hne]; rfl
        · refine ⟨_, h.cell 0 rfl rfl, _, h.cell 0 rfl rfl, _, h.cell 0 rfl rfl, _, h.cell 0 rfl rfl, _, h.cell 0 rfl rfl, _, h.cell 0 rfl rfl, _, h.cell 0 rfl rfl, _, h.cell 0 rfl rfl, _, h.cell 0 rfl rfl, _, h.cell 0 rfl rfl, (c137 (y := y) (me := x) (h.cellP 3 rfl rfl) (h.cell 1 rfl rfl) (h.rdR 5 rfl hqa g2 rfl)).mono ?_⟩
          rintro _ w200 ⟨rfl, e200⟩
          refine ⟨_, rfl, ?_, h.to e200⟩
          rw [show (y.Parent == x.Id) = true by rw [hxid]; simpa using heq]; rfl
      clear h
      rintro (c : Bool) w178 ⟨rfl, h⟩
      refine BIf.not (BIf.of (fun hyes => ?_) (fun hno => ?_))
      · refine ⟨_, h.cell 0 rfl rfl, BIf.eq (fun hst => ?_) (fun hst => ?_)⟩
        · have hres : waitR l x to_ = (l.filter (fun u => u.Id != y.Id), 0, y.Id, y.Status) := by
            unfold waitR
            have hf : l.find? (fun x_1 => x_1.Parent == x.Id && meant x to_ x_1 && x_1.State == 3) = some y := by
              rw [← List.take_append_drop m l, List.find?_append, List.find?_eq_none.2 (fun z hz => by rw [hall z hz]; decide), List.drop_eq_getElem_cons (by omega : m < l.length)]
              have : l[m] = y := (List.getElem?_eq_some_iff.1 hget).2
              rw [this, Option.none_or, List.find?_cons_of_pos]
              rw [hyes, hst]; rfl
            rw [hf]
          rw [hres] at hstep
          refine ⟨_, h.cell 0 rfl rfl, (s139 (id := y.Id) ((h.front (n := 5) rfl).front (n := 5) rfl) (by omega)).mono ?_⟩
          rintro _ w182 ⟨rfl, t2, h⟩
          refine ⟨rfl, _, h.cell 2 rfl rfl, _, h.cell 2 rfl rfl, ?_⟩
          rw [hstep]
          exact retV3 h 4 rfl rfl (fun w2 h => ⟨rfl, t2, ((((h.dropAt 5).dropAt 4).dropAt 3).dropAt 2)⟩)
        · refine hJ _ _ _ ⟨m + 1, by omega, by omega, by rw [hstp, hyes, Bool.or_true], fun z hz => ?_, h.drop⟩ (by omega)
          rcases hmem z hz with hz | rfl
          · exact hall z hz
          · rw [hyes]; simpa using hst
      · refine hJ _ _ _ ⟨m + 1, by omega, by omega, by rw [hstp, hno, Bool.or_false], fun z hz => ?_, h.drop⟩ (by omega)
        rcases hmem z hz with hz | rfl
        · exact hall z hz
        · rw [hno]; rfl
    · have hmm : m = l.length := by omega
      subst hmm
      simp only [List.take_length] at *
      have hres : waitR l x to_ = if l.any (fun y => y.Parent == x.Id && meant x to_ y) = true then (l, 9, 0, 0) else (l, 11, 0, 0) := by
        unfold waitR
        rw [List.find?_eq_none.2 (fun z hz => by rw [hall z hz]; decide)]
      rw [hres] at hstep
      refine BIf.not (BIf.of (fun ht => ?_) (fun hf => ?_))
      · rw [if_pos ht] at hstep
        rw [hstep]
        exact retE h 1 rfl rfl (fun w2 h => ⟨rfl, t, (((h.dropAt 2).dropAt 1).dropAt 0)⟩)
      · rw [if_neg (by rw [hf]; decide)] at hstep
        rw [hstep]
        exact retE h 1 rfl rfl (fun w2 h => ⟨rfl, t, (((h.dropAt 2).dropAt 1).dropAt 0)⟩)
  rw [if_neg hk3] at hstep
  refine BIf.eq (fun hk => ?_) (fun hk4 => ?_)
  · -- kill
    rw [if_pos hk] at hstep
    refine ⟨_, h.cell 2 rfl rfl, ?_⟩
    refine join_or_ex _ (h.cell 2 rfl rfl) ?_
    refine BIf.of (fun hb => ?_) (fun hb => ?_)
    · simp only [Bool.or_eq_true, decide_eq_true_eq] at hb
      have hres : killR l x to_ n = (l, 1, 0, 0) := by unfold killR; rw [if_pos hb]
      rw [hres] at hstep
      rw [hstep]
      exact retE h 1 rfl rfl (fun w2 h => ⟨rfl, t, (((h.dropAt 2).dropAt 1).dropAt 0)⟩)
    simp only [Bool.or_eq_false_iff, decide_eq_false_iff_not] at hb
    have hb : ¬ (n < 0 ∨ n > 15) := by omega
    obtain ⟨sg, rfl⟩ := Int.eq_ofNat_of_zero_le (show 0 ≤ n by omega)
    refine ⟨_, rfl, t, h.cellP 3 rfl rfl, ?_⟩
    have h : SH w0 w21 (aRow ⟨none, 0, 0⟩ 1 (recs intC (((l.take 0).filter (hit x to_)).map DProc.Id)) :: BP pb (q.add (i * 10)) :: aB rb ((rs3 0 0 0).map Ce.v) :: BO ob k id to_ sg :: BS b t :: RP t l :: F) := SH.nil h none 1
    refine LoopW.m3 (fun (b3 : Bool) (s : Sl) (i' : Int) w' => ∃ m : Nat, i' = m ∧ m ≤ l.length ∧ b3 = (l.take m).any (aimed x to_) ∧ SH w0 w' (aRow s 1 (recs intC (((l.take m).filter (hit x to_)).map DProc.Id)) :: BP pb (q.add (i * 10)) :: aB rb ((rs3 0 0 0).map Ce.v) :: BO ob k id to_ sg :: BS b t :: RP t l :: F)) (fun _ _ (i' : Int) _ => (l.length - i').toNat) ⟨0, rfl, by omega, rfl, h⟩ ?_
    clear h
    rintro (b3 : Bool) (s : Sl) (i' : Int) w239 ⟨m, rfl, hm, rfl, h⟩ J hJ
    refine BIf.dec (fun hlt => ?_) (fun hge => ?_)
    · have hget : l[m]? = some l[m] := List.getElem?_eq_getElem (by omega)
      have hstp := any_step (aimed x to_) hget
      have hfs := filter_step (hit x to_) hget
      have hcl : ((l.take m).filter (hit x to_)).length ≤ 32 := by
        have := List.length_filter_le (hit x to_) (l.take m)
        rw [List.length_take] at this
        omega
      generalize l[m] = y at *
      simp only [Int.toNat_natCast]
      rw [w64 (n := (m : Int) + 1) (by omega) (by omega)]
      refine ⟨by omega, by omega, q, hqa, _, h.rdR 5 rfl hqa hget rfl, _, h.rdR 5 rfl hqa hget rfl, _, h.rdR 5 rfl hqa hget rfl, _, h.rdR 5 rfl hqa hget rfl, _, h.rdR 5 rfl hqa hget rfl, _, h.rdR 5 rfl hqa hget rfl, _, h.rdR 5 rfl hqa hget rfl, _, h.rdR 5 rfl hqa hget rfl, _, h.rdR 5 rfl hqa hget rfl, _, h.rdR 5 rfl hqa hget rfl, ?_⟩
      refine h.alloc (fun w251 h e251 n251 => ?_)
      refine h.put 0 rfl rfl rfl (fun w252 h n252 => ?_)
      refine ⟨_, h.cell 0 rfl rfl, _, h.cell 0 rfl rfl, _, h.cell 0 rfl rfl, _, h.cell 0 rfl rfl, _, h.cell 0 rfl rfl, _, h.cell 0 rfl rfl, _, h.cell 0 rfl rfl, _, h.cell 0 rfl rfl, _, h.cell 0 rfl rfl, _, h.cell 0 rfl rfl, (c137 (y := y) (me := x) (h.cellP 4 rfl rfl) (h.cell 2 rfl rfl) (h.rdR 6 rfl hqa g2 rfl)).mono ?_⟩
      rintro _ w264 ⟨rfl, e264⟩
      have h := h.to e264
      refine ⟨_, rfl, JoinW.cut1 (fun (c : Bool) w' => c = !(aimed x to_ y) ∧ w' = w264) ?_ ?_⟩
      · unfold aimed
        refine BIf.not (BIf.of (fun hmt => ⟨_, h.cell 4 rfl rfl, BIf.of (fun hm1 => ?_) (fun hm1 => ?_)⟩) (fun hmt => ⟨?_, rfl⟩))
        · rw [hmt, hm1, hxid]
          refine ⟨_, h.cell 0 rfl rfl, BIf.of (fun hi1 => ?_) (fun hi1 => ⟨_, h.cell 0 rfl rfl, _, h.cell 4 rfl rfl, ?_, rfl⟩)⟩
          · rw [hi1]; exact ⟨rfl, rfl⟩
          · rw [hi1]; simp
        · rw [hmt, hm1]; exact ⟨rfl, rfl⟩
        · rw [hmt]; rfl
      rintro (c : Bool) w268 ⟨rfl, rfl⟩
      refine BIf.not (BIf.of (fun ha => ?_) (fun ha => ?_))
      · rw [ha, Bool.or_true] at hstp
        have h := h.drew
        refine JoinW.cut1 (fun (c : Bool) w' => c = mayK x y ∧ w' = w268.drew) ?_ ?_
        · unfold mayK
          refine ⟨_, h.cell 2 rfl rfl, _, rfl, _, h.rdR 6 rfl hqa g2 rfl, BIf.of (fun hu => ⟨?_, rfl⟩) (fun hu => ⟨_, h.cell 2 rfl rfl, _, rfl, _, h.rdR 6 rfl hqa g2 rfl, _, h.cell 0 rfl rfl, ?_, rfl⟩)⟩
          · rw [hu]; rfl
          · rw [hu]; rfl
        rintro (c4 : Bool) w271 ⟨rfl, rfl⟩
        refine BIf.of (fun hk => ?_) (fun hk => ?_)
        · have hh : hit x to_ y = true := by unfold hit; rw [ha, hk]; rfl
          rw [if_pos hh] at hfs
          refine ⟨_, h.cell 0 rfl rfl, ?_⟩
          refine LetW_iff.2 (SH.appendR1 (f := intC) (x := y.Id) h.drop rfl rfl rfl (by decide) (by show _ * 8 ≤ _; rw [List.length_map]; omega) (plain_int _) (fun l274 w275 h hl274 _ => ?_))
          refine hJ _ _ _ _ ⟨m + 1, by omega, by omega, hstp.symm, ?_⟩ (by omega)
          rw [hfs, List.map_append]
          exact h
        · have hh : ¬ hit x to_ y = true := by unfold hit; rw [hk]; simp
          rw [if_neg hh, List.append_nil] at hfs
          exact hJ _ _ _ _ ⟨m + 1, by omega, by omega, hstp.symm, by rw [hfs]; exact h.drop⟩ (by omega)
      · have hh : ¬ hit x to_ y = true := by unfold hit; rw [ha]; simp
        rw [if_neg hh, List.append_nil] at hfs
        exact hJ _ _ _ _ ⟨m + 1, by omega, by omega, by rw [hstp, ha, Bool.or_false], by rw [hfs]; exact h.drop⟩ (by omega)
    · have hmm : m = l.length := by omega
      subst hmm
      clear hJ J
      simp only [List.take_length] at *
      have hsl := h.len 0 rfl
      rw [recs_len, List.length_map] at hsl
      have hcl := List.length_filter_le (hit x to_) l
      unfold killR at hstep
      rw [if_neg hb] at hstep
      refine BIf.not (BIf.of (fun ha => ?_) (fun ha => ?_))
      · rw [if_neg (show ¬ l.any (aimed x to_) = false by rw [ha]; decide)] at hstep
        refine BIf.eq (fun h0 => ?_) (fun h0 => ?_)
        · rw [if_pos (by omega)] at hstep
          rw [hstep]
          exact retE h 2 rfl rfl (fun w2 h => ⟨rfl, t, ((((h.dropAt 3).dropAt 2).dropAt 1).dropAt 0)⟩)
        · rw [if_neg (by omega)] at hstep
          have hidl : ((l.filter (hit x to_)).map DProc.Id).length ≤ 32 := by rw [List.length_map]; omega
          refine JoinW.cut0 (fun w' => SH w0 w' (BS b t :: RP t (if (sg : Int) > 0 then l.map (killX x to_ sg) else l) :: aRow s 1 (recs intC ((l.filter (hit x to_)).map DProc.Id)) :: BP pb (q.add (i * 10)) :: aB rb ((rs3 0 0 0).map Ce.v) :: BO ob k id to_ sg :: F)) ?_ ?_
          · have h : SH w0 w239 (BS b t :: RP t l :: aRow s 1 (recs intC ((l.filter (hit x to_)).map DProc.Id)) :: BP pb (q.add (i * 10)) :: aB rb ((rs3 0 0 0).map Ce.v) :: BO ob k id to_ sg :: F) := (h.front (n := 5) rfl).front (n := 5) rfl
            refine ⟨_, h.cell 5 rfl rfl, BIf.dec (fun hp => ?_) (fun hp => ?_)⟩
            · rw [if_pos hp]
              have h : SH w0 w239 (BS b t :: RP t (sendS sg (((l.filter (hit x to_)).map DProc.Id).take 0) l) :: aRow s 1 (recs intC ((l.filter (hit x to_)).map DProc.Id)) :: BP pb (q.add (i * 10)) :: aB rb ((rs3 0 0 0).map Ce.v) :: BO ob k id to_ sg :: F) := by
                rw [List.take_zero, sendS_nil]; exact h
              refine LoopW.m1 (fun (i' : Int) w' => ∃ m : Nat, i' = m ∧ m ≤ ((l.filter (hit x to_)).map DProc.Id).length ∧ SH w0 w' (BS b t :: RP t (sendS sg (((l.filter (hit x to_)).map DProc.Id).take m) l) :: aRow s 1 (recs intC ((l.filter (hit x to_)).map DProc.Id)) :: BP pb (q.add (i * 10)) :: aB rb ((rs3 0 0 0).map Ce.v) :: BO ob k id to_ sg :: F)) (fun (i' : Int) _ => (((l.filter (hit x to_)).map DProc.Id).length - i').toNat) ⟨0, rfl, by omega, h⟩ ?_
              clear h
              rintro (i' : Int) w311 ⟨m, rfl, hm2, h⟩ J hJ
              refine BIf.dec (fun hlt => ?_) (fun hge => ?_)
              · have hml : m < ((l.filter (hit x to_)).map DProc.Id).length := by rw [List.length_map]; omega
                have hget : ((l.filter (hit x to_)).map DProc.Id)[m]? = some ((l.filter (hit x to_)).map DProc.Id)[m] := List.getElem?_eq_getElem hml
                obtain ⟨r', hra⟩ := h.rowQ 2 rfl hget
                have htk : ((l.filter (hit x to_)).map DProc.Id).take (m + 1) = ((l.filter (hit x to_)).map DProc.Id).take m ++ [((l.filter (hit x to_)).map DProc.Id)[m]] := by rw [List.take_add_one, hget]; rfl
                have hnot : ((l.filter (hit x to_)).map DProc.Id)[m] ∉ ((l.filter (hit x to_)).map DProc.Id).take m := fun hmem => by
                  obtain ⟨j, hj⟩ := List.getElem?_of_mem hmem
                  have hjm : j < m := by have := (List.getElem?_eq_some_iff.1 hj).1; rw [List.length_take] at this; omega
                  rw [List.getElem?_take_of_lt hjm] at hj
                  obtain ⟨hj1, hj2⟩ := List.getElem?_eq_some_iff.1 hj
                  exact List.pairwise_iff_getElem.1 (hits_nodup hv (hit x to_)) j m hj1 hml hjm hj2
                have hzin : ∃ z, z ∈ l ∧ z.Id = ((l.filter (hit x to_)).map DProc.Id)[m] := by
                  obtain ⟨z, hz, he⟩ := List.mem_map.1 (List.mem_of_getElem? hget)
                  exact ⟨z, (List.mem_filter.1 hz).1, he⟩
                have hgr := h.rdR 2 rfl hra hget rfl (j := 0)
                generalize ((l.filter (hit x to_)).map DProc.Id)[m] = zid at *
                obtain ⟨z, hzl, hzid⟩ := hzin
                obtain ⟨j, hj⟩ := List.getElem?_of_mem hzl
                rw [← hzid] at hnot htk
                obtain ⟨hs1, hs2⟩ := sendS_step hv (sg := sg) hj hnot
                have hsinv := sendS_sim hv (sg := sg) (by omega) (by omega) (((l.filter (hit x to_)).map DProc.Id).take m)
                have hslen : (sendS sg (((l.filter (hit x to_)).map DProc.Id).take m) l).length = l.length := by unfold sendS; rw [List.length_map]
                simp only [Int.toNat_natCast]
                rw [w64 (n := (m : Int) + 1) (by omega) (by omega)]
                refine ⟨by omega, by omega, r', hra, _, hgr, _, h.cell 5 rfl rfl, ?_⟩
                have key := s140 (sig := sg) h hs1 (hsinv.ix hs1).1 (hv.ok z hzl) (by omega) (by omega) (by omega)
                rw [hzid] at key
                refine key.mono ?_
                rintro _ w316 ⟨rfl, h⟩
                rw [hs2, ← htk] at h
                exact ⟨rfl, hJ _ _ ⟨m + 1, by omega, by omega, h⟩ (by omega)⟩
              · rw [List.take_of_length_le (by rw [List.length_map] at *; omega), sendS_all hv hp] at h
                exact h
            · rw [if_neg hp]
              exact h
          · clear h
            intro w306 h
            refine h.setV 4 rfl rfl (fun w307 h n307 => ⟨t, ?_⟩)
            have hfin : r = ((if (sg : Int) > 0 then l.map (killX x to_ sg) else l, 0, (((l.filter (hit x to_)).length : Nat) : Int), 0) : PRes) := by
              rw [hstep]
              by_cases hp : (sg : Int) > 0
              · rw [if_pos hp, if_pos hp]
                congr 1
                refine List.map_congr_left (fun y hy => ?_)
                unfold killX
                by_cases h4 : hit x to_ y = true
                · rw [if_pos h4, if_pos ⟨hp, h4⟩]
                · rw [if_neg h4, if_neg (fun hh => h4 hh.2)]
              · rw [if_neg hp, if_neg hp]
            rw [hfin]
            rw [hsl] at h
            exact (((h.dropAt 5).dropAt 3).dropAt 2).front (n := 2) rfl
      · rw [if_pos ha] at hstep
        rw [hstep]
        exact retE h 2 rfl rfl (fun w2 h => ⟨rfl, t, ((((h.dropAt 3).dropAt 2).dropAt 1).dropAt 0)⟩)
  rw [if_neg hk4] at hstep
  refine BIf.eq (fun hk => ?_) (fun hk5 => ?_)
  · -- mask
    rw [if_pos hk] at hstep
    unfold maskR at hstep
    refine ⟨_, h.cell 2 rfl rfl, BIf.ne (fun hne => ?_) (fun heq => ?_)⟩
    · rw [if_neg (fun hh => hne ((vs_mask hto.1 hto.2).2 hh))] at hstep
      rw [hstep]
      exact retE h 1 rfl rfl (fun w2 h => ⟨rfl, t, (((h.dropAt 2).dropAt 1).dropAt 0)⟩)
    · have hvs := (vs_mask hto.1 hto.2).1 heq
      rw [if_pos hvs] at hstep
      refine ⟨_, h.cell 0 rfl rfl, _, rfl, _, h.rdR 4 rfl hqa g2 rfl, ?_⟩
      refine h.setV 1 rfl rfl (fun w331 h n331 => ⟨_, h.cell 0 rfl rfl, _, h.cell 2 rfl rfl, _, rfl, ?_⟩)
      rw [set_at g2] at h
      refine h.setR 4 (⟨x.Id, x.Parent, x.Group, x.User, x.State, x.Status, x.Pending, lessS (lessS to_ 9) 12, x.Ignored, x.Caught⟩ : DProc) rfl hqa hil (by show 7 < 10; omega) (by rw [mask_hard hvs]; rfl) (fun w335 h n335 => ⟨t, ?_⟩)
      rw [hstep]
      exact ((h.dropAt 2).dropAt 0)
  rw [if_neg hk5] at hstep
  refine BIf.eq (fun hk => ?_) (fun hk6 => ?_)
  · -- action
    rw [if_pos hk] at hstep
    refine ⟨_, h.cell 2 rfl rfl, ?_⟩
    refine join_or_ex _ (h.cell 2 rfl rfl) ?_
    refine join_or_ex _ (h.cell 2 rfl rfl) ?_
    refine join_or_ex _ (h.cell 2 rfl rfl) ?_
    refine join_or_ex _ (h.cell 2 rfl rfl) ?_
    refine join_or_ex _ (h.cell 2 rfl rfl) ?_
    refine BIf.of (fun hb => ?_) (fun hb => ?_)
    · simp only [Bool.or_eq_true, decide_eq_true_eq, beq_iff_eq] at hb
      have hres : actR l i x to_ n = (l, 1, 0, 0) := by unfold actR; rw [if_pos (by omega)]
      rw [hres] at hstep
      rw [hstep]
      exact retE h 1 rfl rfl (fun w2 h => ⟨rfl, t, (((h.dropAt 2).dropAt 1).dropAt 0)⟩)
    simp only [Bool.or_eq_false_iff, decide_eq_false_iff_not, beq_eq_false_iff_ne] at hb
    obtain ⟨sg, rfl⟩ := Int.eq_ofNat_of_zero_le (show 0 ≤ to_ by omega)
    have hres : actR l i x sg n = (l.set i (actX x sg n), 0, 0, 0) := by unfold actR; rw [if_neg (by omega), Int.toNat_natCast]
    rw [hres] at hstep
    have i0 := VS.small ho.ign.1
    have c0 := VS.small ho.cau.1
    have p0 := VS.small ho.pend
    have i1 := (SS.less ho.ign (i := sg) (by omega)).1
    have c1 := (SS.less ho.cau (i := sg) (by omega)).1
    refine ⟨_, h.cell 2 rfl rfl, by omega, _, h.cell 0 rfl rfl, _, rfl, _, h.rdR 4 rfl hqa g2 rfl, _, rfl, ?_⟩
    rw [shlI_one (by omega)]
    rw [set_at g2] at h
    refine h.setR 4 (⟨x.Id, x.Parent, x.Group, x.User, x.State, x.Status, x.Pending, x.Mask, lessS x.Ignored sg, x.Caught⟩ : DProc) rfl hqa hil (by show 8 < 10; omega) (by rw [less_bit i0.1 i0.2 (by omega)]; rfl) (fun w366 h n366 => ?_)
    have hx2 : (l.set i (⟨x.Id, x.Parent, x.Group, x.User, x.State, x.Status, x.Pending, x.Mask, lessS x.Ignored sg, x.Caught⟩ : DProc))[i]? = some ⟨x.Id, x.Parent, x.Group, x.User, x.State, x.Status, x.Pending, x.Mask, lessS x.Ignored sg, x.Caught⟩ := List.getElem?_set_self hil
    refine ⟨_, h.cell 0 rfl rfl, _, rfl, _, h.rdR 4 rfl hqa hx2 rfl, _, rfl, ?_⟩
    refine h.setR 4 (⟨x.Id, x.Parent, x.Group, x.User, x.State, x.Status, x.Pending, x.Mask, lessS x.Ignored sg, lessS x.Caught sg⟩ : DProc) rfl hqa hil (by show 9 < 10; omega) (by rw [less_bit c0.1 c0.2 (by omega)]; rfl) (fun w371 h n371 => ?_)
    have hx3 : (l.set i (⟨x.Id, x.Parent, x.Group, x.User, x.State, x.Status, x.Pending, x.Mask, lessS x.Ignored sg, lessS x.Caught sg⟩ : DProc))[i]? = some ⟨x.Id, x.Parent, x.Group, x.User, x.State, x.Status, x.Pending, x.Mask, lessS x.Ignored sg, lessS x.Caught sg⟩ := List.getElem?_set_self hil
    refine ⟨_, h.cell 2 rfl rfl, BIf.eq (fun h1 => ?_) (fun h1 => ?_)⟩
    · have he : actX x sg n = ⟨x.Id, x.Parent, x.Group, x.User, x.State, x.Status, lessS x.Pending sg, x.Mask, withS (lessS x.Ignored sg) sg, lessS x.Caught sg⟩ := by unfold actX; rw [if_pos h1, if_pos h1, if_neg (show ¬ n = 2 by omega)]
      rw [he] at hstep
      refine ⟨_, h.cell 0 rfl rfl, _, rfl, _, h.rdR 4 rfl hqa hx3 rfl, _, rfl, ?_⟩
      refine h.setR 4 (⟨x.Id, x.Parent, x.Group, x.User, x.State, x.Status, x.Pending, x.Mask, withS (lessS x.Ignored sg) sg, lessS x.Caught sg⟩ : DProc) rfl hqa hil (by show 8 < 10; omega) (by rw [with_bit i1.1 (by have := i1.2.1; omega) (by omega)]; rfl) (fun w377 h n377 => ?_)
      have hx4 : (l.set i (⟨x.Id, x.Parent, x.Group, x.User, x.State, x.Status, x.Pending, x.Mask, withS (lessS x.Ignored sg) sg, lessS x.Caught sg⟩ : DProc))[i]? = some ⟨x.Id, x.Parent, x.Group, x.User, x.State, x.Status, x.Pending, x.Mask, withS (lessS x.Ignored sg) sg, lessS x.Caught sg⟩ := List.getElem?_set_self hil
      refine ⟨_, h.cell 0 rfl rfl, _, rfl, _, h.rdR 4 rfl hqa hx4 rfl, _, rfl, ?_⟩
      refine h.setR 4 (⟨x.Id, x.Parent, x.Group, x.User, x.State, x.Status, lessS x.Pending sg, x.Mask, withS (lessS x.Ignored sg) sg, lessS x.Caught sg⟩ : DProc) rfl hqa hil (by show 6 < 10; omega) (by rw [less_bit p0.1 p0.2 (by omega)]; rfl) (fun w382 h n382 => ⟨t, ?_⟩)
      rw [hstep]
      exact ((h.dropAt 2).dropAt 0)
    · refine BIf.eq (fun h2 => ?_) (fun h2 => ?_)
      · have he : actX x sg n = ⟨x.Id, x.Parent, x.Group, x.User, x.State, x.Status, x.Pending, x.Mask, lessS x.Ignored sg, withS (lessS x.Caught sg) sg⟩ := by unfold actX; rw [if_neg h1, if_neg h1, if_pos h2]
        rw [he] at hstep
        refine ⟨_, h.cell 0 rfl rfl, _, rfl, _, h.rdR 4 rfl hqa hx3 rfl, _, rfl, ?_⟩
        refine h.setR 4 (⟨x.Id, x.Parent, x.Group, x.User, x.State, x.Status, x.Pending, x.Mask, lessS x.Ignored sg, withS (lessS x.Caught sg) sg⟩ : DProc) rfl hqa hil (by show 9 < 10; omega) (by rw [with_bit c1.1 (by have := c1.2.1; omega) (by omega)]; rfl) (fun w387 h n387 => ⟨t, ?_⟩)
        rw [hstep]
        exact ((h.dropAt 2).dropAt 0)
      · have he : actX x sg n = ⟨x.Id, x.Parent, x.Group, x.User, x.State, x.Status, x.Pending, x.Mask, lessS x.Ignored sg, lessS x.Caught sg⟩ := by unfold actX; rw [if_neg h1, if_neg h1, if_neg h2]
        rw [he] at hstep
        refine ⟨t, ?_⟩
        rw [hstep]
        exact ((h.dropAt 2).dropAt 0)
  rw [if_neg hk6] at hstep
  refine BIf.eq (fun hk => ?_) (fun hk7 => ?_)
  · -- take
    rw [if_pos hk] at hstep
    have hp := VS.small ho.pend
    have hmk := VS.small ho.mask.1
    have hcu := VS.small ho.cau.1
    obtain ⟨s1, s2⟩ := sigOf_le x
    have hz0 := takeS_zero ho
    have h9 := takeS_nine ho
    have hr := takeS_bits ho
    have h := h.drew
    refine ⟨_, h.cell 0 rfl rfl, _, rfl, _, h.rdR 4 rfl hqa g2 rfl, _, h.cell 0 rfl rfl, _, rfl, _, h.rdR 4 rfl hqa g2 rfl, ?_⟩
    refine JoinW.cut1 (fun (g : Int) w' => g = takeS x ∧ w' = w21.drew) ?_ ?_
    · unfold takeS
      refine ⟨_, h.cell 0 rfl rfl, _, rfl, _, h.rdR 4 rfl hqa g2 rfl, BIf.eq (fun h2 => ?_) (fun h2 => ?_)⟩
      · rw [if_pos h2]; exact ⟨rfl, rfl⟩
      · rw [if_neg h2]; exact ⟨rfl, rfl⟩
    rintro (g : Int) w401 ⟨rfl, rfl⟩
    have htr : 0 ≤ takeS x ∧ takeS x ≤ 65535 := (hr 0).2
    unfold takeR at hstep
    refine BIf.eq (fun h0 => ?_) (fun h0 => ?_)
    · rw [if_pos (hz0.1 h0)] at hstep
      rw [hstep]
      exact retE h 1 rfl rfl (fun w2 h => ⟨rfl, t, (((h.dropAt 2).dropAt 1).dropAt 0)⟩)
    have hs0 : ¬ sigOf x = 0 := fun e => h0 (hz0.2 e)
    rw [if_neg hs0] at hstep
    refine JoinW.cut1 (fun (g : Int) w' => g = (sigOf x : Nat) ∧ w' = w21.drew) ?_ ?_
    · refine ⟨by decide, ?_⟩
      rw [show (9 : Int) = ((9 : Nat) : Int) from rfl, has_one htr.1 (by omega) (by omega), h9]
      rcases h9p : hasS x.Pending 9 with _ | _
      · refine BIf.t rfl ?_
        have hne2 : ¬ x.State = 2 := fun e => by
          refine hs0 ?_
          unfold sigOf
          rw [if_neg (by rw [h9p]; decide), if_pos e]
        have hsig : sigOf x = leastS x 15 1 := by
          unfold sigOf
          rw [if_neg (by rw [h9p]; decide), if_neg hne2]
        refine LoopW.m1 (fun (i' : Int) w' => ∃ m : Nat, i' = m ∧ 1 ≤ m ∧ m ≤ 16 ∧ leastS x (16 - m) m = sigOf x ∧ w' = w21.drew) (fun (i' : Int) _ => (16 - i').toNat) ⟨1, rfl, by omega, by omega, hsig.symm, rfl⟩ ?_
        rintro (i' : Int) w442 ⟨m, rfl, hm1, hm2, hle, rfl⟩ J hJ
        have hm3 : m ≠ 16 := fun e => by subst e; exact hs0 hle.symm
        rw [has_one htr.1 (by omega) (by omega), (hr m).1, show (x.State != 2) = true by simpa using hne2, Bool.true_or, Bool.and_true]
        rw [show 16 - m = (16 - (m + 1)) + 1 by omega] at hle
        unfold leastS at hle
        refine ⟨by omega, ?_⟩
        rcases hpm : (hasS x.Pending m && !hasS x.Mask m) with _ | _
        · rw [if_neg (fun hh => by rw [hh.1, hh.2] at hpm; cases hpm)] at hle
          refine BIf.t rfl ?_
          rw [w64 (by omega) (by omega)]
          exact hJ _ _ ⟨m + 1, by omega, by omega, by omega, hle, rfl⟩ (by omega)
        · rw [Bool.and_eq_true] at hpm
          rw [if_pos ⟨hpm.1, by simpa using hpm.2⟩] at hle
          exact BIf.f rfl ⟨by rw [hle], rfl⟩
      · refine BIf.f rfl ⟨?_, rfl⟩
        unfold sigOf
        rw [if_pos h9p]
    rintro (g : Int) w413 ⟨rfl, rfl⟩
    have h := h.drew
    have hl1 : VS (lessS x.Pending (sigOf x)) := VS.less ho.pend (by omega)
    generalize sigOf x = sg at *
    refine ⟨_, h.cell 0 rfl rfl, _, rfl, _, h.rdR 4 rfl hqa g2 rfl, by omega, _, rfl, ?_⟩
    rw [shlI_one (by omega)]
    rw [set_at g2] at h
    refine h.setR 4 (⟨x.Id, x.Parent, x.Group, x.User, x.State, x.Status, lessS x.Pending sg, x.Mask, x.Ignored, x.Caught⟩ : DProc) rfl hqa hil (by show 6 < 10; omega) (by rw [less_bit hp.1 hp.2 (by omega)]; rfl) (fun w418 h n418 => ?_)
    have hx2 : (l.set i (⟨x.Id, x.Parent, x.Group, x.User, x.State, x.Status, lessS x.Pending sg, x.Mask, x.Ignored, x.Caught⟩ : DProc))[i]? = some ⟨x.Id, x.Parent, x.Group, x.User, x.State, x.Status, lessS x.Pending sg, x.Mask, x.Ignored, x.Caught⟩ := List.getElem?_set_self hil
    refine h.setV 1 rfl rfl (fun w419 h n419 => ?_)
    refine h.setV 1 rfl rfl (fun w420 h n420 => ?_)
    refine ⟨_, h.cell 0 rfl rfl, _, rfl, _, h.rdR 4 rfl hqa hx2 rfl, by omega, ?_⟩
    rw [has_one hcu.1 hcu.2 (by omega)]
    rcases hc : hasS x.Caught sg with _ | _
    · rw [if_neg (show ¬ hasS x.Caught sg = true by rw [hc]; decide)] at hstep
      refine BIf.f rfl ?_
      refine JoinW.cut1 (fun (c : Bool) w' => c = decide (sg = 14 ∨ sg = 13) ∧ w' = w420) ?_ ?_
      · refine BIf.eq (fun h14 => ⟨(decide_eq_true (.inl (by omega))).symm, rfl⟩) (fun h14 => ⟨?_, rfl⟩)
        show decide _ = _
        rw [decide_eq_decide]; omega
      rintro (c : Bool) w432 ⟨rfl, rfl⟩
      refine BIf.dec (fun h134 => ?_) (fun h134 => ?_)
      · rw [if_neg (show ¬ sg = 12 by omega), if_pos (show sg = 14 ∨ sg = 13 ∨ x.Id = 1 by omega)] at hstep
        refine ⟨t, ?_⟩
        rw [hstep]
        exact ((h.dropAt 2).dropAt 0)
      refine BIf.eq (fun h12 => ?_) (fun h12 => ?_)
      · obtain rfl : sg = 12 := by omega
        rw [if_pos rfl] at hstep
        refine ⟨_, h.cell 0 rfl rfl, _, rfl, ?_⟩
        refine h.setR 4 (⟨x.Id, x.Parent, x.Group, x.User, 2, x.Status, lessS x.Pending 12, x.Mask, x.Ignored, x.Caught⟩ : DProc) rfl hqa hil (by show 4 < 10; omega) rfl (fun w435 h n435 => ⟨t, ?_⟩)
        rw [hstep]
        exact ((h.dropAt 2).dropAt 0)
      rw [if_neg (show ¬ sg = 12 by omega)] at hstep
      refine ⟨_, h.cell 2 rfl rfl, BIf.ne (fun hi1 => ?_) (fun hi1 => ?_)⟩
      · rw [if_neg (show ¬ (sg = 14 ∨ sg = 13 ∨ x.Id = 1) by omega)] at hstep
        have hsim := hv.turn g2 hz ho.grp ho.usr (ho.alive hz) hl1 ho.mask ho.ign ho.cau ho.apart
        have hv1 := hv.sim hsim
        refine ⟨_, h.cell 2 rfl rfl, ?_⟩
        rw [w64 (n := 128 + (sg : Int)) (by omega) (by omega)]
        have key := s138 (status := 128 + (sg : Int)) ((h.front (n := 4) rfl).front (n := 4) rfl) hv1 hx2 (show x.Id ≠ 1 by omega) ⟨by omega, by omega⟩
        rw [show (⟨x.Id, x.Parent, x.Group, x.User, x.State, x.Status, lessS x.Pending sg, x.Mask, x.Ignored, x.Caught⟩ : DProc).Id = id from hxid] at key
        refine key.mono ?_
        rintro _ w439 ⟨rfl, t2, h⟩
        refine ⟨rfl, t2, ?_⟩
        rw [hxid] at hstep
        rw [hstep]
        exact (((h.dropAt 4).dropAt 2).front (n := 2) rfl)
      · rw [if_pos (show sg = 14 ∨ sg = 13 ∨ x.Id = 1 by omega)] at hstep
        refine ⟨t, ?_⟩
        rw [hstep]
        exact ((h.dropAt 2).dropAt 0)
    · rw [if_pos hc] at hstep
      refine BIf.t rfl ?_
      refine h.setV 1 rfl rfl (fun w424 h n424 => ?_)
      have h := h.drew
      refine ⟨_, h.cell 0 rfl rfl, _, rfl, _, h.rdR 4 rfl hqa hx2 rfl, by omega, _, rfl, ?_⟩
      refine h.setR 4 (⟨x.Id, x.Parent, x.Group, x.User, x.State, x.Status, lessS x.Pending sg, withS x.Mask sg, x.Ignored, x.Caught⟩ : DProc) rfl hqa hil (by show 7 < 10; omega) (by rw [with_bit hmk.1 hmk.2 (by omega)]; rfl) (fun w429 h n429 => ⟨t, ?_⟩)
      rw [hstep]
      exact ((h.dropAt 2).dropAt 0)
  rw [if_neg hk7] at hstep
  refine BIf.eq (fun hk => ?_) (fun hk8 => ?_)
  · -- group
    rw [if_pos hk] at hstep
    refine ⟨_, h.cell 2 rfl rfl, (c104 (h.cellP 3 rfl rfl) (qatOf h 4 rfl (by omega))).mono ?_⟩
    rintro _ w448 ⟨rfl, rfl⟩
    have h := h.drew
    refine ⟨_, rfl, ?_⟩
    unfold grpR at hstep
    rcases ixP_find l to_ with ⟨k1, k2⟩ | ⟨j, y, k1, k2, k3⟩
    · rw [k2] at hstep
      rw [k1, ptr_none]
      refine JoinW.each (BIf.t rfl (BIf.t rfl ?_))
      rw [hstep]
      exact retE h 1 rfl rfl (fun w2 h => ⟨rfl, t, (((h.dropAt 2).dropAt 1).dropAt 0)⟩)
    have hjl := (List.getElem?_eq_some_iff.1 k2).1
    have hyid := (prOf_some k3).2
    rw [k3] at hstep
    dsimp only at hstep
    rw [k1, Int.toNat_natCast] at hstep
    rw [k1, ptr_some hqa]
    refine JoinW.cut1 (fun (c : Bool) w' => (c = true ↔ (to_ ≠ id ∧ y.Parent ≠ id) ∨ y.State = 3) ∧ w' = w448.drew) ?_ ?_
    · refine BIf.f rfl ⟨_, rfl, _, h.rdR 4 rfl hqa k2 rfl, BIf.eq (fun h3 => ⟨iff_of_true rfl (.inr h3), rfl⟩) (fun h3 => ⟨_, rfl, _, h.rdR 4 rfl hqa k2 rfl, _, h.cell 2 rfl rfl, BIf.ne (fun hne => ⟨_, rfl, _, h.rdR 4 rfl hqa k2 rfl, _, h.cell 2 rfl rfl, ?_, rfl⟩) (fun heq => ⟨?_, rfl⟩)⟩)⟩
      · rw [bne_iff_ne]
        exact ⟨fun hh => .inl ⟨by omega, hh⟩, fun hh => hh.elim (fun e => e.2) (fun e => absurd e h3)⟩
      · exact ⟨(fun hh => nomatch hh), fun hh => hh.elim (fun e => absurd (show to_ = id by omega) e.1) (fun e => absurd e h3)⟩
    rintro (c : Bool) w452 ⟨hc, rfl⟩
    refine BIf.of (fun ht => ?_) (fun hf => ?_)
    · rw [if_pos (hc.1 ht)] at hstep
      rw [hstep]
      exact retE h 1 rfl rfl (fun w2 h => ⟨rfl, t, (((h.dropAt 2).dropAt 1).dropAt 0)⟩)
    rw [if_neg (fun hh => by rw [hc.2 hh] at hf; cases hf)] at hstep
    refine ⟨_, h.cell 2 rfl rfl, ?_⟩
    refine join_or_ex _ (h.cell 2 rfl rfl) ?_
    refine BIf.of (fun hb2 => ?_) (fun hb2 => ?_)
    · simp only [Bool.or_eq_true, decide_eq_true_eq] at hb2
      rw [if_pos hb2] at hstep
      rw [hstep]
      exact retE h 1 rfl rfl (fun w2 h => ⟨rfl, t, (((h.dropAt 2).dropAt 1).dropAt 0)⟩)
    simp only [Bool.or_eq_false_iff, decide_eq_false_iff_not] at hb2
    rw [if_neg (show ¬ (n < 1 ∨ n > 32) by omega)] at hstep
    refine ⟨_, h.cell 2 rfl rfl, _, h.cell 2 rfl rfl, _, rfl, t, h.cellP 3 rfl rfl, ?_⟩
    have hA : ∀ v, v = (n == to_) → v = (n == to_ || (l.take 0).any (fun z => z.Id != to_ && z.Group == n)) := fun v hv => by rw [hv]; simp
    refine LoopW.m2 (fun (b3 : Bool) (i' : Int) w' => ∃ m : Nat, i' = m ∧ m ≤ l.length ∧ b3 = (n == to_ || (l.take m).any (fun z => z.Id != to_ && z.Group == n)) ∧ SH w0 w' (BP pb (q.add (i * 10)) :: aB rb ((rs3 0 0 0).map Ce.v) :: BO ob k id to_ n :: BS b t :: RP t l :: F)) (fun _ (i' : Int) _ => (l.length - i').toNat) ⟨0, rfl, by omega, hA _ rfl, h⟩ ?_
    clear h
    rintro (b3 : Bool) (i' : Int) w482 ⟨m, rfl, hm, rfl, h⟩ J hJ
    refine BIf.dec (fun hlt => ?_) (fun hge => ?_)
    · have hget : l[m]? = some l[m] := List.getElem?_eq_getElem (by omega)
      have hstp := any_step (fun z : DProc => z.Id != to_ && z.Group == n) hget
      generalize l[m] = z at *
      simp only [Int.toNat_natCast]
      rw [w64 (n := (m : Int) + 1) (by omega) (by omega)]
      refine ⟨by omega, by omega, q, hqa, _, h.rdR 4 rfl hqa hget rfl, _, h.rdR 4 rfl hqa hget rfl, _, h.rdR 4 rfl hqa hget rfl, _, h.rdR 4 rfl hqa hget rfl, _, h.rdR 4 rfl hqa hget rfl, _, h.rdR 4 rfl hqa hget rfl, _, h.rdR 4 rfl hqa hget rfl, _, h.rdR 4 rfl hqa hget rfl, _, h.rdR 4 rfl hqa hget rfl, _, h.rdR 4 rfl hqa hget rfl, ?_⟩
      refine h.alloc (fun w494 h e494 n494 => ?_)
      refine h.put 0 rfl rfl rfl (fun w495 h n495 => ?_)
      refine JoinW.cut1 (fun (c : Bool) w' => c = (n == to_ || (l.take (m + 1)).any (fun z => z.Id != to_ && z.Group == n)) ∧ w' = w495) ?_ ?_
      · rw [hstp, ← Bool.or_assoc]
        refine BIf.of (fun ht => ⟨by rw [ht]; rfl, rfl⟩) (fun hf => ⟨_, h.cell 0 rfl rfl, _, h.cell 3 rfl rfl, BIf.of (fun h1 => ⟨_, h.cell 0 rfl rfl, _, h.cell 3 rfl rfl, ?_, rfl⟩) (fun h1 => ⟨?_, rfl⟩)⟩)
        · rw [hf, h1]; rfl
        · rw [hf, h1]; rfl
      · rintro (c : Bool) w498 ⟨hc, rfl⟩
        exact hJ _ _ _ ⟨m + 1, by omega, by omega, hc, h.drop⟩ (by omega)
    · have hmm : m = l.length := by omega
      subst hmm
      simp only [List.take_length] at *
      refine BIf.not (BIf.of (fun ht => ?_) (fun hf => ?_))
      · rw [if_pos (by simpa using ht)] at hstep
        refine ⟨_, h.cell 2 rfl rfl, _, rfl, ?_⟩
        rw [set_at k2] at h
        refine h.setR 4 (⟨y.Id, y.Parent, n, y.User, y.State, y.Status, y.Pending, y.Mask, y.Ignored, y.Caught⟩ : DProc) rfl hqa hjl (by show 2 < 10; omega) rfl (fun w514 h n514 => ⟨t, ?_⟩)
        rw [hstep]
        exact ((h.dropAt 2).dropAt 0)
      · rw [if_neg (by rw [Bool.or_eq_false_iff, beq_eq_false_iff_ne] at hf; rintro (e | e); exact hf.1 e; rw [hf.2] at e; cases e)] at hstep
        rw [hstep]
        exact retE h 1 rfl rfl (fun w2 h => ⟨rfl, t, (((h.dropAt 2).dropAt 1).dropAt 0)⟩)
  rw [if_neg hk8] at hstep
  refine BIf.t (by simp; omega) ?_
  unfold usrR at hstep
  refine ⟨_, h.cell 2 rfl rfl, ?_⟩
  refine join_or_ex _ (h.cell 2 rfl rfl) ?_
  refine BIf.of (fun hb => ?_) (fun hb => ?_)
  · simp only [Bool.or_eq_true, decide_eq_true_eq] at hb
    rw [if_pos hb] at hstep
    rw [hstep]
    exact retE h 1 rfl rfl (fun w2 h => ⟨rfl, t, (((h.dropAt 2).dropAt 1).dropAt 0)⟩)
  simp only [Bool.or_eq_false_iff, decide_eq_false_iff_not] at hb
  rw [if_neg (show ¬ (n < 0 ∨ n > 255) by omega)] at hstep
  have h := h.drew
  refine JoinW.cut1 (fun (c : Bool) w' => c = decide (x.User ≠ 0 ∧ x.User ≠ n) ∧ w' = w21.drew) ?_ ?_
  · refine ⟨_, h.cell 0 rfl rfl, _, rfl, _, h.rdR 4 rfl hqa g2 rfl, BIf.ne (fun hu => ⟨_, h.cell 0 rfl rfl, _, rfl, _, h.rdR 4 rfl hqa g2 rfl, _, h.cell 2 rfl rfl, ?_, rfl⟩) (fun hu => ⟨(decide_eq_false (fun hh => hh.1 hu)).symm, rfl⟩)⟩
    by_cases hn : x.User = n
    · rw [decide_eq_false (fun hh => hh.2 hn)]; simpa using hn
    · rw [decide_eq_true ⟨hu, hn⟩]; simpa using hn
  rintro (c : Bool) w539 ⟨rfl, rfl⟩
  refine BIf.dec (fun hc => ?_) (fun hc => ?_)
  · rw [if_pos hc] at hstep
    rw [hstep]
    exact retE h 1 rfl rfl (fun w2 h => ⟨rfl, t, (((h.dropAt 2).dropAt 1).dropAt 0)⟩)
  rw [if_neg hc] at hstep
  refine ⟨_, h.cell 0 rfl rfl, _, h.cell 2 rfl rfl, _, rfl, ?_⟩
  rw [set_at g2] at h
  refine h.setR 4 (⟨x.Id, x.Parent, x.Group, n, x.State, x.Status, x.Pending, x.Mask, x.Ignored, x.Caught⟩ : DProc) rfl hqa hil (by show 3 < 10; omega) rfl (fun w552 h n552 => ⟨t, ?_⟩)
  rw [hstep]
  exact ((h.dropAt 2).dropAt 0)
end Go.Proofs.Yteigefjiifihpaa

/- Processes, the program's side: ProcStep, ProcRun. Conditions: none. -/
set_option linter.unusedVariables false
set_option linter.unusedSimpArgs false
namespace Go.Proofs.Yteigefjiifihpaa
open Go Go.Den
/-- An operation that fails leaves the processes. -/
def Kept (l : List DProc) (r : PRes) : Prop := r.2.1 ≠ 0 → r.1 = l ∧ r.2.2.1 = 0 ∧ r.2.2.2 = 0
theorem Kept.e (l : List DProc) (c : Int) : Kept l (l, c, 0, 0) := fun _ => ⟨rfl, rfl, rfl⟩
theorem Kept.z (l l' : List DProc) (a b : Int) : Kept l (l', 0, a, b) := fun h => absurd rfl h
theorem stepP_kept (l : List DProc) (k id to_ n : Int) : Kept l (stepP l k id to_ n) := by
  unfold stepP
  split
  · exact Kept.e l _
  split
  · exact Kept.e l _
  rename_i x _
  split
  · exact Kept.e l _
  split
  · exact Kept.e l _
  unfold prR
  split
  · split
    · exact Kept.e l _
    · exact Kept.z l _ _ _
  split
  · split
    · exact Kept.e l _
    · split
      · exact Kept.e l _
      · exact Kept.z l _ _ _
  split
  · unfold waitR
    split
    · exact Kept.z l _ _ _
    · split
      · exact Kept.e l _
      · exact Kept.e l _
  split
  · unfold killR
    split
    · exact Kept.e l _
    split
    · exact Kept.e l _
    split
    · exact Kept.e l _
    · exact Kept.z l _ _ _
  split
  · unfold maskR
    split
    · exact Kept.z l _ _ _
    · exact Kept.e l _
  split
  · unfold actR
    split
    · exact Kept.e l _
    · exact Kept.z l _ _ _
  split
  · unfold takeR
    split
    · exact Kept.e l _
    split
    · exact Kept.z l _ _ _
    split
    · exact Kept.z l _ _ _
    split
    · exact Kept.z l _ _ _
    · exact Kept.z l _ _ _
  split
  · unfold grpR
    split
    · exact Kept.e l _
    split
    · exact Kept.e l _
    split
    · exact Kept.e l _
    split
    · exact Kept.z l _ _ _
    · exact Kept.e l _
  · unfold usrR
    split
    · exact Kept.e l _
    split
    · exact Kept.e l _
    · exact Kept.z l _ _ _
theorem s51 {w : World} {t : Sl} {l : List DProc} {k id to_ n : Int} (hs : QAt w t l) (hr : ∀ x, x ∈ l → Rng x) (hto : inR to_) :
    CallW Try.prog 51 #[pAgg t, .agg #[.int .i64 k, .int .i64 id, .int .i64 to_, .int .i64 n]] w (KPR w [] (pstepR l k id to_ n)) := by
  refine go51 ?_
  unfold W51
  have htl := hs.tl
  have h := SH.start w
  refine h.alloc (fun w1 h e1 n1 => ?_)
  refine h.alloc (fun w2 h e2 n2 => ?_)
  refine h.alloc (fun w3 h e3 n3 => ?_)
  refine h.alloc (fun w4 h e4 n4 => ?_)
  refine ⟨t, h.cell 3 rfl rfl, (c59 (hs.ext h.ext) hr).mono ?_⟩
  rintro _ w7 ⟨b, rfl, hiff, e7⟩
  have h := h.to e7
  refine ⟨_, rfl, BIf.of (fun hn => ?_) (fun hy => ?_)⟩
  · have hno : ¬ PInv l := fun hh => by rw [hiff.2 hh] at hn; cases hn
    refine retP (t := ⟨none, 0, 0⟩) h 1 0 rfl rfl rfl (by simp) (fun w2 h => ?_)
    unfold pstepR
    rw [if_neg hno]
    exact ⟨⟨none, 0, 0⟩, rfl, SH.nil (SH.start w |>.to h.ext) none 10⟩
  have hv : PInv l := hiff.1 (by simpa using hy)
  have hlen := hv.len
  have hres : pstepR l k id to_ n = stepP l k id to_ n := by unfold pstepR; rw [if_pos hv]
  rw [hres]
  refine ⟨t, h.cell 3 rfl rfl, ?_⟩
  have h := SH.nil h none 10
  refine SH.appendR (f := DProc.cells) (l := []) (us := l) h (hs.ext h.ext).tr (by omega) (fun _ => rfl) rfl rfl (by decide) (by show (_ + _) * 80 ≤ _; simp; omega) plain_pr (fun l16 w17 h hl16 _ => ?_)
  refine h.alloc (fun w18 h e18 n18 => ?_)
  refine h.setV 0 rfl rfl (fun w19 h n19 => ?_)
  refine ⟨_, h.cell 4 rfl rfl, _, h.cell 4 rfl rfl, _, h.cell 4 rfl rfl, _, h.cell 4 rfl rfl, ?_⟩
  rw [List.nil_append] at h
  refine (s96 (F := [aB w3.heap.size ((rs3 0 0 0).map Ce.v), aB w2.heap.size (ZT.map Ce.v), BO w1.heap.size k id to_ n, BS w.heap.size t]) h hv hto).mono ?_
  rintro _ w25 ⟨rfl, t2, h⟩
  have hkept := stepP_kept l k id to_ n
  generalize stepP l k id to_ n = r at *
  refine ⟨_, _, _, rfl, ?_⟩
  refine h.alloc (fun w29 h e29 n29 => ?_)
  refine h.put 0 rfl rfl rfl (fun w30 h n30 => ?_)
  refine ⟨_, h.cell 0 rfl rfl, BIf.ne (fun hc => ?_) (fun hc => ?_)⟩
  · obtain ⟨k1, k2, k3⟩ := hkept hc
    have h := h.drew
    refine ⟨t, h.cell 6 rfl rfl, _, h.cell 0 rfl rfl, ?_⟩
    have h := SH.nil h none 10
    refine SH.appendR (f := DProc.cells) (l := []) (us := l) h (hs.ext h.ext).tr (by omega) (fun _ => rfl) rfl rfl (by decide) (by show (_ + _) * 80 ≤ _; simp; omega) plain_pr (fun l34 w35 h hl34 _ => ?_)
    refine ⟨⟨_, h.cell 1 rfl rfl, rfl⟩, ?_⟩
    refine h.setV 5 rfl rfl (fun w37 h n37 => ⟨⟨_, h.cell 1 rfl rfl, rfl⟩, ?_⟩)
    refine h.put 4 rfl rfl rfl (fun w39 h n39 => ?_)
    refine ⟨l34, h.cell 5 rfl rfl, _, h.cell 4 rfl rfl, _, h.cell 4 rfl rfl, _, h.cell 4 rfl rfl, l34, ?_, ?_⟩
    · rw [k2, k3]
    · rw [k1]
      rw [List.nil_append] at h
      exact (((((((h.dropAt 7).dropAt 6).dropAt 5).dropAt 4).dropAt 3).dropAt 2).dropAt 1)
  · have h := h.drew
    refine ⟨t2, h.cell 1 rfl rfl, _, h.cell 0 rfl rfl, _, h.cell 0 rfl rfl, _, h.cell 0 rfl rfl, ?_⟩
    refine h.setV 4 rfl rfl (fun w48 h n48 => ⟨⟨_, h.cell 0 rfl rfl, _, h.cell 0 rfl rfl, _, h.cell 0 rfl rfl, rfl⟩, ?_⟩)
    refine h.put 3 rfl rfl rfl (fun w52 h n52 => ?_)
    refine ⟨t2, h.cell 4 rfl rfl, _, h.cell 3 rfl rfl, _, h.cell 3 rfl rfl, _, h.cell 3 rfl rfl, t2, rfl, ?_⟩
    exact ((((((h.dropAt 6).dropAt 5).dropAt 4).dropAt 3).dropAt 1).dropAt 0)
theorem s56 {w0 w : World} {F : List Asr} (h : SH w0 w F) : CallW Try.prog 56 #[] w (KP w0 F [proc1]) := by
  refine go56 ?_
  unfold W56
  refine h.alloc (fun w1 h e1 n1 => ?_)
  refine h.alloc (fun w2 h e2 n2 => ?_)
  have h : SH w0 w2 (RP ⟨some ⟨w1.heap.size, 0, none⟩, 1, 1⟩ [proc1] :: aB w.heap.size (ZT.map Ce.v) :: F) := h.toRow (ys := [proc1.cells]) (n := 1) (z := 10) rfl rfl (fun u hu => by obtain rfl := List.mem_singleton.1 hu; rfl)
  refine h.setV 1 rfl rfl (fun w3 h n3 => ?_)
  exact ⟨⟨some ⟨w1.heap.size, 0, none⟩, 1, 1⟩, h.cell 1 rfl rfl, ⟨some ⟨w1.heap.size, 0, none⟩, 1, 1⟩, rfl, (h.dropAt 1)⟩
theorem s41 {w : World} {a0 : Sl} {ops : List DProcOp} (ho : RecsAt w a0 4 DProcOp.cells ops) (hto : ∀ op, op ∈ ops → inR op.To) :
    CallW Try.prog 41 #[.slice a0.a a0.len a0.cap] w (fun v w' => ∃ s : Sl, v = .slice s.a s.len s.cap ∧ SH w w' [RQ s (pRunF ops)]) := by
  refine go41 ?_
  unfold W41
  have hol := ho.len
  have h := SH.start w
  refine BIf.dec (fun hbig => ?_) (fun hfew => ?_)
  · refine ⟨⟨none, 0, 0⟩, rfl, ?_⟩
    unfold pRunF
    rw [if_pos (by omega)]
    exact SH.nil h none 3
  have hrun : pRunF ops = pRunL [proc1] ops := by unfold pRunF; rw [if_neg (by omega)]
  rw [hrun]
  refine (s56 h).mono ?_
  rintro _ w2 ⟨t0, rfl, h⟩
  refine ⟨t0, rfl, ?_⟩
  refine h.alloc (fun w4 h ew4 nw4 => ?_)
  refine h.setV 0 rfl rfl (fun w5 h nw5 => ?_)
  have h : SH w w5 [RQ ⟨none, 0, 0⟩ [], BS w2.heap.size t0, RP t0 [proc1]] := SH.nil h none 3
  refine LoopW.m2 (fun (s : Sl) (i : Int) w' => ∃ (n : Nat) (e : List DProc) (out : List DProcRes) (t : Sl), i = n ∧ n ≤ ops.length ∧ out.length = n ∧ out ++ pRunL e (ops.drop n) = pRunL [proc1] ops ∧ PInv e ∧ SH w w' [RQ s out, BS w2.heap.size t, RP t e]) (fun _ (i : Int) _ => (a0.len - i).toNat)
    ⟨0, [proc1], [], _, rfl, Nat.zero_le _, rfl, rfl, new_inv, h⟩ ?_
  clear h
  rintro (s : Sl) (i : Int) w9 ⟨n, e, out, t, rfl, hnl, hout, hruns, hie, h⟩ J hJ
  refine BIf.dec (fun hlt => ?_) (fun hge => ?_)
  · have hk : n < ops.length := by omega
    have hget : ops[n]? = some ops[n] := List.getElem?_eq_getElem hk
    have hop := hto _ (List.mem_of_getElem? hget)
    rw [List.drop_eq_getElem_cons hk, pRunL] at hruns
    obtain ⟨q, hq, hcell⟩ := ho.get (by omega) hget
    generalize ops[n] = op at *
    have hi2 := hie.step op.Kind op.Id op.To op.N
    have hel := hie.len
    simp only [Int.toNat_natCast]
    rw [w64 (n := (n : Int) + 1) (by omega) (by omega)]
    refine ⟨by omega, by omega, q, hq, _, h.ext.cell (hcell 0 _ rfl), _, h.ext.cell (hcell 1 _ rfl), _, h.ext.cell (hcell 2 _ rfl), _, h.ext.cell (hcell 3 _ rfl), ?_⟩
    refine h.alloc (fun w15 h ew15 nw15 => ?_)
    refine h.put 0 rfl rfl rfl (fun w16 h nw16 => ?_)
    refine h.alloc (fun w17 h ew17 nw17 => ?_)
    refine ⟨t, h.cell 3 rfl rfl, _, h.cell 1 rfl rfl, _, h.cell 1 rfl rfl, _, h.cell 1 rfl rfl, _, h.cell 1 rfl rfl, (s51 (qatOf h 4 rfl (by omega)) (fun x hx => (hie.ok x hx).rng) hop).mono ?_⟩
    rintro _ w24 ⟨t', rfl, g⟩
    have hres : pstepR e op.Kind op.Id op.To op.N = stepP e op.Kind op.Id op.To op.N := by unfold pstepR; rw [if_pos hie]
    rw [hres] at g ⊢
    have h := h.seq g
    refine ⟨t', _, _, _, rfl, ?_⟩
    refine h.setV 4 rfl rfl (fun w29 h nw29 => ?_)
    refine h.put 1 rfl rfl rfl (fun w30 h nw30 => ?_)
    refine ⟨_, h.cell 1 rfl rfl, _, h.cell 1 rfl rfl, _, h.cell 1 rfl rfl, ?_⟩
    have h := h.front (n := 3) rfl
    refine LetW_iff.2 (SH.appendR1 (f := DProcRes.cells) (x := pRes e op) h rfl rfl rfl (by decide) (by show _ * 24 ≤ _; omega) (plain_pres _) (fun l35 w36 h hl35 _ => ?_))
    refine hJ _ _ _ ⟨n + 1, (stepP e op.Kind op.Id op.To op.N).1, out ++ [pRes e op], t', by omega, by omega, by simp [hout], ?_, hi2, ?_⟩ (by omega)
    · rw [List.append_assoc]; exact hruns
    · exact (((((h.dropAt 5).dropAt 3).dropAt 2).front (n := 2) rfl).front (n := 1) rfl)
  · rw [List.drop_eq_nil_of_le (by omega)] at hruns
    have hruns : out ++ [] = pRunL [proc1] ops := hruns
    rw [List.append_nil] at hruns
    rw [← hruns]
    exact ⟨s, rfl, h.one⟩
end Go.Proofs.Yteigefjiifihpaa

/- Processes: both sides as the laws ask for them. Conditions: none. -/
set_option linter.unusedVariables false
set_option linter.unusedSimpArgs false
namespace Go.Proofs.Yteigefjiifihpaa
open Go Go.Den
/-! ## Bounds -/
def Bd (r : PRes) : Prop := (0 ≤ r.2.1 ∧ r.2.1 ≤ 21) ∧ (0 ≤ r.2.2.1 ∧ r.2.2.1 ≤ 65535) ∧ (0 ≤ r.2.2.2 ∧ r.2.2.2 ≤ 255)
theorem Bd.e {l : List DProc} {c : Int} (h : 0 ≤ c ∧ c ≤ 21) : Bd (l, c, 0, 0) := ⟨h, ⟨Int.le_refl 0, by show (0 : Int) ≤ 65535; decide⟩, Int.le_refl 0, by show (0 : Int) ≤ 255; decide⟩
theorem Bd.z {l : List DProc} {a b : Int} (h : 0 ≤ a ∧ a ≤ 65535) (h2 : 0 ≤ b ∧ b ≤ 255) : Bd (l, 0, a, b) := ⟨⟨Int.le_refl 0, by show (0 : Int) ≤ 21; decide⟩, h, h2⟩
theorem stepP_bd {l : List DProc} (hv : PInv l) (k id to_ n : Int) : Bd (stepP l k id to_ n) := by
  have hlen := hv.len
  unfold stepP
  split
  · exact Bd.e (by decide)
  split
  · exact Bd.e (by decide)
  rename_i x hx
  have ho := hv.ok x (List.mem_of_getElem? hx)
  split
  · exact Bd.e (by decide)
  split
  · exact Bd.e (by decide)
  unfold prR
  split
  · split
    · exact Bd.e (by decide)
    · have := hv.gap
      exact Bd.z (by omega) (by decide)
  split
  · split
    · exact Bd.e (by decide)
    · split
      · exact Bd.e (by decide)
      · exact Bd.z (by decide) (by decide)
  split
  · unfold waitR
    split
    · rename_i z hz
      have hzo := hv.ok z (List.mem_of_find?_eq_some hz)
      have h1 := hzo.id
      exact Bd.z (by omega) hzo.stat
    · split
      · exact Bd.e (by decide)
      · exact Bd.e (by decide)
  split
  · unfold killR
    split
    · exact Bd.e (by decide)
    split
    · exact Bd.e (by decide)
    split
    · exact Bd.e (by decide)
    · have := List.length_filter_le (hit x to_) l
      exact Bd.z (by omega) (by decide)
  split
  · unfold maskR
    split
    · have := ho.mask.1
      exact Bd.z ⟨this.1, by have := this.2.1; omega⟩ (by decide)
    · exact Bd.e (by decide)
  split
  · unfold actR
    split
    · exact Bd.e (by decide)
    · exact Bd.z (by decide) (by decide)
  split
  · have := (sigOf_le x).1
    unfold takeR
    split
    · exact Bd.e (by decide)
    split
    · exact Bd.z (by omega) (by decide)
    split
    · exact Bd.z (by decide) (by decide)
    split
    · exact Bd.z (by omega) (by decide)
    · exact Bd.z (by omega) (by decide)
  split
  · unfold grpR
    split
    · exact Bd.e (by decide)
    split
    · exact Bd.e (by decide)
    split
    · exact Bd.e (by decide)
    split
    · exact Bd.z (by decide) (by decide)
    · exact Bd.e (by decide)
  · unfold usrR
    split
    · exact Bd.e (by decide)
    split
    · exact Bd.e (by decide)
    · exact Bd.z (by decide) (by decide)
def BdR (r : DProcRes) : Prop := (0 ≤ r.Code ∧ r.Code ≤ 21) ∧ (0 ≤ r.N ∧ r.N ≤ 65535) ∧ (0 ≤ r.Status ∧ r.Status ≤ 255)
theorem pRunL_bd : ∀ (ops : List DProcOp) (l : List DProc), PInv l → ∀ r, r ∈ pRunL l ops → BdR r
  | [], l, h, r, hr => by cases hr
  | op :: ops, l, h, r, hr => by
    unfold pRunL at hr
    rcases List.mem_cons.1 hr with rfl | hr
    · exact stepP_bd h _ _ _ _
    · exact pRunL_bd ops _ (h.step _ _ _ _) r hr
theorem pRunF_bd (ops : List DProcOp) : (∀ r, r ∈ pRunF ops → BdR r) ∧ (pRunF ops).length ≤ 400 := by
  unfold pRunF
  split
  · exact ⟨(fun r hr => by cases hr), Nat.zero_le _⟩
  · rename_i hl
    exact ⟨pRunL_bd ops _ new_inv, by rw [pRunL_len]; omega⟩
theorem wf_i64p {n : Int} (h : (Lit.int .i64 n).wf = true) : -9223372036854775808 ≤ n ∧ n ≤ 9223372036854775807 := by
  simp [Lit.wf, IntKind.min, IntKind.max, IntKind.signed, IntKind.bits] at h
  omega
/-! ## ProcRun -/
abbrev popsD (ops : List DProcOp) : Dat := .sl 4 (ops.map DProcOp.dat)
theorem popsD_sz (ops : List DProcOp) : ops.length ≤ (popsD ops).sz := by
  have hsz : (popsD ops).sz = (ops.map DProcOp.dat).length + Dat.szs (ops.map DProcOp.dat) := rfl
  rw [List.length_map] at hsz; omega
theorem pops_of {ops : List DProcOp} {w : World} {s : Sl} (h : IsD w (popsD ops) [.slice s.a s.len s.cap]) (hs : (popsD ops).sz ≤ 1048576) : RecsAt w s 4 DProcOp.cells ops ∧ ∀ op, op ∈ ops → inR op.To := by
  have := popsD_sz ops
  refine ⟨⟨(isD_len h).1, isD_row h (fun _ => rfl) (fun es y hy => DProcOp.is_cells hy), by omega, fun _ => rfl⟩, fun op hop => ?_⟩
  obtain ⟨k, hk⟩ := List.getElem?_of_mem hop
  obtain ⟨p, es, _, _, _, he⟩ := isD_elem h hk
  have q := isD_st he
  obtain ⟨_, _, _, _, q⟩ := isF_cons q
  obtain ⟨_, _, _, _, q⟩ := isF_cons q
  obtain ⟨_, _, _, j, q⟩ := isF_cons q
  exact wf_i64p (isD_int j).2
theorem pres_ceE (l : List DProcRes) : Dat.ceE (l.map DProcRes.dat) = recs DProcRes.cells l := by
  rw [ceE_map]; unfold recs
  refine List.map_congr_left (fun x _ => ?_)
  simp [DProcRes.dat, DProcRes.cells, Dat.ce, Dat.ces]
theorem prun_post {ops : List DProcOp} {w w' : World} {v : Value} (h : ∃ s : Sl, v = .slice s.a s.len s.cap ∧ SH w w' [RQ s (pRunF ops)]) : ∃ y : Sl, v = .slice y.a y.len y.cap ∧ Fr w.heap.size w'.heap.size w' (.sl 3 ((pRunF ops).map DProcRes.dat)) [.slice y.a y.len y.cap] ∧ Ext w w' := by
  obtain ⟨t, rfl, h⟩ := h
  refine ⟨t, rfl, SH.frRow (F := []) (by rw [pres_ceE]; exact h) ?_, h.ext⟩
  have hm : maxLen = 9223372036854775807 := rfl
  have hr := pRunF_bd ops
  simp only [Dat.fit, List.length_map, fits_iff, List.mem_map]
  refine ⟨by omega, ?_⟩
  rintro d ⟨c, hc, rfl⟩
  obtain ⟨h1, h2, h3⟩ := hr.1 c hc
  simp only [DProcRes.dat, Dat.fit, Dat.fits]
  exact ⟨wf_i64 (by omega) (by omega), wf_i64 (by omega) (by omega), wf_i64 (by omega) (by omega), trivial⟩
theorem specProcRun {ops : List DProcOp} {w : World} {s : Sl} (h : IsD w (popsD ops) [.slice s.a s.len s.cap]) (hs : (popsD ops).sz ≤ 1048576) : CallW Try.prog 39 #[.slice s.a s.len s.cap] w (fun v w' => ∃ y : Sl, v = .slice y.a y.len y.cap ∧ Fr w.heap.size w'.heap.size w' (.sl 3 ((pRunF ops).map DProcRes.dat)) [.slice y.a y.len y.cap] ∧ Ext w w') :=
  (s39 (pops_of h hs).1).mono (fun _ _ hv => prun_post hv)
theorem implProcRun {ops : List DProcOp} {w : World} {s : Sl} (h : IsD w (popsD ops) [.slice s.a s.len s.cap]) (hs : (popsD ops).sz ≤ 1048576) : CallW Try.prog 41 #[.slice s.a s.len s.cap] w (fun v w' => ∃ y : Sl, v = .slice y.a y.len y.cap ∧ Fr w.heap.size w'.heap.size w' (.sl 3 ((pRunF ops).map DProcRes.dat)) [.slice y.a y.len y.cap] ∧ Ext w w') :=
  (s41 (pops_of h hs).1 (pops_of h hs).2).mono (fun _ _ hv => prun_post hv)
theorem pops_has (ops : List DProcOp) : ∀ e, e ∈ ops.map DProcOp.dat → Has TyProcOp e := fun e he => by obtain ⟨y, _, rfl⟩ := List.mem_map.1 he; exact DProcOp.has _
theorem prun_has (ops : List DProcOp) : ∀ e, e ∈ (pRunF ops).map DProcRes.dat → Has TyProcRes e := fun e he => by obtain ⟨y, _, rfl⟩ := List.mem_map.1 he; exact DProcRes.has _
theorem pres_cnts : ∀ l : List DProcRes, Dat.cnts (l.map DProcRes.dat) = 3 * l.length
  | [] => rfl
  | a :: r => by simp only [List.map_cons, DProcRes.dat, Dat.cnts, Dat.cnt, List.length_cons]; have := pres_cnts r; omega
theorem pop_cnts : ∀ l : List DProcOp, Dat.cnts (l.map DProcOp.dat) = 4 * l.length
  | [] => rfl
  | a :: r => by simp only [List.map_cons, DProcOp.dat, Dat.cnts, Dat.cnt, List.length_cons]; have := pop_cnts r; omega
theorem prun_cnt {ops : List DProcOp} : Dat.cnts ((pRunF ops).map DProcRes.dat) ≤ 1200 := by rw [pres_cnts]; have := (pRunF_bd ops).2; omega
theorem pops_cnt {ops : List DProcOp} (hs : (popsD ops).sz ≤ 1048576) : Dat.cnts (ops.map DProcOp.dat) ≤ 4194304 := by
  have := popsD_sz ops
  rw [pop_cnts]; omega
/-! ## ProcStep -/
end Go.Proofs.Yteigefjiifihpaa

/- The law's own functions over trees: copies, sizes, comparisons, marks; printed by a program. Conditions: none. -/
set_option linter.unusedVariables false
set_option linter.unusedSimpArgs false
set_option maxRecDepth 4000
namespace Go.Proofs.Yteigefjiifihpaa
open Go Go.Den

theorem has_ProcOp {d : Dat} (h : Has TyProcOp d) : ∃ x_0 : Int, ∃ x_1 : Int, ∃ x_2 : Int, ∃ x_3 : Int, d = .st [.int .i64 x_0, .int .i64 x_1, .int .i64 x_2, .int .i64 x_3] := by
  obtain ⟨_, rfl, g⟩ := has_st h
  obtain ⟨_, _, rfl, h_0, g⟩ := hasF_cons g
  obtain ⟨_, _, rfl, h_1, g⟩ := hasF_cons g
  obtain ⟨_, _, rfl, h_2, g⟩ := hasF_cons g
  obtain ⟨_, _, rfl, h_3, g⟩ := hasF_cons g
  obtain rfl := hasF_nil g
  obtain ⟨x_0, rfl⟩ := has_int h_0
  obtain ⟨x_1, rfl⟩ := has_int h_1
  obtain ⟨x_2, rfl⟩ := has_int h_2
  obtain ⟨x_3, rfl⟩ := has_int h_3
  exact ⟨x_0, x_1, x_2, x_3, rfl⟩
theorem cells_ProcOp {w : World} {x_0 : Int} {x_1 : Int} {x_2 : Int} {x_3 : Int} {cs : List Value} (h : IsD w (.st [.int .i64 x_0, .int .i64 x_1, .int .i64 x_2, .int .i64 x_3]) cs) : cs = [.int .i64 x_0, .int .i64 x_1, .int .i64 x_2, .int .i64 x_3] ∧ ((Lit.int .i64 x_0).wf = true) ∧ ((Lit.int .i64 x_1).wf = true) ∧ ((Lit.int .i64 x_2).wf = true) ∧ ((Lit.int .i64 x_3).wf = true) := by
  have q := isD_st h
  obtain ⟨_, _, rfl, i_0, q⟩ := isF_cons q
  obtain ⟨_, _, rfl, i_1, q⟩ := isF_cons q
  obtain ⟨_, _, rfl, i_2, q⟩ := isF_cons q
  obtain ⟨_, _, rfl, i_3, q⟩ := isF_cons q
  obtain rfl := isF_nil q
  obtain ⟨rfl, ws_0⟩ := isD_int i_0
  obtain ⟨rfl, ws_1⟩ := isD_int i_1
  obtain ⟨rfl, ws_2⟩ := isD_int i_2
  obtain ⟨rfl, ws_3⟩ := isD_int i_3
  exact ⟨rfl, ws_0, ws_1, ws_2, ws_3⟩
theorem has_ProcRes {d : Dat} (h : Has TyProcRes d) : ∃ x_0 : Int, ∃ x_1 : Int, ∃ x_2 : Int, d = .st [.int .i64 x_0, .int .i64 x_1, .int .i64 x_2] := by
  obtain ⟨_, rfl, g⟩ := has_st h
  obtain ⟨_, _, rfl, h_0, g⟩ := hasF_cons g
  obtain ⟨_, _, rfl, h_1, g⟩ := hasF_cons g
  obtain ⟨_, _, rfl, h_2, g⟩ := hasF_cons g
  obtain rfl := hasF_nil g
  obtain ⟨x_0, rfl⟩ := has_int h_0
  obtain ⟨x_1, rfl⟩ := has_int h_1
  obtain ⟨x_2, rfl⟩ := has_int h_2
  exact ⟨x_0, x_1, x_2, rfl⟩
theorem cells_ProcRes {w : World} {x_0 : Int} {x_1 : Int} {x_2 : Int} {cs : List Value} (h : IsD w (.st [.int .i64 x_0, .int .i64 x_1, .int .i64 x_2]) cs) : cs = [.int .i64 x_0, .int .i64 x_1, .int .i64 x_2] ∧ ((Lit.int .i64 x_0).wf = true) ∧ ((Lit.int .i64 x_1).wf = true) ∧ ((Lit.int .i64 x_2).wf = true) := by
  have q := isD_st h
  obtain ⟨_, _, rfl, i_0, q⟩ := isF_cons q
  obtain ⟨_, _, rfl, i_1, q⟩ := isF_cons q
  obtain ⟨_, _, rfl, i_2, q⟩ := isF_cons q
  obtain rfl := isF_nil q
  obtain ⟨rfl, ws_0⟩ := isD_int i_0
  obtain ⟨rfl, ws_1⟩ := isD_int i_1
  obtain ⟨rfl, ws_2⟩ := isD_int i_2
  exact ⟨rfl, ws_0, ws_1, ws_2⟩
/- szProcOpS -/
theorem c38 {l : List Dat} {a0 : Sl} {left : Int} {w : World} (ht : ∀ e, e ∈ l → Has TyProcOp e) (h : IsD w (.sl 4 l) [.slice a0.a a0.len a0.cap]) (h0 : 0 ≤ left) (hl : left ≤ 4611686018427387904) : CallW Try.prog 38 #[.slice a0.a a0.len a0.cap, .int .i64 left] w (fun v w' => SzPost (Dat.sl 4 l).sz left v ∧ Ext w w') := by
  refine go38 ?_
  unfold W38
  obtain ⟨hlen, hmax, hel⟩ := isD_sl h
  have hmx : maxLen = 9223372036854775807 := rfl
  rw [hlen, w64 (by omega) (by omega)]
  have hz : Dat.szs l = 0 := by
    refine szs_zero (fun d hd => ?_)
    have ht0 := ht d hd
    obtain ⟨x_0, x_1, x_2, x_3, rfl⟩ := has_ProcOp ht0
    rfl
  refine BIf.dec (fun hn => ⟨⟨_, rfl, .inr ⟨by omega, by simp only [Dat.sz]; omega⟩⟩, Only.refl _ _⟩) (fun hp => ⟨⟨_, rfl, .inl ⟨by simp only [Dat.sz]; omega, by omega⟩⟩, Only.refl _ _⟩)

/- toProcOp -/
theorem c50 {d : Dat} {cs : List Value} {w : World} (ht : Has TyProcOp d) (h : IsD w d cs) (hs : d.sz ≤ 4194304) : CallW Try.prog 50 #[.agg ⟨cs⟩] w (fun v w' => ∃ cs', v = .agg ⟨cs'⟩ ∧ Fr w.heap.size w'.heap.size w' d cs' ∧ Ext w w') := by
  obtain ⟨x_0, x_1, x_2, x_3, rfl⟩ := has_ProcOp ht
  obtain ⟨rfl, ws_0, ws_1, ws_2, ws_3⟩ := cells_ProcOp h
  show CallW Try.prog 50 #[.agg #[.int .i64 x_0, .int .i64 x_1, .int .i64 x_2, .int .i64 x_3]] w _
  refine go50 ?_
  unfold W50
  refine alloc_step (fun w1 e1 ha n1 => ?_)
  refine alloc_step (fun w2 e2 hc n2 => ?_)
  have ha := ha.ext e2
  refine alloc_step (fun w3 e3 hb n3 => ?_)
  have ha := ha.ext e3
  have hc := hc.ext e3
  have e := Only.trans e1 (Only.trans e2 e3)
  refine ⟨_, ha.cell 0, ?_⟩
  refine set_step hb (by simp) (fun w4 o4 hb n4 => ?_)
  have ha := ha.only o4 (by omega)
  have hc := hc.only o4 (by omega)
  have e := Ext.own e o4 (fun k hk => by omega)
  refine ⟨_, ha.cell 1, ?_⟩
  refine set_step hb (by simp) (fun w5 o5 hb n5 => ?_)
  have ha := ha.only o5 (by omega)
  have hc := hc.only o5 (by omega)
  have e := Ext.own e o5 (fun k hk => by omega)
  refine ⟨_, ha.cell 2, ?_⟩
  refine set_step hb (by simp) (fun w6 o6 hb n6 => ?_)
  have ha := ha.only o6 (by omega)
  have hc := hc.only o6 (by omega)
  have e := Ext.own e o6 (fun k hk => by omega)
  refine ⟨_, ha.cell 3, ?_⟩
  refine set_step hb (by simp) (fun w7 o7 hb n7 => ?_)
  have ha := ha.only o7 (by omega)
  have hc := hc.only o7 (by omega)
  have e := Ext.own e o7 (fun k hk => by omega)
  refine ⟨_, hb.cell 0, _, hb.cell 1, _, hb.cell 2, _, hb.cell 3, ?_⟩
  refine put_step hc rfl rfl (fun w8 o8 hc n8 => ?_)
  have e := Ext.own e o8 (fun k hk => by omega)
  refine ⟨_, hc.cell 0, _, hc.cell 1, _, hc.cell 2, _, hc.cell 3, ?_⟩
  exact ⟨[.int .i64 x_0, .int .i64 x_1, .int .i64 x_2, .int .i64 x_3], rfl, frF_st (frF_cons (m := w.heap.size) (fr_int ws_0) (frF_cons (m := w.heap.size) (fr_int ws_1) (frF_cons (m := w.heap.size) (fr_int ws_2) (frF_cons (m := w.heap.size) (fr_int ws_3) (frF_nil) (by omega) (by omega)) (by omega) (by omega)) (by omega) (by omega)) (by omega) (by omega)), e⟩

/- toProcOpS -/
theorem c40 {l : List Dat} {a0 : Sl} {w : World} (ht : ∀ e, e ∈ l → Has TyProcOp e) (h : IsD w (.sl 4 l) [.slice a0.a a0.len a0.cap]) (hs : (Dat.sl 4 l).sz ≤ 4194304) : CallW Try.prog 40 #[.slice a0.a a0.len a0.cap] w (fun v w' => ∃ s : Sl, v = .slice s.a s.len s.cap ∧ Fr w.heap.size w'.heap.size w' (.sl 4 l) [.slice s.a s.len s.cap] ∧ Ext w w') := by
  refine go40 ?_
  unfold W40
  obtain ⟨hlen, hmax, hel⟩ := isD_sl h
  simp only [Dat.sz] at hs
  rw [hlen]; simp only [Int.toNat_natCast]
  refine ⟨by omega, by omega, by omega, by omega, LetW_iff.2 ?_⟩
  have hs0 := ToInv.start (w := w) (z := 4) (zero := ti90.zero) (e := 90) l rfl
  generalize w.alloc (.cells ⟨zerosOf ti90.zero l.length⟩ 90) = w1 at *
  refine LoopW.m1 (fun (i : Int) w' => ∃ (k : Nat) (bs : List Nat) (vs : List Value), i = k ∧ ToInv w w' w.heap.size 4 l k bs vs) (fun (i : Int) _ => (l.length - i).toNat) ⟨0, [], _, rfl, hs0⟩ ?_
  rintro (i : Int) w4 ⟨k, bs, vs, rfl, hi⟩ J hJ
  refine BIf.dec (fun hlt => ?_) (fun hge => ?_)
  · obtain ⟨d, hd⟩ : ∃ d, l[k]? = some d := ⟨_, List.getElem?_eq_getElem (by omega)⟩
    have hsz := szs_get hd
    obtain ⟨p, es, hp, he, hc, his⟩ := isD_at (IsD.ext hi.ext _ _ h) hd
    have ht0 := ht d (mem_get hd)
    obtain ⟨x_0, x_1, x_2, x_3, rfl⟩ := has_ProcOp ht0
    have his0 := his
    obtain ⟨rfl, ws_0, ws_1, ws_2, ws_3⟩ := cells_ProcOp his
    refine ⟨by omega, by omega, p, hp, _, hc 0 _ rfl, _, hc 1 _ rfl, _, hc 2 _ rfl, _, hc 3 _ rfl, (c50 (cs := [.int .i64 x_0, .int .i64 x_1, .int .i64 x_2, .int .i64 x_3]) ht0 his0 (by omega)).mono ?_⟩
    rintro _ w9 ⟨r, rfl, f, e9⟩
    have hr := f.is
    obtain ⟨rfl, wr_0, wr_1, wr_2, wr_3⟩ := cells_ProcOp hr
    obtain ⟨b1, ho, hn, hb⟩ := f
    obtain ⟨hm, hi2⟩ := hi.step hd e9 ho hn (fun c hc => (hb c hc).1) rfl
    refine ⟨_, _, _, _, rfl, by omega, by omega, _, rfl, hm, LetW_iff.2 ?_⟩
    rw [w64 (by omega) (by omega)]
    exact hJ _ _ ⟨k + 1, _, _, by omega, hi2⟩ (by omega)
  · exact ⟨⟨some ⟨w.heap.size, 0, none⟩, l.length, l.length⟩, rfl, (hi.done (by omega) hmax).fr, hi.ext⟩

/- eqProcRes -/
theorem c53 {d : Dat} {cs1 cs2 : List Value} {w : World} (ht : Has TyProcRes d) (h : IsD w d cs1) (h2 : IsD w d cs2) : CallW Try.prog 53 #[.agg ⟨cs1⟩, .agg ⟨cs2⟩] w (fun v w' => v = .bool true ∧ Ext w w') := by
  obtain ⟨x_0, x_1, x_2, rfl⟩ := has_ProcRes ht
  obtain ⟨rfl, ws_0, ws_1, ws_2⟩ := cells_ProcRes h
  obtain ⟨rfl, wu_0, wu_1, wu_2⟩ := cells_ProcRes h2
  show CallW Try.prog 53 #[.agg #[.int .i64 x_0, .int .i64 x_1, .int .i64 x_2], .agg #[.int .i64 x_0, .int .i64 x_1, .int .i64 x_2]] w _
  refine go53 ?_
  unfold W53
  refine alloc_step (fun w1 e1 ha n1 => ?_)
  refine alloc_step (fun w2 e2 hb n2 => ?_)
  have ha := ha.ext e2
  have e := Only.trans e1 e2
  refine ⟨_, ha.cell 0, _, hb.cell 0, BIf.f (by simp) ?_⟩
  refine ⟨_, ha.cell 1, _, hb.cell 1, BIf.f (by simp) ?_⟩
  refine ⟨_, ha.cell 2, _, hb.cell 2, BIf.f (by simp) ?_⟩
  exact ⟨rfl, e⟩

/- eqProcResS -/
theorem c42 {l : List Dat} {a0 a1 : Sl} {w : World} (ht : ∀ e, e ∈ l → Has TyProcRes e) (h : IsD w (.sl 3 l) [.slice a0.a a0.len a0.cap]) (h2 : IsD w (.sl 3 l) [.slice a1.a a1.len a1.cap]) : CallW Try.prog 42 #[.slice a0.a a0.len a0.cap, .slice a1.a a1.len a1.cap] w (fun v w' => v = .bool true ∧ Ext w w') := by
  refine go42 ?_
  unfold W42
  obtain ⟨hlen, hmax, hel⟩ := isD_sl h
  obtain ⟨hlen2, _, hel2⟩ := isD_sl h2
  have hmx : maxLen = 9223372036854775807 := rfl
  rw [hlen, hlen2]
  refine BIf.f (by simp) ?_
  refine LoopW.m1 (fun (i : Int) w' => ∃ k : Nat, i = k ∧ k ≤ l.length ∧ Ext w w') (fun (i : Int) _ => (l.length - i).toNat) ⟨0, rfl, by omega, Only.refl _ _⟩ ?_
  rintro (i : Int) w4 ⟨k, rfl, hk, e4⟩ J hJ
  refine BIf.dec (fun hlt => ?_) (fun hge => ⟨rfl, e4⟩)
  obtain ⟨d, hd⟩ : ∃ d, l[k]? = some d := ⟨_, List.getElem?_eq_getElem (by omega)⟩
  have e4 := Only.trans e4 (ext_drew w4)
  obtain ⟨p, es, hp, he, hc, his⟩ := isD_at (IsD.ext e4 _ _ h) hd
  obtain ⟨p2, es2, hp2, he2, hc2, his2⟩ := isD_at (IsD.ext e4 _ _ h2) hd
  have ht0 := ht d (mem_get hd)
  have ht1 := ht0
  obtain ⟨x_0, x_1, x_2, rfl⟩ := has_ProcRes ht1
  have his0 := his
  have his20 := his2
  obtain ⟨rfl, ws_0, ws_1, ws_2⟩ := cells_ProcRes his
  obtain ⟨rfl, wu_0, wu_1, wu_2⟩ := cells_ProcRes his2
  refine ⟨by omega, by omega, p, hp, _, hc 0 _ rfl, _, hc 1 _ rfl, _, hc 2 _ rfl, by omega, by omega, p2, hp2, _, hc2 0 _ rfl, _, hc2 1 _ rfl, _, hc2 2 _ rfl, (c53 (cs1 := [.int .i64 x_0, .int .i64 x_1, .int .i64 x_2]) (cs2 := [.int .i64 x_0, .int .i64 x_1, .int .i64 x_2]) ht0 his0 his20).mono ?_⟩
  rintro _ w9 ⟨rfl, e9⟩
  refine ⟨true, rfl, BIf.f rfl ?_⟩
  rw [w64 (by omega) (by omega)]
  exact hJ _ _ ⟨k + 1, by omega, by omega, Only.trans e4 e9⟩ (by omega)

/- eqProcOp -/
theorem c92 {d : Dat} {cs1 cs2 : List Value} {w : World} (ht : Has TyProcOp d) (h : IsD w d cs1) (h2 : IsD w d cs2) : CallW Try.prog 92 #[.agg ⟨cs1⟩, .agg ⟨cs2⟩] w (fun v w' => v = .bool true ∧ Ext w w') := by
  obtain ⟨x_0, x_1, x_2, x_3, rfl⟩ := has_ProcOp ht
  obtain ⟨rfl, ws_0, ws_1, ws_2, ws_3⟩ := cells_ProcOp h
  obtain ⟨rfl, wu_0, wu_1, wu_2, wu_3⟩ := cells_ProcOp h2
  show CallW Try.prog 92 #[.agg #[.int .i64 x_0, .int .i64 x_1, .int .i64 x_2, .int .i64 x_3], .agg #[.int .i64 x_0, .int .i64 x_1, .int .i64 x_2, .int .i64 x_3]] w _
  refine go92 ?_
  unfold W92
  refine alloc_step (fun w1 e1 ha n1 => ?_)
  refine alloc_step (fun w2 e2 hb n2 => ?_)
  have ha := ha.ext e2
  have e := Only.trans e1 e2
  refine ⟨_, ha.cell 0, _, hb.cell 0, BIf.f (by simp) ?_⟩
  refine ⟨_, ha.cell 1, _, hb.cell 1, BIf.f (by simp) ?_⟩
  refine ⟨_, ha.cell 2, _, hb.cell 2, BIf.f (by simp) ?_⟩
  refine ⟨_, ha.cell 3, _, hb.cell 3, BIf.f (by simp) ?_⟩
  exact ⟨rfl, e⟩

/- eqProcOpS -/
theorem c43 {l : List Dat} {a0 a1 : Sl} {w : World} (ht : ∀ e, e ∈ l → Has TyProcOp e) (h : IsD w (.sl 4 l) [.slice a0.a a0.len a0.cap]) (h2 : IsD w (.sl 4 l) [.slice a1.a a1.len a1.cap]) : CallW Try.prog 43 #[.slice a0.a a0.len a0.cap, .slice a1.a a1.len a1.cap] w (fun v w' => v = .bool true ∧ Ext w w') := by
  refine go43 ?_
  unfold W43
  obtain ⟨hlen, hmax, hel⟩ := isD_sl h
  obtain ⟨hlen2, _, hel2⟩ := isD_sl h2
  have hmx : maxLen = 9223372036854775807 := rfl
  rw [hlen, hlen2]
  refine BIf.f (by simp) ?_
  refine LoopW.m1 (fun (i : Int) w' => ∃ k : Nat, i = k ∧ k ≤ l.length ∧ Ext w w') (fun (i : Int) _ => (l.length - i).toNat) ⟨0, rfl, by omega, Only.refl _ _⟩ ?_
  rintro (i : Int) w4 ⟨k, rfl, hk, e4⟩ J hJ
  refine BIf.dec (fun hlt => ?_) (fun hge => ⟨rfl, e4⟩)
  obtain ⟨d, hd⟩ : ∃ d, l[k]? = some d := ⟨_, List.getElem?_eq_getElem (by omega)⟩
  have e4 := Only.trans e4 (ext_drew w4)
  obtain ⟨p, es, hp, he, hc, his⟩ := isD_at (IsD.ext e4 _ _ h) hd
  obtain ⟨p2, es2, hp2, he2, hc2, his2⟩ := isD_at (IsD.ext e4 _ _ h2) hd
  have ht0 := ht d (mem_get hd)
  have ht1 := ht0
  obtain ⟨x_0, x_1, x_2, x_3, rfl⟩ := has_ProcOp ht1
  have his0 := his
  have his20 := his2
  obtain ⟨rfl, ws_0, ws_1, ws_2, ws_3⟩ := cells_ProcOp his
  obtain ⟨rfl, wu_0, wu_1, wu_2, wu_3⟩ := cells_ProcOp his2
  refine ⟨by omega, by omega, p, hp, _, hc 0 _ rfl, _, hc 1 _ rfl, _, hc 2 _ rfl, _, hc 3 _ rfl, by omega, by omega, p2, hp2, _, hc2 0 _ rfl, _, hc2 1 _ rfl, _, hc2 2 _ rfl, _, hc2 3 _ rfl, (c92 (cs1 := [.int .i64 x_0, .int .i64 x_1, .int .i64 x_2, .int .i64 x_3]) (cs2 := [.int .i64 x_0, .int .i64 x_1, .int .i64 x_2, .int .i64 x_3]) ht0 his0 his20).mono ?_⟩
  rintro _ w9 ⟨rfl, e9⟩
  refine ⟨true, rfl, BIf.f rfl ?_⟩
  rw [w64 (by omega) (by omega)]
  exact hJ _ _ ⟨k + 1, by omega, by omega, Only.trans e4 e9⟩ (by omega)

/- markProcOpS -/
theorem c44 {l : List Dat} {a0 : Sl} {bs : List Nat} {k0 : Int} {w : World} (ht : ∀ e, e ∈ l → Has TyProcOp e) (h : OwnD w (.sl 4 l) bs [.slice a0.a a0.len a0.cap]) (hn : bs.Nodup) (h0 : 1 ≤ k0) (hk : k0 + Dat.cnts l ≤ 1099511627776) : CallW Try.prog 44 #[.slice a0.a a0.len a0.cap, .int .i64 k0] w (fun v w' => v = .int .i64 (k0 + Dat.cnts l) ∧ ∃ l', l'.length = l.length ∧ Dat.cnts l' = Dat.cnts l ∧ (∀ e, e ∈ l' → Has TyProcOp e) ∧ MarkedF TXT l' k0 ∧ OwnD w' (.sl 4 l') bs [.slice a0.a a0.len a0.cap] ∧ Only (fun k => k ∈ bs) w w') := by
  refine go44 ?_
  unfold W44
  obtain ⟨hlen, hmax⟩ := ownD_len h
  have hmx : maxLen = 9223372036854775807 := rfl
  rw [hlen]
  refine LoopW.m2 (fun (x i : Int) w' => ∃ (k : Nat) (l' : List Dat), i = k ∧ k ≤ l.length ∧ l'.length = k ∧ x = k0 + Dat.cnts l' ∧ Dat.cnts l' = Dat.cnts (l.take k) ∧ (∀ e, e ∈ l' → Has TyProcOp e) ∧ MarkedF TXT l' k0 ∧ OwnD w' (.sl 4 (l' ++ l.drop k)) bs [.slice a0.a a0.len a0.cap] ∧ Only (fun k => k ∈ bs) w w') (fun _ (i : Int) _ => (l.length - i).toNat) ⟨0, [], rfl, by omega, rfl, by simp [Dat.cnts], by simp [Dat.cnts], fun e he => (by cases he), markedF_nil, by simpa using h, Only.refl _ _⟩ ?_
  rintro (kx : Int) (i : Int) w4 ⟨k, l', rfl, hkl, hl', hx, hcn, hty, hmk, ho, o4⟩ J hJ
  refine BIf.dec (fun hlt => ?_) (fun hge => ?_)
  · obtain ⟨d, hd⟩ : ∃ d, l[k]? = some d := ⟨_, List.getElem?_eq_getElem (by omega)⟩
    have hcg := cnts_get hd
    have hct := cnts_take hd
    have ht0 := ht d (mem_get hd)
    obtain ⟨x_0, x_1, x_2, x_3, rfl⟩ := has_ProcOp ht0
    simp only [Dat.cnt, Dat.cnts] at hcg hct
    obtain ⟨b, bp, b1, bq, vp, v1, vq, ha, hbs, hvp, hod, hm, hvl, hlc, _⟩ := ownD_at ho (get_app hl' hd)
    rw [(take_app hl').1, (take_app hl').2] at hm
    have hv0 := hm.len
    have hbs0 := hbs
    rw [Int.toNat_natCast, ← hvp]
    simp (disch := omega) only [w64]
    have hbs : bs = b :: (bp ++ (([] ++ b1) ++ bq)) := hbs
    have me : ME w4 b 4 l' (l.drop (k + 1)) bp bq vp vq [] _ [] b1 [] v1 := ⟨hm, by unfold OwnF; exact ⟨rfl, rfl⟩, ownD_st hod, by rw [← hbs]; exact hn⟩
    refine ⟨by omega, by omega, _, ha, ?_⟩
    refine me.sc (d' := .int .i64 (kx)) sc_int (fun w => own_int (wf_i64 (by omega) (by omega))) rfl (fun w5 cr5 o5 me => ?_)
    have o4 := Only.trans o4 (o5.mono (fun c _ hc => by subst hc; rw [hbs]; simp))
    refine ⟨by omega, by omega, _, ha, ?_⟩
    refine me.sc (d' := .int .i64 (kx + 1)) sc_int (fun w => own_int (wf_i64 (by omega) (by omega))) rfl (fun w6 cr6 o6 me => ?_)
    have o4 := Only.trans o4 (o6.mono (fun c _ hc => by subst hc; rw [hbs]; simp))
    refine ⟨by omega, by omega, _, ha, ?_⟩
    refine me.sc (d' := .int .i64 (kx + 1 + 1)) sc_int (fun w => own_int (wf_i64 (by omega) (by omega))) rfl (fun w7 cr7 o7 me => ?_)
    have o4 := Only.trans o4 (o7.mono (fun c _ hc => by subst hc; rw [hbs]; simp))
    refine ⟨by omega, by omega, _, ha, ?_⟩
    refine me.sc (d' := .int .i64 (kx + 1 + 1 + 1)) sc_int (fun w => own_int (wf_i64 (by omega) (by omega))) rfl (fun w8 cr8 o8 me => ?_)
    have o4 := Only.trans o4 (o8.mono (fun c _ hc => by subst hc; rw [hbs]; simp))
    obtain ⟨hm2, hod2, hbr⟩ := me.fin
    subst hbr
    have hrow := row_close (bs := bs) (a0 := a0) hm2 hod2 hvp hl' (by omega) ha (by rw [hlen]) (by rw [hbs, List.append_nil]) (by have : (l' ++ l.drop k).length = l.length := (by simp; omega); omega) hmax hv0 hvl
    have hmkd : Marked TXT (.st [.int .i64 (kx), .int .i64 (kx + 1), .int .i64 (kx + 1 + 1), .int .i64 (kx + 1 + 1 + 1)]) kx := marked_st (markedF_cons (k := kx) (k' := kx + 1) (marked_int (by rw [w64 (by omega) (by omega)])) (markedF_cons (k := kx + 1) (k' := kx + 1 + 1) (marked_int (by rw [w64 (by omega) (by omega)])) (markedF_cons (k := kx + 1 + 1) (k' := kx + 1 + 1 + 1) (marked_int (by rw [w64 (by omega) (by omega)])) (markedF_cons (k := kx + 1 + 1 + 1) (k' := kx + 1 + 1 + 1 + 1) (marked_int (by rw [w64 (by omega) (by omega)])) (markedF_nil (k := kx + 1 + 1 + 1 + 1)) (by simp only [Dat.cnt]; omega)) (by simp only [Dat.cnt]; omega)) (by simp only [Dat.cnt]; omega)) (by simp only [Dat.cnt]; omega))
    have hhas : Has TyProcOp (.st [.int .i64 (kx), .int .i64 (kx + 1), .int .i64 (kx + 1 + 1), .int .i64 (kx + 1 + 1 + 1)]) := mk_st (mkF_cons mk_int (mkF_cons mk_int (mkF_cons mk_int (mkF_cons mk_int (mkF_nil)))))
    refine hJ _ _ _ ⟨k + 1, l' ++ [_], by omega, by omega, by simp; omega, ?_, ?_, has_snoc hty hhas, markedF_snoc hmk hmkd hx, hrow, o4⟩ (by omega)
    · rw [cnts_snoc]; simp only [Dat.cnt, Dat.cnts]; omega
    · rw [cnts_snoc, hct]; simp only [Dat.cnt, Dat.cnts]; omega
  · have hkl2 : k = l.length := by omega
    subst hkl2
    rw [List.take_length] at hcn
    rw [List.drop_length, List.append_nil, hlen] at ho
    exact ⟨by rw [hx, hcn], l', hl', hcn, hty, hmk, ho, o4⟩

/- markProcResS -/
theorem c45 {l : List Dat} {a0 : Sl} {bs : List Nat} {k0 : Int} {w : World} (ht : ∀ e, e ∈ l → Has TyProcRes e) (h : OwnD w (.sl 3 l) bs [.slice a0.a a0.len a0.cap]) (hn : bs.Nodup) (h0 : 1 ≤ k0) (hk : k0 + Dat.cnts l ≤ 1099511627776) : CallW Try.prog 45 #[.slice a0.a a0.len a0.cap, .int .i64 k0] w (fun v w' => v = .int .i64 (k0 + Dat.cnts l) ∧ ∃ l', l'.length = l.length ∧ Dat.cnts l' = Dat.cnts l ∧ (∀ e, e ∈ l' → Has TyProcRes e) ∧ MarkedF TXT l' k0 ∧ OwnD w' (.sl 3 l') bs [.slice a0.a a0.len a0.cap] ∧ Only (fun k => k ∈ bs) w w') := by
  refine go45 ?_
  unfold W45
  obtain ⟨hlen, hmax⟩ := ownD_len h
  have hmx : maxLen = 9223372036854775807 := rfl
  rw [hlen]
  refine LoopW.m2 (fun (x i : Int) w' => ∃ (k : Nat) (l' : List Dat), i = k ∧ k ≤ l.length ∧ l'.length = k ∧ x = k0 + Dat.cnts l' ∧ Dat.cnts l' = Dat.cnts (l.take k) ∧ (∀ e, e ∈ l' → Has TyProcRes e) ∧ MarkedF TXT l' k0 ∧ OwnD w' (.sl 3 (l' ++ l.drop k)) bs [.slice a0.a a0.len a0.cap] ∧ Only (fun k => k ∈ bs) w w') (fun _ (i : Int) _ => (l.length - i).toNat) ⟨0, [], rfl, by omega, rfl, by simp [Dat.cnts], by simp [Dat.cnts], fun e he => (by cases he), markedF_nil, by simpa using h, Only.refl _ _⟩ ?_
  rintro (kx : Int) (i : Int) w4 ⟨k, l', rfl, hkl, hl', hx, hcn, hty, hmk, ho, o4⟩ J hJ
  refine BIf.dec (fun hlt => ?_) (fun hge => ?_)
  · obtain ⟨d, hd⟩ : ∃ d, l[k]? = some d := ⟨_, List.getElem?_eq_getElem (by omega)⟩
    have hcg := cnts_get hd
    have hct := cnts_take hd
    have ht0 := ht d (mem_get hd)
    obtain ⟨x_0, x_1, x_2, rfl⟩ := has_ProcRes ht0
    simp only [Dat.cnt, Dat.cnts] at hcg hct
    obtain ⟨b, bp, b1, bq, vp, v1, vq, ha, hbs, hvp, hod, hm, hvl, hlc, _⟩ := ownD_at ho (get_app hl' hd)
    rw [(take_app hl').1, (take_app hl').2] at hm
    have hv0 := hm.len
    have hbs0 := hbs
    rw [Int.toNat_natCast, ← hvp]
    simp (disch := omega) only [w64]
    have hbs : bs = b :: (bp ++ (([] ++ b1) ++ bq)) := hbs
    have me : ME w4 b 3 l' (l.drop (k + 1)) bp bq vp vq [] _ [] b1 [] v1 := ⟨hm, by unfold OwnF; exact ⟨rfl, rfl⟩, ownD_st hod, by rw [← hbs]; exact hn⟩
    refine ⟨by omega, by omega, _, ha, ?_⟩
    refine me.sc (d' := .int .i64 (kx)) sc_int (fun w => own_int (wf_i64 (by omega) (by omega))) rfl (fun w5 cr5 o5 me => ?_)
    have o4 := Only.trans o4 (o5.mono (fun c _ hc => by subst hc; rw [hbs]; simp))
    refine ⟨by omega, by omega, _, ha, ?_⟩
    refine me.sc (d' := .int .i64 (kx + 1)) sc_int (fun w => own_int (wf_i64 (by omega) (by omega))) rfl (fun w6 cr6 o6 me => ?_)
    have o4 := Only.trans o4 (o6.mono (fun c _ hc => by subst hc; rw [hbs]; simp))
    refine ⟨by omega, by omega, _, ha, ?_⟩
    refine me.sc (d' := .int .i64 (kx + 1 + 1)) sc_int (fun w => own_int (wf_i64 (by omega) (by omega))) rfl (fun w7 cr7 o7 me => ?_)
    have o4 := Only.trans o4 (o7.mono (fun c _ hc => by subst hc; rw [hbs]; simp))
    obtain ⟨hm2, hod2, hbr⟩ := me.fin
    subst hbr
    have hrow := row_close (bs := bs) (a0 := a0) hm2 hod2 hvp hl' (by omega) ha (by rw [hlen]) (by rw [hbs, List.append_nil]) (by have : (l' ++ l.drop k).length = l.length := (by simp; omega); omega) hmax hv0 hvl
    have hmkd : Marked TXT (.st [.int .i64 (kx), .int .i64 (kx + 1), .int .i64 (kx + 1 + 1)]) kx := marked_st (markedF_cons (k := kx) (k' := kx + 1) (marked_int (by rw [w64 (by omega) (by omega)])) (markedF_cons (k := kx + 1) (k' := kx + 1 + 1) (marked_int (by rw [w64 (by omega) (by omega)])) (markedF_cons (k := kx + 1 + 1) (k' := kx + 1 + 1 + 1) (marked_int (by rw [w64 (by omega) (by omega)])) (markedF_nil (k := kx + 1 + 1 + 1)) (by simp only [Dat.cnt]; omega)) (by simp only [Dat.cnt]; omega)) (by simp only [Dat.cnt]; omega))
    have hhas : Has TyProcRes (.st [.int .i64 (kx), .int .i64 (kx + 1), .int .i64 (kx + 1 + 1)]) := mk_st (mkF_cons mk_int (mkF_cons mk_int (mkF_cons mk_int (mkF_nil))))
    refine hJ _ _ _ ⟨k + 1, l' ++ [_], by omega, by omega, by simp; omega, ?_, ?_, has_snoc hty hhas, markedF_snoc hmk hmkd hx, hrow, o4⟩ (by omega)
    · rw [cnts_snoc]; simp only [Dat.cnt, Dat.cnts]; omega
    · rw [cnts_snoc, hct]; simp only [Dat.cnt, Dat.cnts]; omega
  · have hkl2 : k = l.length := by omega
    subst hkl2
    rw [List.take_length] at hcn
    rw [List.drop_length, List.append_nil, hlen] at ho
    exact ⟨by rw [hx, hcn], l', hl', hcn, hty, hmk, ho, o4⟩

/- heldProcResS -/
theorem c46 {l : List Dat} {a0 : Sl} {k0 : Int} {w : World} (ht : ∀ e, e ∈ l → Has TyProcRes e) (h : IsD w (.sl 3 l) [.slice a0.a a0.len a0.cap]) (hm : MarkedF TXT l k0) (h0 : 1 ≤ k0) (hk : k0 + Dat.cnts l ≤ 1099511627776) : CallW Try.prog 46 #[.slice a0.a a0.len a0.cap, .int .i64 k0] w (fun v w' => v = .int .i64 (k0 + Dat.cnts l) ∧ Ext w w') := by
  refine go46 ?_
  unfold W46
  obtain ⟨hlen, hmax, _⟩ := isD_sl h
  have hmx : maxLen = 9223372036854775807 := rfl
  rw [hlen]
  refine LoopW.m2 (fun (x i : Int) w' => ∃ k : Nat, i = k ∧ k ≤ l.length ∧ x = k0 + Dat.cnts (l.take k) ∧ Ext w w') (fun _ (i : Int) _ => (l.length - i).toNat) ⟨0, rfl, by omega, by simp [Dat.cnts], Only.refl _ _⟩ ?_
  rintro (kx : Int) (i : Int) w4 ⟨k, rfl, hkl, hx, e4⟩ J hJ
  refine BIf.dec (fun hlt => ?_) (fun hge => ?_)
  · obtain ⟨d, hd⟩ : ∃ d, l[k]? = some d := ⟨_, List.getElem?_eq_getElem (by omega)⟩
    have hcg := cnts_get hd
    have hct := cnts_take hd
    have hmd := markedF_get hm hd
    rw [← hx] at hmd
    have ht0 := ht d (mem_get hd)
    obtain ⟨p, es, hp, he, hc, his⟩ := isD_at (IsD.ext e4 _ _ h) hd
    obtain ⟨x_0, x_1, x_2, rfl⟩ := has_ProcRes ht0
    obtain ⟨rfl, ws_0, ws_1, ws_2⟩ := cells_ProcRes his
    simp only [Dat.cnt, Dat.cnts] at hcg hct
    simp only [Marked, MarkedF, Dat.cnt, Dat.cnts] at hmd
    obtain ⟨m_0, m_1, m_2, _⟩ := hmd
    try simp (disch := omega) only [w64]
    refine ⟨by omega, by omega, p, hp, _, hc 0 _ rfl, BIf.f (by rw [m_0, w64 (by omega) (by omega)]; first | (simp; done) | (simp; omega)) ?_⟩
    refine ⟨by omega, by omega, p, hp, _, hc 1 _ rfl, BIf.f (by rw [m_1, w64 (by omega) (by omega)]; first | (simp; done) | (simp; omega)) ?_⟩
    refine ⟨by omega, by omega, p, hp, _, hc 2 _ rfl, BIf.f (by rw [m_2, w64 (by omega) (by omega)]; first | (simp; done) | (simp; omega)) ?_⟩
    exact hJ _ _ _ ⟨k + 1, by omega, by omega, by rw [hct]; omega, e4⟩ (by omega)
  · rw [List.take_of_length_le (by omega)] at hx
    exact ⟨by rw [hx], e4⟩

/- szProcS -/
/- szProcs -/
/- toProc -/
/- toProcS -/
/- toProcs -/
/- eqProc -/
/- eqProcS -/
/- eqProcs -/
/- markProcS -/
/- markProcs -/
/- heldProcS -/
/- heldProcs -/
end Go.Proofs.Yteigefjiifihpaa

/- The walk of a law: copies, both sides, comparisons; printed by a program. Conditions: none. -/
set_option linter.unusedVariables false
set_option linter.unusedSimpArgs false
set_option maxRecDepth 4000
namespace Go.Proofs.Yteigefjiifihpaa
open Go Go.Den
theorem goc7 {a0 : Sl} {w : World} {K : Value → World → Prop} (h : W7 a0 w K) : Calls Try.prog 7 #[.slice a0.a a0.len a0.cap] w (fun e w' => ∃ v, e = .returned v ∧ K v w') :=
 denFn_sound tt_ok mix Try.func7 (by kernel_rfl) (eq7 a0 w K ▸ h)
theorem walk7 {w : World} {ops : List DProcOp} {p0 : Sl} (h0 : IsD w (Dat.sl 4 (ops.map DProcOp.dat)) [.slice p0.a p0.len p0.cap]) : Calls Try.prog 7 #[.slice p0.a p0.len p0.cap] w (fun e w' => ∃ v, e = .returned v ∧ (v = .bool true ∧ Ext w w')) := by
 refine goc7 ?_
 unfold W7
 refine (c38 (pops_has ops) h0 (by omega) (by omega)).mono ?_
 rintro _ w2 ⟨⟨rw2, rfl, hrw2⟩, ew2⟩
 have e := ew2
 have zw2 := ew2.size
 refine ⟨_, rfl, ?_⟩
 refine BIf.dec (fun hn => ⟨rfl, e⟩) (fun hpw2 => ?_)
 have sz0 : (Dat.sl 4 (ops.map DProcOp.dat)).sz ≤ 1048576 := by omega
 refine (c40 (pops_has ops) (IsD.ext e _ _ h0) (by have := sz0; omega)).mono ?_
 rintro _ w5 ⟨yw5, rfl, fw5, ew5⟩
 have e := Only.trans e ew5
 have zw5 := ew5.size
 refine ⟨yw5, rfl, ?_⟩
 refine (specProcRun fw5.is sz0).mono ?_
 rintro _ w8 ⟨yw8_0, rfl, fw8_0, ew8⟩
 have fw5 := fw5.ext ew8
 have e := Only.trans e ew8
 have zw8 := ew8.size
 refine ⟨yw8_0, rfl, ?_⟩
 refine (c40 (pops_has ops) (IsD.ext e _ _ h0) (by have := sz0; omega)).mono ?_
 rintro _ w11 ⟨yw11, rfl, fw11, ew11⟩
 have fw5 := fw5.ext ew11
 have fw8_0 := fw8_0.ext ew11
 have e := Only.trans e ew11
 have zw11 := ew11.size
 refine ⟨yw11, rfl, ?_⟩
 refine (implProcRun fw11.is sz0).mono ?_
 rintro _ w14 ⟨yw14_0, rfl, fw14_0, ew14⟩
 have fw5 := fw5.ext ew14
 have fw8_0 := fw8_0.ext ew14
 have fw11 := fw11.ext ew14
 have e := Only.trans e ew14
 have zw14 := ew14.size
 refine ⟨yw14_0, rfl, ?_⟩
 refine (c42 (prun_has ops) fw14_0.is fw8_0.is).mono ?_
 rintro _ w17 ⟨rfl, ew17⟩
 have fw5 := fw5.ext ew17
 have fw8_0 := fw8_0.ext ew17
 have fw11 := fw11.ext ew17
 have fw14_0 := fw14_0.ext ew17
 have e := Only.trans e ew17
 have zw17 := ew17.size
 refine ⟨_, rfl, ?_⟩
 refine BIf.f rfl ?_
 refine (c40 (pops_has ops) (IsD.ext e _ _ h0) (by have := sz0; omega)).mono ?_
 rintro _ w20 ⟨yw20, rfl, fw20, ew20⟩
 have fw5 := fw5.ext ew20
 have fw8_0 := fw8_0.ext ew20
 have fw11 := fw11.ext ew20
 have fw14_0 := fw14_0.ext ew20
 have e := Only.trans e ew20
 have zw20 := ew20.size
 refine ⟨yw20, rfl, ?_⟩
 refine (c43 (pops_has ops) fw11.is fw20.is).mono ?_
 rintro _ w23 ⟨rfl, ew23⟩
 have fw5 := fw5.ext ew23
 have fw8_0 := fw8_0.ext ew23
 have fw11 := fw11.ext ew23
 have fw14_0 := fw14_0.ext ew23
 have fw20 := fw20.ext ew23
 have e := Only.trans e ew23
 have zw23 := ew23.size
 refine ⟨_, rfl, ?_⟩
 refine BIf.f rfl ?_
 obtain ⟨bsw26, oww26, ndw26, rgw26⟩ := fw11
 refine (c44 (pops_has ops) oww26 ndw26 (by omega) (by have := sz0; have := pops_cnt sz0; (try simp only [Dat.cntT, Dat.cntTs] at *); omega)).mono ?_
 rintro _ w26 ⟨rfl, dw26, _, cnw26, hsw26, mkw26, oww26, ow26⟩
 have fw5 := fw5.only ow26 (fun k h1 h2 hk => by have := rgw26 k hk; omega)
 have fw8_0 := fw8_0.only ow26 (fun k h1 h2 hk => by have := rgw26 k hk; omega)
 have fw14_0 := fw14_0.only ow26 (fun k h1 h2 hk => by have := rgw26 k hk; omega)
 have fw20 := fw20.only ow26 (fun k h1 h2 hk => by have := rgw26 k hk; omega)
 have e := Ext.own e ow26 (fun k hk => by have := rgw26 k hk; omega)
 have zw26 := ow26.size
 have fw26 : Fr _ _ w26 (.sl 4 dw26) _ := ⟨bsw26, oww26, ndw26, rgw26⟩
 refine ⟨_, rfl, ?_⟩
 refine JoinW.each ?_
 refine BIf.f (decide_eq_false (by omega)) ?_
 refine (c42 (prun_has ops) fw14_0.is fw8_0.is).mono ?_
 rintro _ w50 ⟨rfl, ew50⟩
 have fw5 := fw5.ext ew50
 have fw8_0 := fw8_0.ext ew50
 have fw14_0 := fw14_0.ext ew50
 have fw20 := fw20.ext ew50
 have fw26 := fw26.ext ew50
 have e := Only.trans e ew50
 have zw50 := ew50.size
 refine ⟨_, rfl, ?_⟩
 refine BIf.f (by first | (simp; done) | (simp; omega)) ?_
 obtain ⟨bsw32, oww32, ndw32, rgw32⟩ := fw14_0
 refine (c45 (prun_has ops) oww32 ndw32 (by omega) (by have := prun_cnt (ops := ops); omega)).mono ?_
 rintro _ w32 ⟨rfl, dw32, _, cnw32, hsw32, mkw32, oww32, ow32⟩
 have fw5 := fw5.only ow32 (fun k h1 h2 hk => by have := rgw32 k hk; omega)
 have fw8_0 := fw8_0.only ow32 (fun k h1 h2 hk => by have := rgw32 k hk; omega)
 have fw20 := fw20.only ow32 (fun k h1 h2 hk => by have := rgw32 k hk; omega)
 have fw26 := fw26.only ow32 (fun k h1 h2 hk => by have := rgw32 k hk; omega)
 have e := Ext.own e ow32 (fun k hk => by have := rgw32 k hk; omega)
 have zw32 := ow32.size
 have fw32 : Fr _ _ w32 (.sl 3 dw32) _ := ⟨bsw32, oww32, ndw32, rgw32⟩
 refine ⟨_, rfl, ?_⟩
 refine (c46 hsw32 fw32.is mkw32 (by omega) (by have := cnw32; have := prun_cnt (ops := ops); omega)).mono ?_
 rintro _ w35 ⟨rfl, ew35⟩
 have fw5 := fw5.ext ew35
 have fw8_0 := fw8_0.ext ew35
 have fw20 := fw20.ext ew35
 have fw26 := fw26.ext ew35
 have fw32 := fw32.ext ew35
 have e := Only.trans e ew35
 have zw35 := ew35.size
 refine ⟨_, rfl, ?_⟩
 refine BIf.f (decide_eq_false (by omega)) ?_
 refine BIf.f (by first | (simp; done) | (simp; omega)) ?_
 refine (c40 (pops_has ops) (IsD.ext e _ _ h0) (by have := sz0; omega)).mono ?_
 rintro _ w38 ⟨yw38, rfl, fw38, ew38⟩
 have fw5 := fw5.ext ew38
 have fw8_0 := fw8_0.ext ew38
 have fw20 := fw20.ext ew38
 have fw26 := fw26.ext ew38
 have fw32 := fw32.ext ew38
 have e := Only.trans e ew38
 have zw38 := ew38.size
 refine ⟨yw38, rfl, ?_⟩
 refine (implProcRun fw38.is sz0).mono ?_
 rintro _ w41 ⟨yw41_0, rfl, fw41_0, ew41⟩
 have fw5 := fw5.ext ew41
 have fw8_0 := fw8_0.ext ew41
 have fw20 := fw20.ext ew41
 have fw26 := fw26.ext ew41
 have fw32 := fw32.ext ew41
 have fw38 := fw38.ext ew41
 have e := Only.trans e ew41
 have zw41 := ew41.size
 refine ⟨yw41_0, rfl, ?_⟩
 refine (c42 (prun_has ops) fw41_0.is fw8_0.is).mono ?_
 rintro _ w44 ⟨rfl, ew44⟩
 have fw5 := fw5.ext ew44
 have fw8_0 := fw8_0.ext ew44
 have fw20 := fw20.ext ew44
 have fw26 := fw26.ext ew44
 have fw32 := fw32.ext ew44
 have fw38 := fw38.ext ew44
 have fw41_0 := fw41_0.ext ew44
 have e := Only.trans e ew44
 have zw44 := ew44.size
 refine ⟨_, rfl, ?_⟩
 refine BIf.f rfl ?_
 refine (c46 hsw32 fw32.is mkw32 (by omega) (by have := cnw32; have := prun_cnt (ops := ops); omega)).mono ?_
 rintro _ w47 ⟨rfl, ew47⟩
 have fw5 := fw5.ext ew47
 have fw8_0 := fw8_0.ext ew47
 have fw20 := fw20.ext ew47
 have fw26 := fw26.ext ew47
 have fw32 := fw32.ext ew47
 have fw38 := fw38.ext ew47
 have fw41_0 := fw41_0.ext ew47
 have e := Only.trans e ew47
 have zw47 := ew47.size
 refine ⟨_, rfl, ?_⟩
 refine BIf.f (decide_eq_false (by omega)) ?_
 refine BIf.f (by first | (simp; done) | (simp; omega)) ?_
 exact ⟨by trivial, e⟩
open Go.RowKit in
theorem law_calls7 {w : World} {a0 : Option Addr} {len0 cap0 : Nat} {ops : List DProcOp} (h0 : (cSlice cDProcOp).is w [.slice a0 len0 cap0] ops) : Calls Try.prog 7 #[.slice a0 len0 cap0] w (fun e w' => e = .returned (.bool true) ∧ Below w.heap.size w w') :=
 (walk7 (p0 := ⟨a0, len0, cap0⟩) (isD_mkSl (f := DProcOp.dat) h0 (fun es x hx => cDProcOp_dat hx))).mono (by rintro e w' ⟨v, rfl, rfl, he⟩; exact ⟨rfl, he.below⟩)
end Go.Proofs.Yteigefjiifihpaa

/- The row of the law FnExactProcRun: what its walk shows is what the statement says. Conditions: none. -/
namespace Go.Proofs.Yteigefjiifihpaa.fnExactProcRun
open Go.ChangeShapes Go.WideShapes Go.ChangeAt Go.RowKit
open Go.ChangeMaps (open_string shut_string)
set_option linter.unusedVariables false
theorem own : ownKnob Try.prog.godebug = none := by kernel_rfl
theorem laidOut : laidOutB Try.prog = true := by kernel_rfl
set_option maxRecDepth 100000 in
theorem lifted (os : Os) (started : os.Started) (H : Type) (enc : TypeId × Value → H) :
    ReturnsInHanded {} Try.checked os 7 .any (Rows.fnExactProcRunSpec.pre6 enc Try.prog Try.f7 Rows.fnExactProcRunRow.domain false) (Rows.fnExactProcRunSpec.post enc Try.prog Try.f7 false true false false) := by
  refine returnsInHanded_of_change_sized (C := Try.checked) own started (by kernel_rfl) Try.func7
    (ChangeSpec.witness6 (enc := enc) (C := Try.checked) false ⟨#[], #[.slice none 0 0], []⟩ 8 (by kernel_rfl) (by kernel_rfl) (by kernel_rfl) (by kernel_rfl)) ?_
  intro W base args ds gs before hval0 hW hcnd hsz0 _
  have hsz : (DataW.weightsEach Try.prog (Try.f7.params.toList ++ Rows.fnExactProcRunSpec.plain.varTypes Try.prog) (ds ++ gs)).all (· ≤ reachBytes) = true := hsz0
  have hval : ∀ (j : Nat) t v, Try.f7.params[j]? = some t → args[j]? = some v → Value.okWide Try.prog W .any base t v := hval0
  have hW' := hW
  obtain ⟨p, q, hA0, hV, rfl, hfz, hnd⟩ := hW
  have hA : DataW.TrodAll enc Try.prog W 0 (fun _ => true) true Try.f7.params.toList args.toList ds p := hA0
  rw [Try.params7] at hA hval hsz
  obtain ⟨v0, vs0, d0, ds0, p0, q0, hargs, rfl, rfl, h0, r0⟩ := trodAll_cons hA
  obtain ⟨rfl, rfl, rfl⟩ := trodAll_nil r0
  obtain rfl : args = #[v0] := by cases args; simp_all
  obtain ⟨rfl, rfl⟩ := trodVars_none hV
  have k0 := h0
  have lt0 : ∀ x ∈ p0, x.block < W.heap.size := by obtain ⟨m, hm⟩ := k0; exact DataW.trod_lt m _ _ _ hm
  obtain ⟨a0, len0, cap0, rfl⟩ := okWide_slice Try.underlying65 (hval 0 65 v0 rfl rfl)
  obtain ⟨x0, w0⟩ : ∃ x, (Go.Den.cSlice cDProcOp).is W [.slice a0 len0 cap0] x := by obtain ⟨fuel, hf⟩ := h0; exact ((o65).at_ enc W fuel _ _ hf).2
  clear hA0 hval0 hsz0 hsz
  refine (law_calls7 w0).mono fun e W' ⟨he, bel⟩ => ?_
  subst he
  exact ⟨_, rfl, _, _, _, [], _, [], hW', trodAll_mk1 (shut_bool Try.underlying4 _), (trodAll_cons_mk (Below.trod laidOut (by kernel_rfl) (of_decide_eq_true (by kernel_rfl)) k0 bel lt0) trodAll_mk0), rfl, bel.frame _, fun h => by cases h⟩
theorem over : Rows.fnExactProcRunRow.holds Try.pinned (OpenSpec.ofChange Rows.fnExactProcRunSpec) :=
  OpenClaim.holds_of_wide 7 Try.f7 rfl rfl rfl rfl rfl rfl rfl ⟨rfl, rfl, rfl, rfl, rfl⟩ rfl rfl rfl rfl rfl (by kernel_rfl) Try.func7 (by kernel_rfl)
    (of_decide_eq_true (by kernel_rfl)) (by unfold Func.isWrapper; first | (rw [if_pos (by decide +kernel)]; kernel_rfl) | (rw [if_neg (by decide +kernel)]; exact ⟨rfl, rfl⟩))
    (fun os started H enc _ => lifted os started H enc)
theorem proved : Rows.FnExactProcRunSaid := over
#print axioms proved
end Go.Proofs.Yteigefjiifihpaa.fnExactProcRun
namespace Go.Proofs.Yteigefjiifihpaa
/-- The row, under a short name, for the claim. -/
theorem fnExactProcRun_holds : Rows.FnExactProcRunSaid := fnExactProcRun.proved
end Go.Proofs.Yteigefjiifihpaa
