/- Part 4 of 4: plain readings of code, rules for them, and a proof over them, joined by a program. Conditions: none. -/
import Derived.Test.YtenhcpjlkmbedaaImg3
import Derived.Test.YtenhcpjlkmbedaaRows
import Derived.WalkKit
import Derived.ProofKit
import Derived.OpenShut
import Derived.ShutString
import Derived.ChangeOld
import Derived.Below
import Derived.Carry
import Derived.SizedLaws
/- Images in memory; the program's check, numbers and packing. Conditions: none. -/
set_option linter.unusedVariables false
set_option linter.unusedSimpArgs false
namespace Go.Proofs.Ytenhcpjlkmbedaa
open Go Go.Den
structure RSeg where
  Va : Int
  Prot : Int
  Size : Int
  D : Sl
  Data : List Int
def RSeg.cells (x : RSeg) : List Value := [.int .i64 x.Va, .int .i64 x.Prot, .int .i64 x.Size, .slice x.D.a x.D.len x.D.cap]
def RSeg.abs (x : RSeg) : ISeg := ⟨x.Va, x.Prot, x.Size, x.Data⟩
def segA (x : RSeg) : Asr := rD x.D x.Data
abbrev rS (t : Sl) (l : List RSeg) : Asr := aRow t 4 (recs RSeg.cells l)
abbrev bS (l : List RSeg) : Asr := aBag segA l
abbrev BS (b : Nat) (x : RSeg) : Asr := aB b (x.cells.map Ce.v)
abbrev BI (b : Nat) (e : Int) (t : Sl) : Asr := aB b (([.int .i64 e, .slice t.a t.len t.cap] : List Value).map Ce.v)
abbrev iV (e : Int) (t : Sl) : Value := .agg #[.int .i64 e, .slice t.a t.len t.cap]
theorem plain_seg (x : RSeg) : ∀ v, v ∈ x.cells → plainB v = true := fun v hv => by
  simp only [RSeg.cells, List.mem_cons, List.not_mem_nil, or_false] at hv
  rcases hv with rfl | rfl | rfl | rfl <;> rfl
structure LentI (w : World) (t : Sl) (l : List RSeg) : Prop where
  recs_ : RecsAt w t 4 RSeg.cells l
  each : ∀ x, x ∈ l → ByAt w x.D x.Data
theorem LentI.ext {w w' : World} {t : Sl} {l : List RSeg} (h : LentI w t l) (e : Ext w w') : LentI w' t l := ⟨h.recs_.ext e, fun x hx => (h.each x hx).ext e⟩
theorem lentI_of {w0 w : World} {As : List Asr} {t : Sl} {l : List RSeg} (h : SH w0 w As) (i j : Nat) (hi : As[i]? = some (rS t l)) (hj : As[j]? = some (bS l)) (hl : l.length ≤ 1000) (hb : ∀ x, x ∈ l → inBy x.Data ∧ x.Data.length ≤ 1099511627776) : LentI w t l :=
  ⟨h.recsAt i hi (fun _ => rfl) (by omega), fun x hx => by
    obtain ⟨m, hm⟩ := List.getElem?_of_mem hx
    have g := SH.bagOut (h.front hj) hm
    exact SH.byAt (s := x.D) g 0 rfl (hb x hx).1 (hb x hx).2⟩
/-! ## The check -/
def chkF (e : Int) : Int → Bool → List ISeg → Bool
  | _, b, [] => b
  | en, b, s :: r => if s.Va % 256 = 0 ∧ en ≤ s.Va ∧ s.Va ≤ 4194304 ∧ 1 ≤ s.Size ∧ s.Size ≤ 65536 ∧ s.Va + s.Size ≤ 4194304 ∧ (s.Data.length : Int) ≤ s.Size ∧ (s.Prot = 1 ∨ s.Prot = 3 ∨ s.Prot = 5) then chkF e (s.Va + pagesF s.Size) (b || holdsF e s) r else false
def imgB (m : IImg) : Bool := decide (1 ≤ m.Segs.length ∧ m.Segs.length ≤ 8 ∧ m.Entry % 4 = 0) && chkF m.Entry 256 false m.Segs
theorem chk_iff (e : Int) : ∀ (l : List ISeg) (en : Int) (b : Bool), 256 ≤ en → (chkF e en b l = true ↔ SegsOk en l ∧ (b = true ∨ l.any (holdsF e) = true))
  | [], en, b, _ => by simp [chkF, SegsOk]
  | s :: r, en, b, hen => by
    unfold chkF SegsOk
    split
    · rename_i h
      have hp : 256 ≤ s.Va + pagesF s.Size := by unfold pagesF; omega
      rw [chk_iff e r _ _ hp, List.any_cons, Bool.or_eq_true, Bool.or_eq_true]
      have hs : SegOk s := ⟨by omega, h.2.2.1, h.1, h.2.2.2.1, h.2.2.2.2.1, h.2.2.2.2.2.1, h.2.2.2.2.2.2.1, h.2.2.2.2.2.2.2⟩
      constructor
      · rintro ⟨h1, h2⟩
        exact ⟨⟨h.2.1, hs, h1⟩, by rcases h2 with (h2 | h2) | h2; exact .inl h2; exact .inr (.inl h2); exact .inr (.inr h2)⟩
      · rintro ⟨⟨_, _, h1⟩, h2⟩
        exact ⟨h1, by rcases h2 with h2 | h2 | h2; exact .inl (.inl h2); exact .inl (.inr h2); exact .inr h2⟩
    · rename_i h
      constructor
      · intro h1; cases h1
      · rintro ⟨⟨h1, ⟨a1, a2, a3, a4, a5, a6, a7, a8⟩, _⟩, _⟩
        exact absurd ⟨a3, h1, a2, a4, a5, a6, a7, a8⟩ h
theorem imgB_iff (m : IImg) : imgB m = true ↔ ImgOk m := by
  unfold imgB
  rw [Bool.and_eq_true, decide_eq_true_iff, chk_iff _ _ _ _ (Int.le_refl _)]
  constructor
  · rintro ⟨⟨a, b, c⟩, d, e⟩
    exact ⟨a, b, c, d, by rcases e with e | e; cases e; exact e⟩
  · rintro ⟨a, b, c, d, e⟩
    exact ⟨⟨a, b, c⟩, d, .inr e⟩
theorem tm0 {x c : Int} : x.tmod c = 0 ↔ x % c = 0 := ⟨fun h => Int.emod_eq_zero_of_dvd (Int.dvd_of_tmod_eq_zero h), fun h => Int.tmod_eq_zero_of_dvd (Int.dvd_of_emod_eq_zero h)⟩
theorem s132 {n : Int} {w : World} (h0 : 1 ≤ n) (h1 : n ≤ 65536) : CallW Try.prog 132 #[.int .i64 n] w (fun v w' => v = .int .i64 (pagesF n) ∧ w' = w) := by
  refine go132 ?_
  unfold W132
  rw [w64 (n := n + 256) (by omega) (by omega), w64 (n := n + 256 - 1) (by omega) (by omega), Int.tdiv_eq_ediv_of_nonneg (by omega), w64 (n := (n + 256 - 1) / 256) (by omega) (by omega), w64 (by omega) (by omega)]
  refine ⟨by decide, ?_, rfl⟩
  unfold pagesF
  congr 3; omega
set_option maxRecDepth 4000 in
set_option maxHeartbeats 2000000 in
theorem s68 {w : World} {e : Int} {t : Sl} {l : List RSeg} (hL : LentI w t l) : CallW Try.prog 68 #[iV e t] w (fun v w' => v = .bool (imgB ⟨e, l.map RSeg.abs⟩) ∧ Ext w w') := by
  refine go68 (a0_0 := e) (a0_1 := t) ?_
  unfold W68
  have htl := hL.recs_.len
  have hfw := hL.recs_.few
  have h := SH.start w
  refine h.alloc (fun w1 h e1 n1 => ?_)
  generalize w.heap.size = cb at *
  have h : SH w w1 [BI cb e t] := h
  refine ⟨t, h.cell 0 rfl rfl, ?_⟩
  refine JoinW.cut1 (fun (b : Bool) w' => (b = true ↔ ¬ (1 ≤ l.length ∧ l.length ≤ 8)) ∧ w' = w1) (BIf.dec (fun hc => ⟨⟨fun _ => by omega, fun _ => rfl⟩, rfl⟩) (fun hc => ⟨t, h.cell 0 rfl rfl, by rw [decide_eq_true_iff]; omega, rfl⟩)) ?_
  rintro (b3 : Bool) w5 ⟨hb3, rfl⟩
  refine JoinW.cut1 (fun (b : Bool) w' => (b = true ↔ ¬ (1 ≤ l.length ∧ l.length ≤ 8 ∧ e % 4 = 0)) ∧ w' = w5) (BIf.of (fun hc => ⟨⟨fun _ => by have := hb3.1 hc; omega, fun _ => rfl⟩, rfl⟩) (fun hc => ⟨_, h.cell 0 rfl rfl, by decide, ?_, by trivial⟩)) ?_
  · have h3 : (1 ≤ l.length ∧ l.length ≤ 8) := Decidable.not_not.1 (fun hh => by rw [hb3.2 hh] at hc; cases hc)
    rw [bne_iff_ne, ne_eq, tm0]
    omega
  rintro (b6 : Bool) w8 ⟨hb6, rfl⟩
  have hpre : imgB ⟨e, l.map RSeg.abs⟩ = (decide (1 ≤ l.length ∧ l.length ≤ 8 ∧ e % 4 = 0) && chkF e 256 false (l.map RSeg.abs)) := by unfold imgB; simp only [List.length_map]
  rw [hpre]
  refine BIf.of (fun hc => ?_) (fun hc => ?_)
  · rw [decide_eq_false (hb6.1 hc), Bool.false_and]; exact ⟨rfl, h.ext⟩
  have hg : 1 ≤ l.length ∧ l.length ≤ 8 ∧ e % 4 = 0 := Decidable.not_not.1 (fun hh => by rw [hb6.2 hh] at hc; cases hc)
  rw [decide_eq_true hg, Bool.true_and]
  clear hpre
  generalize hR : chkF e 256 false (l.map RSeg.abs) = R
  refine ⟨t, h.cell 0 rfl rfl, ?_⟩
  refine LoopW.m3 (fun (en : Int) (b : Bool) (i : Int) w' => ∃ k : Nat, i = k ∧ k ≤ l.length ∧ 256 ≤ en ∧ chkF e en b ((l.map RSeg.abs).drop k) = R ∧ SH w w' [BI cb e t]) (fun _ _ (i : Int) _ => (l.length - i).toNat) ⟨0, rfl, by omega, by omega, hR, h⟩ ?_
  clear h
  rintro (en : Int) (b11 : Bool) (i : Int) w14 ⟨k, rfl, hk, hen, hch, h⟩ J hJ
  refine BIf.dec (fun hlt => ?_) (fun hge => ?_)
  rotate_left
  · obtain rfl : k = l.length := by omega
    rw [List.drop_of_length_le (by rw [List.length_map]; omega)] at hch
    exact ⟨by rw [← hch]; rfl, h.ext⟩
  have hx : l[k]? = some l[k] := List.getElem?_eq_getElem (by omega)
  generalize l[k] = x at hx
  obtain ⟨q, hq, hc⟩ := (hL.recs_.ext h.ext).get (by decide) hx
  have hxd := (hL.each x (List.mem_of_getElem? hx)).len
  have hdr : (l.map RSeg.abs).drop k = x.abs :: (l.map RSeg.abs).drop (k + 1) := by
    rw [List.drop_eq_getElem_cons (i := k) (by rw [List.length_map]; omega)]
    congr 1
    have := (List.getElem?_eq_some_iff.1 hx).2
    rw [List.getElem_map, this]
  rw [hdr] at hch
  unfold chkF at hch
  have a1 : x.abs.Va = x.Va := rfl
  have a2 : x.abs.Size = x.Size := rfl
  have a3 : x.abs.Prot = x.Prot := rfl
  have a4 : x.abs.Data = x.Data := rfl
  rw [a1, a2, a3, a4] at hch
  simp only [Int.toNat_natCast]
  rw [w64 (n := (k : Int) + 1) (by omega) (by omega)]
  refine ⟨by omega, by omega, q, hq, _, hc 0 _ rfl, _, hc 1 _ rfl, _, hc 2 _ rfl, x.D, hc 3 _ rfl, ?_⟩
  refine h.alloc (fun w20 h e20 n20 => ?_)
  refine h.put 0 rfl rfl rfl (fun w21 h n21 => ?_)
  generalize w14.heap.size = xb at *
  have h : SH w w21 [BS xb x, BI cb e t] := h
  refine ⟨_, h.cell 0 rfl rfl, by decide, ?_⟩
  refine JoinW.cut1 (fun (b : Bool) w' => (b = true ↔ ¬ (x.Va % 256 = 0 ∧ en ≤ x.Va)) ∧ w' = w21) (BIf.of (fun hc => ⟨⟨fun _ => by rw [bne_iff_ne, ne_eq, tm0] at hc; omega, fun _ => rfl⟩, rfl⟩) (fun hc => ⟨_, h.cell 0 rfl rfl, by rw [bne_eq_false_iff_eq, tm0] at hc; rw [decide_eq_true_iff]; omega, rfl⟩)) ?_
  rintro (b23 : Bool) w25 ⟨hb23, rfl⟩
  refine JoinW.cut1 (fun (b : Bool) w' => (b = true ↔ ¬ (x.Va % 256 = 0 ∧ en ≤ x.Va ∧ x.Va ≤ 4194304)) ∧ w' = w25) (BIf.of (fun hc => ⟨⟨fun _ => by have := hb23.1 hc; omega, fun _ => rfl⟩, rfl⟩) (fun hc => ⟨_, h.cell 0 rfl rfl, by have h3 := Decidable.not_not.1 (fun hh => by rw [hb23.2 hh] at hc; cases hc); rw [decide_eq_true_iff]; omega, rfl⟩)) ?_
  rintro (b26 : Bool) w28 ⟨hb26, rfl⟩
  refine JoinW.cut1 (fun (b : Bool) w' => (b = true ↔ ¬ (x.Va % 256 = 0 ∧ en ≤ x.Va ∧ x.Va ≤ 4194304 ∧ 1 ≤ x.Size)) ∧ w' = w28) (BIf.of (fun hc => ⟨⟨fun _ => by have := hb26.1 hc; omega, fun _ => rfl⟩, rfl⟩) (fun hc => ⟨_, h.cell 0 rfl rfl, by have h3 := Decidable.not_not.1 (fun hh => by rw [hb26.2 hh] at hc; cases hc); rw [decide_eq_true_iff]; omega, rfl⟩)) ?_
  rintro (b29 : Bool) w31 ⟨hb29, rfl⟩
  refine JoinW.cut1 (fun (b : Bool) w' => (b = true ↔ ¬ (x.Va % 256 = 0 ∧ en ≤ x.Va ∧ x.Va ≤ 4194304 ∧ 1 ≤ x.Size ∧ x.Size ≤ 65536)) ∧ w' = w31) (BIf.of (fun hc => ⟨⟨fun _ => by have := hb29.1 hc; omega, fun _ => rfl⟩, rfl⟩) (fun hc => ⟨_, h.cell 0 rfl rfl, by have h3 := Decidable.not_not.1 (fun hh => by rw [hb29.2 hh] at hc; cases hc); rw [decide_eq_true_iff]; omega, rfl⟩)) ?_
  rintro (b32 : Bool) w34 ⟨hb32, rfl⟩
  refine JoinW.cut1 (fun (b : Bool) w' => (b = true ↔ ¬ (x.Va % 256 = 0 ∧ en ≤ x.Va ∧ x.Va ≤ 4194304 ∧ 1 ≤ x.Size ∧ x.Size ≤ 65536 ∧ x.Va + x.Size ≤ 4194304)) ∧ w' = w34) (BIf.of (fun hc => ⟨⟨fun _ => by have := hb32.1 hc; omega, fun _ => rfl⟩, rfl⟩) (fun hc => ⟨_, h.cell 0 rfl rfl, _, h.cell 0 rfl rfl, by have h3 := Decidable.not_not.1 (fun hh => by rw [hb32.2 hh] at hc; cases hc); rw [w64 (n := x.Va + x.Size) (by omega) (by omega), decide_eq_true_iff]; omega, rfl⟩)) ?_
  rintro (b35 : Bool) w37 ⟨hb35, rfl⟩
  refine JoinW.cut1 (fun (b : Bool) w' => (b = true ↔ ¬ (x.Va % 256 = 0 ∧ en ≤ x.Va ∧ x.Va ≤ 4194304 ∧ 1 ≤ x.Size ∧ x.Size ≤ 65536 ∧ x.Va + x.Size ≤ 4194304 ∧ (x.Data.length : Int) ≤ x.Size)) ∧ w' = w37) (BIf.of (fun hc => ⟨⟨fun _ => by have := hb35.1 hc; omega, fun _ => rfl⟩, rfl⟩) (fun hc => ⟨x.D, h.cell 0 rfl rfl, _, h.cell 0 rfl rfl, by have h3 := Decidable.not_not.1 (fun hh => by rw [hb35.2 hh] at hc; cases hc); rw [decide_eq_true_iff]; omega, by trivial⟩)) ?_
  rintro (b38 : Bool) w40 ⟨hb38, rfl⟩
  refine JoinW.cut1 (fun (b : Bool) w' => (b = true ↔ ¬ (x.Va % 256 = 0 ∧ en ≤ x.Va ∧ x.Va ≤ 4194304 ∧ 1 ≤ x.Size ∧ x.Size ≤ 65536 ∧ x.Va + x.Size ≤ 4194304 ∧ (x.Data.length : Int) ≤ x.Size ∧ (x.Prot = 1 ∨ x.Prot = 3 ∨ x.Prot = 5))) ∧ w' = w40) (BIf.of (fun hc => ⟨⟨fun _ => by have := hb38.1 hc; omega, fun _ => rfl⟩, rfl⟩) (fun hc => ?_)) ?_
  · have h3 := Decidable.not_not.1 (fun hh => by rw [hb38.2 hh] at hc; cases hc)
    refine ⟨_, h.cell 0 rfl rfl, BIf.ne (fun p1 => ⟨_, h.cell 0 rfl rfl, BIf.ne (fun p3 => ⟨_, h.cell 0 rfl rfl, by rw [bne_iff_ne]; omega, rfl⟩) (fun p3 => ⟨⟨(fun e => by cases e), (fun hh => by omega)⟩, rfl⟩)⟩) (fun p1 => ⟨⟨(fun e => by cases e), (fun hh => by omega)⟩, rfl⟩)⟩
  rintro (b41 : Bool) w43 ⟨hb41, rfl⟩
  refine BIf.of (fun hc => ?_) (fun hc => ?_)
  · rw [if_neg (hb41.1 hc)] at hch
    exact ⟨by rw [← hch], h.ext⟩
  have h3 := Decidable.not_not.1 (fun hh => by rw [hb41.2 hh] at hc; cases hc)
  rw [if_pos h3] at hch
  have h := h.drew
  refine ⟨_, h.cell 0 rfl rfl, _, h.cell 0 rfl rfl, (s132 (by omega) (by omega)).mono ?_⟩
  rintro _ w47 ⟨rfl, rfl⟩
  have hpg : pagesF x.Size ≤ 65536 + 256 ∧ 0 ≤ pagesF x.Size := by unfold pagesF; omega
  refine ⟨_, rfl, ⟨_, h.cell 0 rfl rfl, by first | rfl | trivial⟩, ?_⟩
  rw [w64 (n := x.Va + pagesF x.Size) (by omega) (by omega)]
  refine JoinW.cut1 (fun (b : Bool) w' => b = (b11 || holdsF e x.abs) ∧ w' = w43.drew) (BIf.of (fun hb => ⟨by rw [hb, Bool.true_or], rfl⟩) (fun hb => ?_)) ?_
  · rw [hb, Bool.false_or]
    unfold holdsF
    rw [a1, a2, a3]
    refine ⟨_, h.cell 0 rfl rfl, BIf.eq (fun p5 => ⟨_, h.cell 1 rfl rfl, _, h.cell 0 rfl rfl, BIf.dec (fun hg1 => ⟨_, h.cell 1 rfl rfl, _, h.cell 0 rfl rfl, _, h.cell 0 rfl rfl, ?_, rfl⟩) (fun hg1 => ⟨(decide_eq_false (by omega)).symm, rfl⟩)⟩) (fun p5 => ⟨(decide_eq_false (by omega)).symm, rfl⟩)⟩
    rw [w64 (n := x.Va + x.Size) (by omega) (by omega), Bool.eq_iff_iff, decide_eq_true_iff, decide_eq_true_iff]
    omega
  rintro (b50 : Bool) w52 ⟨rfl, rfl⟩
  exact hJ _ _ _ _ ⟨k + 1, by omega, by omega, by omega, hch, h.drop⟩ (by omega)
end Go.Proofs.Ytenhcpjlkmbedaa

/- Images in memory; numbers as bytes and packing, the program's. Conditions: none. -/
set_option linter.unusedVariables false
set_option linter.unusedSimpArgs false
namespace Go.Proofs.Ytenhcpjlkmbedaa
open Go Go.Den
theorem appendGN {w0 w : World} {F : List Asr} {e : Nat} {ti : TI} {s y : Sl} {m us : List Int} {K : Sl → World → Prop} (h : SH w0 w F) (hr : RowAt w s.a s.len (m.map (Value.int .u8))) (hm : m.length = s.len) (hy : RowAt w y.a y.len (us.map (Value.int .u8))) (hu : us.length = y.len) (hfull : s.cap < s.len + y.len)
    (hz : ti.sh.length = 1) (hzero : ti.zero.length = 1) (hb : 0 < ti.bytes) (hlen : (s.len + y.len) * ti.bytes ≤ 140737488355328)
    (hk : ∀ s' w', SH w0 w' (rD s' (m ++ us) :: F) → s'.len = s.len + y.len → K s' w') : AppendW e ti s y w K := by
  refine ⟨m.map (Value.int .u8), us.map (Value.int .u8), by rw [hz, Nat.mul_one]; exact hr, by rw [hz, Nat.mul_one]; exact hy, hlen, hb, plain_u8, fun hin => by omega, fun _ cap hcap => ?_⟩
  have := SH.appGrow (e := e) (n := y.len) (cap := cap) (ti := ti) (z := 1) (xs := m.map (fun x => [Value.int .u8 x])) (ys := us.map (fun x => [Value.int .u8 x])) (m := s.len) h (by rw [List.length_map]; exact hm) (fun u hu => by obtain ⟨x, _, rfl⟩ := List.mem_map.1 hu; rfl) (by rw [List.length_map]; exact hu) (fun u hu => by obtain ⟨x, _, rfl⟩ := List.mem_map.1 hu; rfl) hzero hcap
  have e1 : ∀ l : List Int, (l.map (fun x => [Value.int .u8 x])).flatten = l.map (Value.int .u8) := fun l => by
    rw [show l.map (fun x => [Value.int .u8 x]) = (l.map (Value.int .u8)).map (fun x => [x]) by rw [List.map_map]; rfl, flat_one]
  rw [e1, e1] at this
  refine hk _ _ ?_ rfl
  have e2 : (m.map (fun x => [Value.int .u8 x]) ++ us.map (fun x => [Value.int .u8 x])).map (·.map Ce.v) = nums .u8 (m ++ us) := by rw [← List.map_append, nums_raw]
  rw [e2] at this
  exact this
theorem rep_set {k n : Nat} {x : Int} {a : List Int} (ha : a.length = k) (hk : k < n) : (a ++ List.replicate (n - k) 0).set k x = a ++ [x] ++ List.replicate (n - (k + 1)) 0 := by
  rw [show n - k = (n - (k + 1)) + 1 by omega, List.replicate_succ, List.set_append_right _ _ (by omega), ha, Nat.sub_self, List.append_assoc]; rfl
theorem putN_zero (x : Int) (n : Nat) : ∀ k, k ≤ n → putN (List.replicate n 0) 0 x k = le x k ++ List.replicate (n - k) 0
  | 0, _ => by simp [putN, le]
  | k + 1, hk => by
    unfold putN
    rw [putN_zero x n k (by omega), Nat.zero_add, rep_set (le_len x k) (by omega)]; rfl
theorem s133 {w0 w : World} {F : List Asr} {t : Sl} {m : List Int} {n : Nat} {x : Int} (h : SH w0 w (rD t m :: F)) (hn : n ≤ 8) (hm : n ≤ m.length) (h0 : 0 ≤ x) (h1 : x < 18446744073709551616) :
    CallW Try.prog 133 #[.slice t.a t.len t.cap, .int .i64 0, .int .i64 (n : Int), .int .u64 x] w (fun v w' => v = .tuple #[] ∧ SH w0 w' (rD t (putN m 0 x n) :: F)) := by
  refine go133 ?_
  unfold W133
  refine LoopW.m1 (fun (i : Int) w' => ∃ k : Nat, i = k ∧ k ≤ n ∧ SH w0 w' (rD t (putN m 0 x k) :: F)) (fun (i : Int) _ => (n - i).toNat) ⟨0, rfl, by omega, h⟩ ?_
  clear h
  rintro (i : Int) w3 ⟨k, rfl, hk, h⟩ J hJ
  have hl := h.len 0 rfl
  rw [nums_len, putN_len] at hl
  refine BIf.dec (fun hlt => ?_) (fun hge => ?_)
  · have hidx : IntKind.i64.wrap (0 + (k : Int)) = ((0 + k : Nat) : Int) := by rw [w64 (by omega) (by omega)]; omega
    have h8 : IntKind.i64.wrap (8 * (k : Int)) = ((8 * k : Nat) : Int) := by rw [w64 (by omega) (by omega)]; omega
    rw [hidx, Int.toNat_natCast, h8, shrI_u64 (by omega), pow256]
    have hp : 1 ≤ 256 ^ k := Nat.one_le_pow _ _ (by omega)
    have hm2 : IntKind.u8.wrap (x / ((256 ^ k : Nat) : Int)) = x / ((256 ^ k : Nat) : Int) % 256 := by rw [IntKind.wrap_u8]
    rw [hm2]
    obtain ⟨z, hz⟩ : ∃ z, (putN m 0 x k)[0 + k]? = some z := ⟨_, List.getElem?_eq_getElem (by rw [putN_len]; omega)⟩
    obtain ⟨r, hr, _⟩ := h.elem0 0 rfl (nums_get hz) rfl
    refine ⟨by omega, by omega, by omega, r, hr, h.setE0 0 rfl hr (nums_get hz) rfl (fun w5 h n5 => ?_)⟩
    rw [w64 (by omega) (by omega)]
    have h : SH w0 w5 (aRow t 1 ((nums .u8 (putN m 0 x k)).set (0 + k) ([Ce.v (.int .u8 z)].set 0 (.v (.int .u8 (x / ((256 ^ k : Nat) : Int) % 256))))) :: F) := h
    rw [nums_set hz] at h
    exact hJ _ _ ⟨k + 1, by omega, by omega, h⟩ (by omega)
  · obtain rfl : k = n := by omega
    exact ⟨rfl, h⟩
theorem s69 {w : World} {x : Int} {n : Nat} (hn : n ≤ 8) (h0 : 0 ≤ x) (h1 : x < 9223372036854775808) :
    CallW Try.prog 69 #[.int .i64 x, .int .i64 (n : Int)] w (fun v w' => ∃ t : Sl, v = .slice t.a t.len t.cap ∧ SH w w' [rD t (le x n)]) := by
  refine go69 ?_
  unfold W69
  have h := SH.start w
  rw [Int.toNat_natCast]
  refine ⟨by omega, by omega, by omega, by decide, ?_⟩
  refine SH.zeros h rfl (fun w1 h n1 => ?_)
  have hz0 : List.replicate n (ti5.zero.map Ce.v) = nums .u8 (List.replicate n 0) := zeroD _
  rw [hz0] at h
  rw [wu64 h0 (by omega)]
  refine (s133 (t := ⟨some ⟨w.heap.size, 0, none⟩, n, n⟩) h hn (by rw [List.length_replicate]; omega) h0 (by omega)).mono ?_
  rintro _ w3 ⟨rfl, h⟩
  refine ⟨rfl, ⟨some ⟨w.heap.size, 0, none⟩, n, n⟩, rfl, ?_⟩
  rw [putN_zero x n n (Nat.le_refl _), Nat.sub_self, List.replicate_zero, List.append_nil] at h
  exact h
/-- What an image's parts are at most. -/
structure Few (l : List RSeg) : Prop where
  n : l.length ≤ 8
  each : ∀ x, x ∈ l → SegOk x.abs
theorem few_of {e : Int} {l : List RSeg} (h : imgB ⟨e, l.map RSeg.abs⟩ = true) : Few l ∧ 0 ≤ e ∧ e < 4294967296 := by
  have hi := (imgB_iff _).1 h
  have hn := hi.n8
  rw [List.length_map] at hn
  have hs := segs_each hi.segs
  refine ⟨⟨hn, fun x hx => hs _ (List.mem_map.2 ⟨x, hx, rfl⟩)⟩, ?_⟩
  obtain ⟨s, hs1, hh⟩ := List.any_eq_true.1 hi.entry
  have hh := of_decide_eq_true hh
  obtain ⟨a1, a2, a3, a4, a5, a6, a7, a8⟩ := hs s hs1
  have : (IImg.mk e (l.map RSeg.abs)).Entry = e := rfl
  rw [this] at hh
  omega
theorem datas_few : ∀ l : List RSeg, (∀ x, x ∈ l → SegOk x.abs) → ((l.map RSeg.abs).flatMap ISeg.Data).length ≤ 65536 * l.length
  | [], _ => by simp
  | x :: r, h => by
    obtain ⟨a1, a2, a3, a4, a5, a6, a7, a8⟩ := h x (by simp)
    have := datas_few r (fun y hy => h y (by simp [hy]))
    rw [List.map_cons, List.flatMap_cons, List.length_append, List.length_cons]
    omega
theorem mapT {l : List RSeg} {k : Nat} {x : RSeg} (hx : l[k]? = some x) : (l.map RSeg.abs).take (k + 1) = (l.map RSeg.abs).take k ++ [x.abs] := by
  rw [List.take_add_one, List.getElem?_map, hx]; rfl
def headF (m : IImg) : List Int := [75, 73, 77, 71] ++ [1, (m.Segs.length : Int) % 256, 0, 0] ++ le m.Entry 8
theorem head_len (m : IImg) : (headF m).length = 16 := by unfold headF; rw [List.length_append, List.length_append, le_len]; rfl
theorem body_eq (m : IImg) : bodyF m = headF m ++ m.Segs.flatMap hdrF ++ m.Segs.flatMap ISeg.Data := rfl
def PackR (w : World) (m : IImg) (v : Value) (w' : World) : Prop := ∃ t : Sl, v = .tuple #[.slice t.a t.len t.cap, .bool (imgB m)] ∧ SH w w' [rD t (if imgB m = true then packF m else [])]
set_option maxRecDepth 4000 in
set_option maxHeartbeats 2000000 in
theorem s21 {w : World} {e : Int} {t : Sl} {l : List RSeg} (hL : LentI w t l) : CallW Try.prog 21 #[iV e t] w (PackR w ⟨e, l.map RSeg.abs⟩) := by
  refine go21 (a0_0 := e) (a0_1 := t) ?_
  unfold W21
  have htl := hL.recs_.len
  have h := SH.start w
  refine h.alloc (fun w1 h e1 n1 => ?_)
  generalize w.heap.size = cb at *
  have h : SH w w1 [BI cb e t] := h
  refine ⟨_, h.cell 0 rfl rfl, t, h.cell 0 rfl rfl, (s68 (hL.ext h.ext)).mono ?_⟩
  rintro _ w5 ⟨rfl, ee⟩
  have h := h.to ee
  refine ⟨_, rfl, ?_⟩
  unfold PackR
  refine BIf.of (fun hb => ?_) (fun hb => ?_)
  · have hb : imgB ⟨e, l.map RSeg.abs⟩ = false := by simpa using hb
    rw [hb]
    exact ⟨N0, rfl, (h.drop).nil none 1⟩
  have hb : imgB ⟨e, l.map RSeg.abs⟩ = true := by simpa using hb
  rw [hb, if_pos rfl]
  obtain ⟨⟨hn8, hok⟩, he0, he1⟩ := few_of hb
  have hdf := datas_few l hok
  have hpk := pack_len ⟨e, l.map RSeg.abs⟩
  have hbd := body_len ⟨e, l.map RSeg.abs⟩
  have hbe := body_eq ⟨e, l.map RSeg.abs⟩
  have hll : (IImg.mk e (l.map RSeg.abs)).Segs = l.map RSeg.abs := rfl
  rw [hll] at hbd hbe
  rw [List.length_map] at hbd
  refine LetW_iff.2 ⟨_, rfl, mark_new (fun w9 e9 r9 => ?_)⟩
  have h := h.to e9
  refine ⟨t, h.cell 0 rfl rfl, ?_⟩
  refine h.alloc (fun w11 h e11 n11 => ?_)
  have h : SH w w11 [aB w9.heap.size (([1, (l.length : Int) % 256, 0, 0] : List Int).map (Value.int .u8) |>.map Ce.v), BI cb e t] := by
    have e3 : IntKind.u8.wrap (t.len : Int) = (l.length : Int) % 256 := by rw [htl, IntKind.wrap_u8]
    rw [e3] at h
    exact h
  have r11 := h.toRow (n := 4) (z := 1) (ys := ([1, (l.length : Int) % 256, 0, 0] : List Int).map (fun x => [Value.int .u8 x])) rfl rfl (fun u hu => by obtain ⟨x, _, rfl⟩ := List.mem_map.1 hu; rfl)
  have r11 : SH w w11 [rD ⟨some ⟨w9.heap.size, 0, none⟩, 4, 4⟩ [1, (l.length : Int) % 256, 0, 0], BI cb e t] := r11
  refine appendGN (s := ⟨some ⟨w5.heap.size, 0, none⟩, 4, 4⟩) (y := ⟨some ⟨w9.heap.size, 0, none⟩, 4, 4⟩) (m := [75, 73, 77, 71]) (us := [1, (l.length : Int) % 256, 0, 0]) h.drop (e11.row r9) rfl (r11.rowN 0 rfl) rfl (by show 4 < 4 + 4; omega) rfl rfl (by decide) (by show (4 + 4) * 1 ≤ _; decide) (fun l12 w13 h hl12 => ?_)
  refine ⟨_, h.cell 1 rfl rfl, (s69 (n := 8) (by omega) he0 (by omega)).mono ?_⟩
  rintro _ w16 ⟨l17, rfl, g⟩
  have h := h.seq g
  refine ⟨l17, rfl, ?_⟩
  refine SH.appendN (us := le e 8) h.p1 (h.rowN 0 rfl) rfl rfl (by decide) (by show (_ + _) * 1 ≤ _; rw [le_len]; show (8 + 8) * 1 ≤ _; decide) (fun l18 w19 h hl18 _ => ?_)
  have h : SH w w19 [rD l18 (headF ⟨e, l.map RSeg.abs⟩), BI cb e t] := by
    have e3 : headF ⟨e, l.map RSeg.abs⟩ = [75, 73, 77, 71] ++ [1, (l.length : Int) % 256, 0, 0] ++ le e 8 := by unfold headF; simp only [List.length_map]
    rw [e3]
    exact h.dropAt 1
  refine ⟨t, h.cell 1 rfl rfl, ?_⟩
  have hhl := head_len ⟨e, l.map RSeg.abs⟩
  generalize headF ⟨e, l.map RSeg.abs⟩ = H at *
  have hhd : ∀ k, (((l.map RSeg.abs).take k).flatMap hdrF).length ≤ 128 := fun k => by
    rw [hdrs_len, List.length_take, List.length_map]; omega
  refine LoopW.m2 (fun (s : Sl) (i : Int) w' => ∃ k : Nat, i = k ∧ k ≤ l.length ∧ SH w w' [rD s (H ++ ((l.map RSeg.abs).take k).flatMap hdrF), BI cb e t]) (fun _ (i : Int) _ => (l.length - i).toNat) ⟨0, rfl, by omega, by rw [List.take_zero, List.flatMap_nil, List.append_nil]; exact h⟩ ?_
  clear h
  rintro (l21 : Sl) (i : Int) w24 ⟨k, rfl, hk, h⟩ J hJ
  refine BIf.dec (fun hlt => ?_) (fun hge => ?_)
  · have hx : l[k]? = some l[k] := List.getElem?_eq_getElem (by omega)
    generalize l[k] = x at hx
    obtain ⟨q, hq, hc⟩ := (hL.recs_.ext h.ext).get (by decide) hx
    have hxm := List.mem_of_getElem? hx
    obtain ⟨a1, a2, a3, a4, a5, a6, a7, a8⟩ := hok x hxm
    have hxd := (hL.each x hxm).len
    have b1 : x.abs.Va = x.Va := rfl
    have b2 : x.abs.Size = x.Size := rfl
    have b3 : x.abs.Prot = x.Prot := rfl
    have b4 : x.abs.Data = x.Data := rfl
    rw [b1] at a1 a2 a3 a6
    rw [b2] at a4 a5 a6 a7
    rw [b4] at a7
    rw [b3] at a8
    have hhk := hhd k
    simp only [Int.toNat_natCast]
    rw [w64 (n := (k : Int) + 1) (by omega) (by omega)]
    refine ⟨by omega, by omega, q, hq, _, hc 0 _ rfl, _, hc 1 _ rfl, _, hc 2 _ rfl, x.D, hc 3 _ rfl, ?_⟩
    refine h.alloc (fun w30 h e30 n30 => ?_)
    refine h.put 0 rfl rfl rfl (fun w31 h n31 => ?_)
    generalize w24.heap.size = xb at *
    have h : SH w w31 [BS xb x, rD l21 (H ++ ((l.map RSeg.abs).take k).flatMap hdrF), BI cb e t] := h
    refine ⟨_, h.cell 0 rfl rfl, (s69 (n := 4) (by omega) (by omega) (by omega)).mono ?_⟩
    rintro _ w34 ⟨l35, rfl, g⟩
    have h := h.seq g
    refine ⟨l35, rfl, ?_⟩
    refine SH.appendN (us := le x.Va 4) ((h.front (n := 2) rfl)) (h.rowN 0 rfl) rfl rfl (by decide) (by show (_ + _) * 1 ≤ _; rw [le_len, List.length_append]; omega) (fun l36 w37 h hl36 _ => ?_)
    have h := h.dropAt 1
    refine ⟨_, h.cell 1 rfl rfl, (s69 (n := 4) (by omega) (by omega) (by omega)).mono ?_⟩
    rintro _ w40 ⟨l41, rfl, g⟩
    have h := h.seq g
    refine ⟨l41, rfl, ?_⟩
    refine SH.appendN (us := le x.Size 4) ((h.front (n := 1) rfl)) (h.rowN 0 rfl) rfl rfl (by decide) (by show (_ + _) * 1 ≤ _; rw [le_len, List.length_append, List.length_append, le_len]; omega) (fun l42 w43 h hl42 _ => ?_)
    have h := h.dropAt 1
    refine ⟨x.D, h.cell 1 rfl rfl, ?_⟩
    rw [hxd]
    refine (s69 (n := 4) (by omega) (by omega) (by omega)).mono ?_
    rintro _ w46 ⟨l47, rfl, g⟩
    have h := h.seq g
    refine ⟨l47, rfl, ?_⟩
    refine SH.appendN (us := le (x.Data.length : Int) 4) ((h.front (n := 1) rfl)) (h.rowN 0 rfl) rfl rfl (by decide) (by show (_ + _) * 1 ≤ _; rw [le_len, List.length_append, List.length_append, List.length_append, le_len, le_len]; omega) (fun l48 w49 h hl48 _ => ?_)
    have h := h.dropAt 1
    refine ⟨_, h.cell 1 rfl rfl, ?_⟩
    refine h.alloc (fun w51 h e51 n51 => ?_)
    have h := h.toRow (n := 4) (z := 1) (ys := ([x.Prot % 256, 0, 0, 0] : List Int).map (fun x => [Value.int .u8 x])) (by rw [IntKind.wrap_u8]; rfl) rfl (fun u hu => by obtain ⟨x, _, rfl⟩ := List.mem_map.1 hu; rfl)
    have h : SH w w51 (rD ⟨some ⟨w49.heap.size, 0, none⟩, 4, 4⟩ [x.Prot % 256, 0, 0, 0] :: _) := h
    refine SH.appendN (us := [x.Prot % 256, 0, 0, 0]) ((h.front (n := 1) rfl)) (h.rowN 0 rfl) rfl rfl (by decide) (by show (_ + _) * 1 ≤ _; rw [List.length_append, List.length_append, List.length_append, List.length_append, le_len, le_len, le_len, show ([x.Prot % 256, 0, 0, 0] : List Int).length = 4 from rfl]; omega) (fun l52 w53 h hl52 _ => ?_)
    refine hJ _ _ _ ⟨k + 1, by omega, by omega, ?_⟩ (by omega)
    rw [mapT hx, List.flatMap_append, List.flatMap_cons, List.flatMap_nil, List.append_nil]
    have e4 : H ++ (((l.map RSeg.abs).take k).flatMap hdrF ++ hdrF x.abs) = H ++ ((l.map RSeg.abs).take k).flatMap hdrF ++ le x.Va 4 ++ le x.Size 4 ++ le (x.Data.length : Int) 4 ++ [x.Prot % 256, 0, 0, 0] := by
      unfold hdrF
      rw [b1, b2, b3, b4]
      simp only [List.append_assoc]
    rw [e4]
    exact (h.dropAt 1).dropAt 1
  · obtain rfl : k = l.length := by omega
    have htk : (l.map RSeg.abs).take l.length = l.map RSeg.abs := List.take_of_length_le (by rw [List.length_map]; omega)
    rw [htk] at h
    clear hJ J
    refine ⟨t, h.cell 1 rfl rfl, ?_⟩
    have hHl : (H ++ (l.map RSeg.abs).flatMap hdrF).length ≤ 144 := by have := hhd l.length; rw [htk] at this; rw [List.length_append]; omega
    generalize hG : H ++ (l.map RSeg.abs).flatMap hdrF = G at *
    have hdk : ∀ k, k ≤ l.length → (((l.map RSeg.abs).take k).flatMap ISeg.Data).length ≤ 524288 := fun k hk => by
      have := datas_few (l.take k) (fun x hx => hok x (List.mem_of_mem_take hx))
      rw [List.length_take] at this
      rw [← List.map_take]; omega
    refine LoopW.m2 (fun (s : Sl) (i : Int) w' => ∃ k : Nat, i = k ∧ k ≤ l.length ∧ SH w w' [rD s (G ++ ((l.map RSeg.abs).take k).flatMap ISeg.Data), BI cb e t]) (fun _ (i : Int) _ => (l.length - i).toNat) ⟨0, rfl, by omega, by rw [List.take_zero, List.flatMap_nil, List.append_nil]; exact h⟩ ?_
    clear h
    rintro (l55 : Sl) (i : Int) w58 ⟨k, rfl, hk2, h⟩ J hJ
    refine BIf.dec (fun hlt => ?_) (fun hge2 => ?_)
    · have hx : l[k]? = some l[k] := List.getElem?_eq_getElem (by omega)
      generalize l[k] = x at hx
      obtain ⟨q, hq, hc⟩ := (hL.recs_.ext h.ext).get (by decide) hx
      have hxm := List.mem_of_getElem? hx
      obtain ⟨a1, a2, a3, a4, a5, a6, a7, a8⟩ := hok x hxm
      have hxb := hL.each x hxm
      have b4 : x.abs.Data = x.Data := rfl
      rw [b4] at a7
      have hdk1 := hdk k hk2
      simp only [Int.toNat_natCast]
      rw [Go.Den.w64 (n := (k : Int) + 1) (by omega) (by omega)]
      refine ⟨by omega, by omega, q, hq, _, hc 0 _ rfl, _, hc 1 _ rfl, _, hc 2 _ rfl, x.D, hc 3 _ rfl, ?_⟩
      refine h.alloc (fun w64 h e64 n64 => ?_)
      refine h.put 0 rfl rfl rfl (fun w65 h n65 => ?_)
      refine ⟨x.D, h.cell 0 rfl rfl, ?_⟩
      refine SH.appendN (us := x.Data) h.drop (h.ext.row hxb.row) rfl rfl (by decide) (by show (_ + _) * 1 ≤ _; rw [List.length_append]; omega) (fun l67 w68 h hl67 _ => ?_)
      refine hJ _ _ _ ⟨k + 1, by omega, by omega, ?_⟩ (by omega)
      rw [mapT hx, List.flatMap_append, List.flatMap_cons, List.flatMap_nil, List.append_nil, ← List.append_assoc]
      exact h
    · obtain rfl : k = l.length := by omega
      rw [htk, ← hbe] at h
      have hin : inBy (bodyF ⟨e, l.map RSeg.abs⟩) := inBy_body (fun s hs => by
        obtain ⟨x, hx, rfl⟩ := List.mem_map.1 hs
        exact (hL.each x hx).rng)
      have hc := crc32 hin
      have hby := SH.byAt (s := l55) h 0 rfl hin (by omega)
      refine (c70 ⟨hby.len, hby.cap, hby.row, hby.rng, hby.small⟩).mono ?_
      rintro _ w70 ⟨rfl, rfl⟩
      refine ⟨_, rfl, ?_⟩
      rw [Go.Den.w64 (n := crc _) (by omega) (by omega)]
      refine (s69 (n := 4) (by omega) hc.1 (by omega)).mono ?_
      rintro _ w73 ⟨l74, rfl, g⟩
      have h := h.seq g
      refine ⟨l74, rfl, ?_⟩
      refine SH.appendN (us := le (crc (bodyF ⟨e, l.map RSeg.abs⟩)) 4) h.p1 (h.rowN 0 rfl) rfl rfl (by decide) (by show (_ + _) * 1 ≤ _; rw [le_len]; omega) (fun l75 w76 h hl75 _ => ?_)
      exact ⟨l75, rfl, h.take 1⟩
end Go.Proofs.Ytenhcpjlkmbedaa

/- Images in memory; the reference's check and packing. Conditions: none. -/
set_option linter.unusedVariables false
set_option linter.unusedSimpArgs false
namespace Go.Proofs.Ytenhcpjlkmbedaa
open Go Go.Den
theorem s71 {p : Int} {w : World} : CallW Try.prog 71 #[.int .i64 p] w (fun v w' => v = .bool (decide (p = 1 ∨ p = 3 ∨ p = 5)) ∧ w' = w) := by
  refine go71 ?_
  unfold W71
  refine JoinW.cut1 (fun (b : Bool) w' => b = decide (p = 1 ∨ p = 3) ∧ w' = w) (BIf.eq (fun h => ⟨(decide_eq_true (by omega)).symm, rfl⟩) (fun h => ⟨by rw [Bool.eq_iff_iff, beq_iff_eq, decide_eq_true_iff]; omega, rfl⟩)) ?_
  rintro (b : Bool) w3 ⟨rfl, rfl⟩
  refine JoinW.cut1 (fun (b : Bool) w' => b = decide (p = 1 ∨ p = 3 ∨ p = 5) ∧ w' = w3) (BIf.dec (fun h => ⟨(decide_eq_true (by omega)).symm, rfl⟩) (fun h => ⟨by rw [Bool.eq_iff_iff, beq_iff_eq, decide_eq_true_iff]; omega, rfl⟩)) ?_
  rintro (b : Bool) w6 ⟨rfl, rfl⟩
  exact ⟨rfl, rfl⟩
theorem s72 {x : Int} {w : World} (h0 : 0 ≤ x) (h1 : x ≤ 1000000000) : CallW Try.prog 72 #[.int .i64 x] w (fun v w' => v = .int .i64 (pagesF x) ∧ w' = w) := by
  refine go72 ?_
  unfold W72
  have hp : x ≤ pagesF x ∧ pagesF x ≤ x + 255 ∧ pagesF x % 256 = 0 := by unfold pagesF; omega
  refine LoopW.m1 (fun (n : Int) w' => x ≤ n ∧ n ≤ pagesF x ∧ w' = w) (fun (n : Int) _ => (pagesF x - n).toNat) ⟨by omega, by omega, rfl⟩ ?_
  rintro (n : Int) w3 ⟨a, b, rfl⟩ J hJ
  refine ⟨by decide, BIf.of (fun hc => ?_) (fun hc => ?_)⟩
  · rw [bne_iff_ne, ne_eq, tm0] at hc
    rw [w64 (n := n + 1) (by omega) (by omega)]
    exact hJ _ _ ⟨by omega, by omega, rfl⟩ (by omega)
  · rw [bne_eq_false_iff_eq, tm0] at hc
    exact ⟨by congr 1; omega, rfl⟩
theorem s81 {w : World} {x : Int} {n : Nat} (hn : n ≤ 8) (h0 : 0 ≤ x) (h1 : x < 9223372036854775808) :
    CallW Try.prog 81 #[.int .i64 x, .int .i64 (n : Int)] w (fun v w' => ∃ t : Sl, v = .slice t.a t.len t.cap ∧ SH w w' [rD t (le x n)]) := by
  refine go81 ?_
  unfold W81
  have h := SH.start w
  refine h.alloc (fun w1 h e1 n1 => ?_)
  have h := h.drop.nil (some ⟨w.heap.size, 0, none⟩) 1
  rw [wu64 h0 (by omega)]
  refine LoopW.m3 (fun (s : Sl) (y : Int) (i : Int) w' => ∃ k : Nat, i = k ∧ k ≤ n ∧ y = x / ((256 ^ k : Nat) : Int) ∧ SH w w' [rD s (le x k)]) (fun _ _ (i : Int) _ => (n - i).toNat) ⟨0, rfl, by omega, by simp, h⟩ ?_
  clear h
  rintro (s : Sl) (y : Int) (i : Int) w6 ⟨k, rfl, hk, rfl, h⟩ J hJ
  have hp : 1 ≤ 256 ^ k := Nat.one_le_pow _ _ (by omega)
  have hy0 : 0 ≤ x / ((256 ^ k : Nat) : Int) := Int.ediv_nonneg h0 (by omega)
  have hy1 : x / ((256 ^ k : Nat) : Int) ≤ x := Int.ediv_le_self _ h0
  refine BIf.dec (fun hlt => ?_) (fun hge => ?_)
  · rw [Int.tmod_eq_emod_of_nonneg hy0, Int.tdiv_eq_ediv_of_nonneg hy0]
    have hm : IntKind.u8.wrap (x / ((256 ^ k : Nat) : Int) % 256) = x / ((256 ^ k : Nat) : Int) % 256 := by rw [IntKind.wrap_u8]; omega
    rw [hm]
    refine ⟨by decide, LetW_iff.2 (SH.appendN1 h rfl rfl (by decide) (by rw [le_len]; show _ * 1 ≤ _; omega) (fun t2 w9 h hl2 _ => ?_))⟩
    refine ⟨by decide, ?_⟩
    rw [w64 (by omega) (by omega), wu64 (by omega) (by omega)]
    refine hJ _ _ _ _ ⟨k + 1, by omega, by omega, ?_, h⟩ (by omega)
    rw [Nat.pow_succ, Int.natCast_mul, ← Int.ediv_ediv_of_nonneg (by omega)]; rfl
  · obtain rfl : k = n := by omega
    exact ⟨s, rfl, h⟩
set_option maxRecDepth 4000 in
set_option maxHeartbeats 2000000 in
theorem s22 {w : World} {e : Int} {t : Sl} {l : List RSeg} (hL : LentI w t l) : CallW Try.prog 22 #[iV e t] w (fun v w' => v = .bool (imgB ⟨e, l.map RSeg.abs⟩) ∧ Ext w w') := by
  refine go22 (a0_0 := e) (a0_1 := t) ?_
  unfold W22
  have htl := hL.recs_.len
  have hfw := hL.recs_.few
  have h := SH.start w
  refine h.alloc (fun w1 h e1 n1 => ?_)
  generalize w.heap.size = cb at *
  have h : SH w w1 [BI cb e t] := h
  refine ⟨t, h.cell 0 rfl rfl, ?_⟩
  refine JoinW.cut1 (fun (b : Bool) w' => (b = true ↔ ¬ (1 ≤ l.length ∧ l.length ≤ 8)) ∧ w' = w1) (BIf.dec (fun hc => ⟨⟨fun _ => by omega, fun _ => rfl⟩, rfl⟩) (fun hc => ⟨by rw [decide_eq_true_iff]; omega, rfl⟩)) ?_
  rintro (b3 : Bool) w5 ⟨hb3, rfl⟩
  refine JoinW.cut1 (fun (b : Bool) w' => (b = true ↔ ¬ (1 ≤ l.length ∧ l.length ≤ 8 ∧ e % 4 = 0)) ∧ w' = w5) (BIf.of (fun hc => ⟨⟨fun _ => by have := hb3.1 hc; omega, fun _ => rfl⟩, rfl⟩) (fun hc => ⟨_, h.cell 0 rfl rfl, by decide, ?_, by trivial⟩)) ?_
  · have h3 : (1 ≤ l.length ∧ l.length ≤ 8) := Decidable.not_not.1 (fun hh => by rw [hb3.2 hh] at hc; cases hc)
    rw [bne_iff_ne, ne_eq, tm0]
    omega
  rintro (b6 : Bool) w8 ⟨hb6, rfl⟩
  have hpre : imgB ⟨e, l.map RSeg.abs⟩ = (decide (1 ≤ l.length ∧ l.length ≤ 8 ∧ e % 4 = 0) && chkF e 256 false (l.map RSeg.abs)) := by unfold imgB; simp only [List.length_map]
  rw [hpre]
  refine BIf.of (fun hc => ?_) (fun hc => ?_)
  · rw [decide_eq_false (hb6.1 hc), Bool.false_and]; exact ⟨rfl, h.ext⟩
  have hg : 1 ≤ l.length ∧ l.length ≤ 8 ∧ e % 4 = 0 := Decidable.not_not.1 (fun hh => by rw [hb6.2 hh] at hc; cases hc)
  rw [decide_eq_true hg, Bool.true_and]
  clear hpre
  generalize hR : chkF e 256 false (l.map RSeg.abs) = R
  refine LoopW.m2 (fun (b : Bool) (i : Int) w' => ∃ (k : Nat) (en : Int), i = k ∧ k ≤ l.length ∧ 256 ≤ en ∧ (k = 0 → en = 256) ∧ (0 < k → ∃ y, l[k - 1]? = some y ∧ SegOk y.abs ∧ en = y.Va + pagesF y.Size) ∧ chkF e en b ((l.map RSeg.abs).drop k) = R ∧ SH w w' [BI cb e t]) (fun _ (i : Int) _ => (l.length - i).toNat) ⟨0, 256, rfl, by omega, by omega, fun _ => rfl, fun hh => by omega, hR, h⟩ ?_
  clear h
  rintro (b11 : Bool) (i : Int) w14 ⟨k, en, rfl, hk, hen, hen0, hprev, hch, h⟩ J hJ
  refine BIf.dec (fun hlt => ?_) (fun hge => ?_)
  rotate_left
  · obtain rfl : k = l.length := by omega
    rw [List.drop_of_length_le (by rw [List.length_map]; omega)] at hch
    exact ⟨by rw [← hch]; rfl, h.ext⟩
  have hx : l[k]? = some l[k] := List.getElem?_eq_getElem (by omega)
  generalize l[k] = x at hx
  obtain ⟨q, hq, hc⟩ := (hL.recs_.ext h.ext).get (by decide) hx
  have hxd := (hL.each x (List.mem_of_getElem? hx)).len
  have hdr : (l.map RSeg.abs).drop k = x.abs :: (l.map RSeg.abs).drop (k + 1) := by
    rw [List.drop_eq_getElem_cons (i := k) (by rw [List.length_map]; omega)]
    congr 1
    have := (List.getElem?_eq_some_iff.1 hx).2
    rw [List.getElem_map, this]
  rw [hdr] at hch
  unfold chkF at hch
  have a1 : x.abs.Va = x.Va := rfl
  have a2 : x.abs.Size = x.Size := rfl
  have a3 : x.abs.Prot = x.Prot := rfl
  have a4 : x.abs.Data = x.Data := rfl
  rw [a1, a2, a3, a4] at hch
  simp only [Int.toNat_natCast]
  rw [w64 (n := (k : Int) + 1) (by omega) (by omega)]
  refine ⟨t, h.cell 0 rfl rfl, by omega, by omega, q, hq, _, hc 0 _ rfl, _, hc 1 _ rfl, _, hc 2 _ rfl, x.D, hc 3 _ rfl, ?_⟩
  refine h.alloc (fun w20 h e20 n20 => ?_)
  refine h.put 0 rfl rfl rfl (fun w21 h n21 => ?_)
  generalize w14.heap.size = xb at *
  have h : SH w w21 [BS xb x, BI cb e t] := h
  refine ⟨_, h.cell 0 rfl rfl, ?_⟩
  refine JoinW.cut1 (fun (b : Bool) w' => (b = true ↔ ¬ (256 ≤ x.Va ∧ x.Va ≤ 4194304)) ∧ w' = w21) (BIf.dec (fun hc => ⟨⟨fun _ => by omega, fun _ => rfl⟩, rfl⟩) (fun hc => ⟨_, h.cell 0 rfl rfl, by rw [decide_eq_true_iff]; omega, rfl⟩)) ?_
  rintro (b23 : Bool) w25 ⟨hb23, rfl⟩
  refine JoinW.cut1 (fun (b : Bool) w' => (b = true ↔ ¬ (256 ≤ x.Va ∧ x.Va ≤ 4194304 ∧ x.Va % 256 = 0)) ∧ w' = w25) (BIf.of (fun hc => ⟨⟨fun _ => by have := hb23.1 hc; omega, fun _ => rfl⟩, rfl⟩) (fun hc => ⟨_, h.cell 0 rfl rfl, by decide, by have h3 := Decidable.not_not.1 (fun hh => by rw [hb23.2 hh] at hc; cases hc); rw [bne_iff_ne, ne_eq, tm0]; omega, by trivial⟩)) ?_
  rintro (b26 : Bool) w28 ⟨hb26, rfl⟩
  refine JoinW.cut1 (fun (b : Bool) w' => (b = true ↔ ¬ (256 ≤ x.Va ∧ x.Va ≤ 4194304 ∧ x.Va % 256 = 0 ∧ 1 ≤ x.Size)) ∧ w' = w28) (BIf.of (fun hc => ⟨⟨fun _ => by have := hb26.1 hc; omega, fun _ => rfl⟩, rfl⟩) (fun hc => ⟨_, h.cell 0 rfl rfl, by have h3 := Decidable.not_not.1 (fun hh => by rw [hb26.2 hh] at hc; cases hc); rw [decide_eq_true_iff]; omega, rfl⟩)) ?_
  rintro (b29 : Bool) w31 ⟨hb29, rfl⟩
  refine JoinW.cut1 (fun (b : Bool) w' => (b = true ↔ ¬ (256 ≤ x.Va ∧ x.Va ≤ 4194304 ∧ x.Va % 256 = 0 ∧ 1 ≤ x.Size ∧ x.Size ≤ 65536)) ∧ w' = w31) (BIf.of (fun hc => ⟨⟨fun _ => by have := hb29.1 hc; omega, fun _ => rfl⟩, rfl⟩) (fun hc => ⟨_, h.cell 0 rfl rfl, by have h3 := Decidable.not_not.1 (fun hh => by rw [hb29.2 hh] at hc; cases hc); rw [decide_eq_true_iff]; omega, rfl⟩)) ?_
  rintro (b32 : Bool) w34 ⟨hb32, rfl⟩
  refine JoinW.cut1 (fun (b : Bool) w' => (b = true ↔ ¬ (256 ≤ x.Va ∧ x.Va ≤ 4194304 ∧ x.Va % 256 = 0 ∧ 1 ≤ x.Size ∧ x.Size ≤ 65536 ∧ x.Va + x.Size ≤ 4194304)) ∧ w' = w34) (BIf.of (fun hc => ⟨⟨fun _ => by have := hb32.1 hc; omega, fun _ => rfl⟩, rfl⟩) (fun hc => ⟨_, h.cell 0 rfl rfl, _, h.cell 0 rfl rfl, by have h3 := Decidable.not_not.1 (fun hh => by rw [hb32.2 hh] at hc; cases hc); rw [w64 (n := x.Va + x.Size) (by omega) (by omega), decide_eq_true_iff]; omega, rfl⟩)) ?_
  rintro (b35 : Bool) w37 ⟨hb35, rfl⟩
  refine JoinW.cut1 (fun (b : Bool) w' => (b = true ↔ ¬ (256 ≤ x.Va ∧ x.Va ≤ 4194304 ∧ x.Va % 256 = 0 ∧ 1 ≤ x.Size ∧ x.Size ≤ 65536 ∧ x.Va + x.Size ≤ 4194304 ∧ (x.Data.length : Int) ≤ x.Size)) ∧ w' = w37) (BIf.of (fun hc => ⟨⟨fun _ => by have := hb35.1 hc; omega, fun _ => rfl⟩, rfl⟩) (fun hc => ⟨x.D, h.cell 0 rfl rfl, _, h.cell 0 rfl rfl, by have h3 := Decidable.not_not.1 (fun hh => by rw [hb35.2 hh] at hc; cases hc); rw [decide_eq_true_iff]; omega, by trivial⟩)) ?_
  rintro (b38 : Bool) w40 ⟨hb38, rfl⟩
  refine JoinW.cut1 (fun (b : Bool) w' => (b = true ↔ ¬ (256 ≤ x.Va ∧ x.Va ≤ 4194304 ∧ x.Va % 256 = 0 ∧ 1 ≤ x.Size ∧ x.Size ≤ 65536 ∧ x.Va + x.Size ≤ 4194304 ∧ (x.Data.length : Int) ≤ x.Size ∧ (x.Prot = 1 ∨ x.Prot = 3 ∨ x.Prot = 5))) ∧ w' = w40) (BIf.of (fun hc => ⟨⟨fun _ => by have := hb38.1 hc; omega, fun _ => rfl⟩, rfl⟩) (fun hc => ⟨_, h.cell 0 rfl rfl, s71.mono ?_⟩)) ?_
  · have h3 := Decidable.not_not.1 (fun hh => by rw [hb38.2 hh] at hc; cases hc)
    rintro _ w71 ⟨rfl, rfl⟩
    refine ⟨_, rfl, ?_, by trivial⟩
    rw [Bool.not_eq_true', decide_eq_false_iff_not]
    omega
  rintro (b41 : Bool) w42 ⟨hb41, rfl⟩
  refine BIf.of (fun hc => ?_) (fun hc => ?_)
  · have := hb41.1 hc
    rw [if_neg (by omega)] at hch
    exact ⟨by rw [← hch], h.ext⟩
  have h3 := Decidable.not_not.1 (fun hh => by rw [hb41.2 hh] at hc; cases hc)
  refine JoinW.cut1 (fun (b : Bool) w' => (b = true ↔ x.Va < en) ∧ w' = w42.drew) (BIf.dec (fun hk0 => ?_) (fun hk0 => ⟨⟨(fun hh => by cases hh), (fun hh => by have := hen0 (by omega); omega)⟩, rfl⟩)) ?_
  · obtain ⟨y, hy, ⟨s1, s2, s3, s4, s5, s6, s7, s8⟩, hen2⟩ := hprev (by omega)
    have c1 : y.abs.Va = y.Va := rfl
    have c2 : y.abs.Size = y.Size := rfl
    rw [c1] at s1 s2 s3 s6
    rw [c2] at s4 s5 s6
    have hkk : IntKind.i64.wrap ((k : Int) - 1) = ((k - 1 : Nat) : Int) := by rw [w64 (by omega) (by omega)]; omega
    rw [hkk]
    simp only [Int.toNat_natCast]
    have h := h.drew
    obtain ⟨q2, hq2, hc2⟩ := (hL.recs_.ext h.ext).get (by decide) hy
    refine ⟨_, h.cell 0 rfl rfl, t, h.cell 1 rfl rfl, by omega, by omega, q2, hq2, _, hc2 0 _ rfl, t, h.cell 1 rfl rfl, by omega, by omega, q2, hq2, _, hc2 2 _ rfl, ?_⟩
    rw [w64 (n := y.Va + y.Size) (by omega) (by omega)]
    refine (s72 (by omega) (by omega)).mono ?_
    rintro _ w66 ⟨rfl, rfl⟩
    refine ⟨_, rfl, ⟨_, h.cell 0 rfl rfl, by first | rfl | trivial⟩, ?_, by trivial⟩
    rw [decide_eq_true_iff]
    have : pagesF (y.Va + y.Size) = y.Va + pagesF y.Size := by unfold pagesF; omega
    omega
  rintro (b43 : Bool) w45 ⟨hb43, rfl⟩
  refine BIf.of (fun hc => ?_) (fun hc => ?_)
  · have := hb43.1 hc
    rw [if_neg (by omega)] at hch
    exact ⟨by rw [← hch], h.drew.ext⟩
  have h4 : ¬ x.Va < en := fun hh => by rw [hb43.2 hh] at hc; cases hc
  rw [if_pos (by omega)] at hch
  have h := h.drew
  have hpg : pagesF x.Size ≤ 65536 + 256 ∧ 0 ≤ pagesF x.Size := by unfold pagesF; omega
  have nxt : ∀ b : Bool, chkF e (x.Va + pagesF x.Size) b ((l.map RSeg.abs).drop (k + 1)) = R → J b ((k : Int) + 1) w42.drew := fun b hb => by
    refine hJ _ _ _ ⟨k + 1, x.Va + pagesF x.Size, by omega, by omega, by omega, by omega, fun _ => ⟨x, hx, ⟨by rw [a1]; omega, by rw [a1]; omega, by rw [a1]; omega, by rw [a2]; omega, by rw [a2]; omega, by rw [a1, a2]; omega, by rw [a2, a4]; omega, by rw [a3]; omega⟩, rfl⟩, hb, h.drop⟩ (by omega)
  refine ⟨_, h.cell 0 rfl rfl, ?_⟩
  refine JoinW.cut1 (fun (b : Bool) w' => (b = true ↔ x.Prot = 5 ∧ x.Va ≤ e) ∧ w' = w42.drew) (BIf.eq (fun p5 => ⟨_, h.cell 1 rfl rfl, _, h.cell 0 rfl rfl, by rw [decide_eq_true_iff]; omega, rfl⟩) (fun p5 => ⟨⟨(fun hh => by cases hh), (fun hh => absurd hh.1 p5)⟩, rfl⟩)) ?_
  rintro (b47 : Bool) w49 ⟨hb47, rfl⟩
  refine JoinW.cut1 (fun (b : Bool) w' => b = holdsF e x.abs ∧ w' = w42.drew) (BIf.of (fun hb => ⟨_, h.cell 1 rfl rfl, _, h.cell 0 rfl rfl, _, h.cell 0 rfl rfl, ?_, rfl⟩) (fun hb => ⟨?_, rfl⟩)) ?_
  · have h5 := hb47.1 hb
    unfold holdsF
    rw [a1, a2, a3, w64 (n := x.Va + x.Size) (by omega) (by omega), Bool.eq_iff_iff, decide_eq_true_iff, decide_eq_true_iff]
    omega
  · unfold holdsF
    rw [a1, a2, a3]
    exact (decide_eq_false (fun hh => by rw [hb47.2 ⟨hh.1, hh.2.1⟩] at hb; cases hb)).symm
  rintro (b50 : Bool) w52 ⟨rfl, rfl⟩
  refine BIf.of (fun hb => ?_) (fun hb => ?_)
  · rw [hb, Bool.or_true] at hch; exact nxt true hch
  · rw [hb, Bool.or_false] at hch; exact nxt b11 hch
set_option maxRecDepth 4000 in
set_option maxHeartbeats 2000000 in
theorem s77 {w : World} {e : Int} {t : Sl} {l : List RSeg} (hL : LentI w t l) : CallW Try.prog 77 #[iV e t] w (PackR w ⟨e, l.map RSeg.abs⟩) := by
  refine go77 (a0_0 := e) (a0_1 := t) ?_
  unfold W77
  have htl := hL.recs_.len
  have h := SH.start w
  refine h.alloc (fun w1 h e1 n1 => ?_)
  generalize w.heap.size = cb at *
  have h : SH w w1 [BI cb e t] := h
  refine ⟨_, h.cell 0 rfl rfl, t, h.cell 0 rfl rfl, (s22 (hL.ext h.ext)).mono ?_⟩
  rintro _ w5 ⟨rfl, ee⟩
  have h := h.to ee
  refine ⟨_, rfl, ?_⟩
  unfold PackR
  refine BIf.of (fun hb => ?_) (fun hb => ?_)
  · have hb : imgB ⟨e, l.map RSeg.abs⟩ = false := by simpa using hb
    rw [hb]
    refine h.alloc (fun w7 h e7 n7 => ?_)
    exact ⟨⟨some ⟨w5.heap.size, 0, none⟩, 0, 0⟩, rfl, (h.drop.drop).nil _ 1⟩
  have hb : imgB ⟨e, l.map RSeg.abs⟩ = true := by simpa using hb
  rw [hb, if_pos rfl]
  obtain ⟨⟨hn8, hok⟩, he0, he1⟩ := few_of hb
  have hdf := datas_few l hok
  have hpk := pack_len ⟨e, l.map RSeg.abs⟩
  have hbd := body_len ⟨e, l.map RSeg.abs⟩
  have hbe := body_eq ⟨e, l.map RSeg.abs⟩
  have hll : (IImg.mk e (l.map RSeg.abs)).Segs = l.map RSeg.abs := rfl
  rw [hll] at hbd hbe
  rw [List.length_map] at hbd
  refine LetW_iff.2 ⟨_, rfl, mark_new (fun w9 e9 r9 => ?_)⟩
  have h := h.to e9
  refine ⟨t, h.cell 0 rfl rfl, ?_⟩
  refine h.alloc (fun w11 h e11 n11 => ?_)
  have h : SH w w11 [aB w9.heap.size (([1, (l.length : Int) % 256, 0, 0] : List Int).map (Value.int .u8) |>.map Ce.v), BI cb e t] := by
    have e3 : IntKind.u8.wrap (t.len : Int) = (l.length : Int) % 256 := by rw [htl, IntKind.wrap_u8]
    rw [e3] at h
    exact h
  have r11 := h.toRow (n := 4) (z := 1) (ys := ([1, (l.length : Int) % 256, 0, 0] : List Int).map (fun x => [Value.int .u8 x])) rfl rfl (fun u hu => by obtain ⟨x, _, rfl⟩ := List.mem_map.1 hu; rfl)
  have r11 : SH w w11 [rD ⟨some ⟨w9.heap.size, 0, none⟩, 4, 4⟩ [1, (l.length : Int) % 256, 0, 0], BI cb e t] := r11
  refine appendGN (s := ⟨some ⟨w5.heap.size, 0, none⟩, 4, 4⟩) (y := ⟨some ⟨w9.heap.size, 0, none⟩, 4, 4⟩) (m := [75, 73, 77, 71]) (us := [1, (l.length : Int) % 256, 0, 0]) h.drop (e11.row r9) rfl (r11.rowN 0 rfl) rfl (by show 4 < 4 + 4; omega) rfl rfl (by decide) (by show (4 + 4) * 1 ≤ _; decide) (fun l12 w13 h hl12 => ?_)
  refine ⟨_, h.cell 1 rfl rfl, (s81 (n := 8) (by omega) he0 (by omega)).mono ?_⟩
  rintro _ w16 ⟨l17, rfl, g⟩
  have h := h.seq g
  refine ⟨l17, rfl, ?_⟩
  refine SH.appendN (us := le e 8) h.p1 (h.rowN 0 rfl) rfl rfl (by decide) (by show (_ + _) * 1 ≤ _; rw [le_len]; show (8 + 8) * 1 ≤ _; decide) (fun l18 w19 h hl18 _ => ?_)
  have h : SH w w19 [rD l18 (headF ⟨e, l.map RSeg.abs⟩), BI cb e t] := by
    have e3 : headF ⟨e, l.map RSeg.abs⟩ = [75, 73, 77, 71] ++ [1, (l.length : Int) % 256, 0, 0] ++ le e 8 := by unfold headF; simp only [List.length_map]
    rw [e3]
    exact h.dropAt 1
  have hhl := head_len ⟨e, l.map RSeg.abs⟩
  generalize headF ⟨e, l.map RSeg.abs⟩ = H at *
  have hhd : ∀ k, (((l.map RSeg.abs).take k).flatMap hdrF).length ≤ 128 := fun k => by
    rw [hdrs_len, List.length_take, List.length_map]; omega
  refine LoopW.m2 (fun (s : Sl) (i : Int) w' => ∃ k : Nat, i = k ∧ k ≤ l.length ∧ SH w w' [rD s (H ++ ((l.map RSeg.abs).take k).flatMap hdrF), BI cb e t]) (fun _ (i : Int) _ => (l.length - i).toNat) ⟨0, rfl, by omega, by rw [List.take_zero, List.flatMap_nil, List.append_nil]; exact h⟩ ?_
  clear h
  rintro (l21 : Sl) (i : Int) w24 ⟨k, rfl, hk, h⟩ J hJ
  refine ⟨t, h.cell 1 rfl rfl, BIf.dec (fun hlt => ?_) (fun hge => ?_)⟩
  · have hx : l[k]? = some l[k] := List.getElem?_eq_getElem (by omega)
    generalize l[k] = x at hx
    obtain ⟨q, hq, hc⟩ := (hL.recs_.ext h.ext).get (by decide) hx
    have hxm := List.mem_of_getElem? hx
    obtain ⟨a1, a2, a3, a4, a5, a6, a7, a8⟩ := hok x hxm
    have hxd := (hL.each x hxm).len
    have b1 : x.abs.Va = x.Va := rfl
    have b2 : x.abs.Size = x.Size := rfl
    have b3 : x.abs.Prot = x.Prot := rfl
    have b4 : x.abs.Data = x.Data := rfl
    rw [b1] at a1 a2 a3 a6
    rw [b2] at a4 a5 a6 a7
    rw [b4] at a7
    rw [b3] at a8
    have hhk := hhd k
    simp only [Int.toNat_natCast]
    rw [w64 (n := (k : Int) + 1) (by omega) (by omega)]
    refine ⟨t, h.cell 1 rfl rfl, by omega, by omega, q, hq, _, hc 0 _ rfl, _, hc 1 _ rfl, _, hc 2 _ rfl, x.D, hc 3 _ rfl, ?_⟩
    refine h.alloc (fun w30 h e30 n30 => ?_)
    refine h.put 0 rfl rfl rfl (fun w31 h n31 => ?_)
    generalize w24.heap.size = xb at *
    have h : SH w w31 [BS xb x, rD l21 (H ++ ((l.map RSeg.abs).take k).flatMap hdrF), BI cb e t] := h
    refine ⟨_, h.cell 0 rfl rfl, (s81 (n := 4) (by omega) (by omega) (by omega)).mono ?_⟩
    rintro _ w34 ⟨l35, rfl, g⟩
    have h := h.seq g
    refine ⟨l35, rfl, ?_⟩
    refine SH.appendN (us := le x.Va 4) ((h.front (n := 2) rfl)) (h.rowN 0 rfl) rfl rfl (by decide) (by show (_ + _) * 1 ≤ _; rw [le_len, List.length_append]; omega) (fun l36 w37 h hl36 _ => ?_)
    have h := h.dropAt 1
    refine ⟨_, h.cell 1 rfl rfl, (s81 (n := 4) (by omega) (by omega) (by omega)).mono ?_⟩
    rintro _ w40 ⟨l41, rfl, g⟩
    have h := h.seq g
    refine ⟨l41, rfl, ?_⟩
    refine SH.appendN (us := le x.Size 4) ((h.front (n := 1) rfl)) (h.rowN 0 rfl) rfl rfl (by decide) (by show (_ + _) * 1 ≤ _; rw [le_len, List.length_append, List.length_append, le_len]; omega) (fun l42 w43 h hl42 _ => ?_)
    have h := h.dropAt 1
    refine ⟨x.D, h.cell 1 rfl rfl, ?_⟩
    rw [hxd]
    refine (s81 (n := 4) (by omega) (by omega) (by omega)).mono ?_
    rintro _ w46 ⟨l47, rfl, g⟩
    have h := h.seq g
    refine ⟨l47, rfl, ?_⟩
    refine SH.appendN (us := le (x.Data.length : Int) 4) ((h.front (n := 1) rfl)) (h.rowN 0 rfl) rfl rfl (by decide) (by show (_ + _) * 1 ≤ _; rw [le_len, List.length_append, List.length_append, List.length_append, le_len, le_len]; omega) (fun l48 w49 h hl48 _ => ?_)
    have h := h.dropAt 1
    refine ⟨_, h.cell 1 rfl rfl, ?_⟩
    refine h.alloc (fun w51 h e51 n51 => ?_)
    have h := h.toRow (n := 4) (z := 1) (ys := ([x.Prot % 256, 0, 0, 0] : List Int).map (fun x => [Value.int .u8 x])) (by rw [IntKind.wrap_u8]; rfl) rfl (fun u hu => by obtain ⟨x, _, rfl⟩ := List.mem_map.1 hu; rfl)
    have h : SH w w51 (rD ⟨some ⟨w49.heap.size, 0, none⟩, 4, 4⟩ [x.Prot % 256, 0, 0, 0] :: _) := h
    refine SH.appendN (us := [x.Prot % 256, 0, 0, 0]) ((h.front (n := 1) rfl)) (h.rowN 0 rfl) rfl rfl (by decide) (by show (_ + _) * 1 ≤ _; rw [List.length_append, List.length_append, List.length_append, List.length_append, le_len, le_len, le_len, show ([x.Prot % 256, 0, 0, 0] : List Int).length = 4 from rfl]; omega) (fun l52 w53 h hl52 _ => ?_)
    refine hJ _ _ _ ⟨k + 1, by omega, by omega, ?_⟩ (by omega)
    rw [mapT hx, List.flatMap_append, List.flatMap_cons, List.flatMap_nil, List.append_nil]
    have e4 : H ++ (((l.map RSeg.abs).take k).flatMap hdrF ++ hdrF x.abs) = H ++ ((l.map RSeg.abs).take k).flatMap hdrF ++ le x.Va 4 ++ le x.Size 4 ++ le (x.Data.length : Int) 4 ++ [x.Prot % 256, 0, 0, 0] := by
      unfold hdrF
      rw [b1, b2, b3, b4]
      simp only [List.append_assoc]
    rw [e4]
    exact (h.dropAt 1).dropAt 1
  · obtain rfl : k = l.length := by omega
    have htk : (l.map RSeg.abs).take l.length = l.map RSeg.abs := List.take_of_length_le (by rw [List.length_map]; omega)
    rw [htk] at h
    clear hJ J
    have hHl : (H ++ (l.map RSeg.abs).flatMap hdrF).length ≤ 144 := by have := hhd l.length; rw [htk] at this; rw [List.length_append]; omega
    generalize hG : H ++ (l.map RSeg.abs).flatMap hdrF = G at *
    have hdk : ∀ k, k ≤ l.length → (((l.map RSeg.abs).take k).flatMap ISeg.Data).length ≤ 524288 := fun k hk => by
      have := datas_few (l.take k) (fun x hx => hok x (List.mem_of_mem_take hx))
      rw [List.length_take] at this
      rw [← List.map_take]; omega
    refine LoopW.m2 (fun (s : Sl) (i : Int) w' => ∃ k : Nat, i = k ∧ k ≤ l.length ∧ SH w w' [rD s (G ++ ((l.map RSeg.abs).take k).flatMap ISeg.Data), BI cb e t]) (fun _ (i : Int) _ => (l.length - i).toNat) ⟨0, rfl, by omega, by rw [List.take_zero, List.flatMap_nil, List.append_nil]; exact h⟩ ?_
    clear h
    rintro (l55 : Sl) (i : Int) w58 ⟨k, rfl, hk2, h⟩ J hJ
    refine ⟨t, h.cell 1 rfl rfl, BIf.dec (fun hlt => ?_) (fun hge2 => ?_)⟩
    · have hx : l[k]? = some l[k] := List.getElem?_eq_getElem (by omega)
      generalize l[k] = x at hx
      obtain ⟨q, hq, hc⟩ := (hL.recs_.ext h.ext).get (by decide) hx
      have hxm := List.mem_of_getElem? hx
      obtain ⟨a1, a2, a3, a4, a5, a6, a7, a8⟩ := hok x hxm
      have hxb := hL.each x hxm
      have b4 : x.abs.Data = x.Data := rfl
      rw [b4] at a7
      have hdk1 := hdk k hk2
      simp only [Int.toNat_natCast]
      rw [Go.Den.w64 (n := (k : Int) + 1) (by omega) (by omega)]
      refine ⟨t, h.cell 1 rfl rfl, by omega, by omega, q, hq, x.D, hc 3 _ rfl, ?_⟩
      refine SH.appendN (us := x.Data) h (h.ext.row hxb.row) rfl rfl (by decide) (by show (_ + _) * 1 ≤ _; rw [List.length_append]; omega) (fun l67 w68 h hl67 _ => ?_)
      refine hJ _ _ _ ⟨k + 1, by omega, by omega, ?_⟩ (by omega)
      rw [mapT hx, List.flatMap_append, List.flatMap_cons, List.flatMap_nil, List.append_nil, ← List.append_assoc]
      exact h
    · obtain rfl : k = l.length := by omega
      rw [htk, ← hbe] at h
      have hin : inBy (bodyF ⟨e, l.map RSeg.abs⟩) := inBy_body (fun s hs => by
        obtain ⟨x, hx, rfl⟩ := List.mem_map.1 hs
        exact (hL.each x hx).rng)
      have hc := crc32 hin
      have hby := SH.byAt (s := l55) h 0 rfl hin (by omega)
      refine (c82 ⟨hby.len, hby.cap, hby.row, hby.rng, hby.small⟩).mono ?_
      rintro _ w70 ⟨rfl, rfl⟩
      refine ⟨_, rfl, ?_⟩
      rw [Go.Den.w64 (n := crc _) (by omega) (by omega)]
      refine (s81 (n := 4) (by omega) hc.1 (by omega)).mono ?_
      rintro _ w73 ⟨l74, rfl, g⟩
      have h := h.seq g
      refine ⟨l74, rfl, ?_⟩
      refine SH.appendN (us := le (crc (bodyF ⟨e, l.map RSeg.abs⟩)) 4) h.p1 (h.rowN 0 rfl) rfl rfl (by decide) (by show (_ + _) * 1 ≤ _; rw [le_len]; omega) (fun l75 w76 h hl75 _ => ?_)
      exact ⟨l75, rfl, h.take 1⟩
end Go.Proofs.Ytenhcpjlkmbedaa

/- Images in memory; numbers read, an image read, the program's. Conditions: none. -/
set_option linter.unusedVariables false
set_option linter.unusedSimpArgs false
namespace Go.Proofs.Ytenhcpjlkmbedaa
open Go Go.Den
theorem c134 {n : Nat} {w : World} (hn : n = 4 ∨ n = 8) : CallW Try.prog 134 #[.int .i64 (n : Int)] w (fun v w' => v = .bool true ∧ w' = w) := by
  refine go134 ?_
  unfold W134
  refine JoinW.cut1 (fun (b : Bool) w' => b = false ∧ w' = w) (BIf.eq (fun h => by omega) (fun h => ⟨by rw [beq_eq_false_iff_ne]; omega, rfl⟩)) ?_
  rintro (b : Bool) w3 ⟨rfl, rfl⟩
  refine JoinW.cut1 (fun (b : Bool) w' => b = decide (n = 4) ∧ w' = w3) (BIf.f rfl ⟨by rw [Bool.eq_iff_iff, beq_iff_eq, decide_eq_true_iff]; omega, rfl⟩) ?_
  rintro (b : Bool) w6 ⟨rfl, rfl⟩
  refine JoinW.cut1 (fun (b : Bool) w' => b = true ∧ w' = w6) (BIf.dec (fun h => ⟨rfl, rfl⟩) (fun h => ⟨by rw [beq_iff_eq]; omega, rfl⟩)) ?_
  rintro (b : Bool) w9 ⟨rfl, rfl⟩
  exact ⟨rfl, rfl⟩
theorem c75 {n : Nat} {p k : Int} {w : World} (hn : n ≤ 1099511627776) : CallW Try.prog 75 #[.int .i64 (n : Int), .int .i64 p, .int .i64 k] w (fun v w' => v = .bool (decide (0 ≤ p ∧ 0 ≤ k ∧ p ≤ n ∧ k ≤ n - p)) ∧ w' = w) := by
  refine go75 ?_
  unfold W75
  refine JoinW.cut1 (fun (b : Bool) w' => b = decide (0 ≤ p ∧ 0 ≤ k) ∧ w' = w) (BIf.dec (fun h => ⟨by rw [Bool.eq_iff_iff, decide_eq_true_iff, decide_eq_true_iff]; omega, rfl⟩) (fun h => ⟨(decide_eq_false (by omega)).symm, rfl⟩)) ?_
  rintro (b : Bool) w3 ⟨rfl, rfl⟩
  refine JoinW.cut1 (fun (b : Bool) w' => b = decide (0 ≤ p ∧ 0 ≤ k ∧ p ≤ n) ∧ w' = w3) (BIf.dec (fun h => ⟨by rw [Bool.eq_iff_iff, decide_eq_true_iff, decide_eq_true_iff]; omega, rfl⟩) (fun h => ⟨(decide_eq_false (by omega)).symm, rfl⟩)) ?_
  rintro (b : Bool) w6 ⟨rfl, rfl⟩
  refine JoinW.cut1 (fun (b : Bool) w' => b = decide (0 ≤ p ∧ 0 ≤ k ∧ p ≤ n ∧ k ≤ n - p) ∧ w' = w6) (BIf.dec (fun h => ⟨by rw [w64 (n := (n : Int) - p) (by omega) (by omega), Bool.eq_iff_iff, decide_eq_true_iff, decide_eq_true_iff]; omega, rfl⟩) (fun h => ⟨(decide_eq_false (by omega)).symm, rfl⟩)) ?_
  rintro (b : Bool) w9 ⟨rfl, rfl⟩
  exact ⟨rfl, rfl⟩
theorem byAt_at {w : World} {t : Sl} {b : List Int} (h : ByAt w t b) {i : Int} (h0 : 0 ≤ i) (h1 : i < b.length) : ∃ p, t.a = some p ∧ w.cell? (p.add (i.toNat * 1)) = some (.int .u8 (byt b i)) :=
  Bytes.at ⟨h.len, h.cap, h.row, h.rng, h.small⟩ h0 h1
theorem B256_mono : ∀ n, n ≤ 7 → B256 n ≤ 72057594037927936 := by decide
theorem c73 {t : Sl} {b : List Int} {p n : Nat} {w : World} (h : ByAt w t b) (hn : n = 4 ∨ n = 8) (h1 : p + n ≤ b.length) : CallW Try.prog 73 #[.slice t.a t.len t.cap, .int .i64 (p : Int), .int .i64 (n : Int), .bool false] w (fun v w' => v = .tuple #[.int .u64 (wordN b p n), .bool true] ∧ w' = w) := by
  refine go73 ?_
  unfold W73
  have hl := h.len
  have hsm := h.small
  refine (c134 hn).mono ?_
  rintro _ w ⟨rfl, rfl⟩
  refine ⟨_, rfl, ?_⟩
  refine JoinW.cut1 (fun (b : Bool) w' => b = false ∧ w' = w) (BIf.f rfl ((c75 (by omega)).mono ?_)) ?_
  · rintro _ w2 ⟨rfl, rfl⟩
    refine ⟨_, rfl, ?_, by trivial⟩
    rw [decide_eq_true (by omega)]; rfl
  rintro (c : Bool) w6 ⟨rfl, rfl⟩
  refine BIf.f rfl ?_
  refine LoopW.m2 (fun (x i : Int) w' => ∃ k : Nat, k ≤ n ∧ i = (k : Int) - 1 ∧ hornr b p k x = wordN b p n ∧ 0 ≤ x ∧ x < B256 (n - k) ∧ w' = w6) (fun _ (i : Int) _ => (i + 1).toNat) ⟨n, by omega, by rw [w64 (by omega) (by omega)], rfl, by omega, by rw [Nat.sub_self]; decide, rfl⟩ ?_
  rintro (x : Int) (i : Int) w ⟨k, hk, rfl, hx, hx0, hx1, rfl⟩ J hJ
  refine BIf.dec (fun hge => ?_) (fun hlt => ?_)
  · obtain ⟨j, rfl⟩ : ∃ j, k = j + 1 := ⟨k - 1, by omega⟩
    have hb := byt_rng h.rng ((p : Int) + (j : Int))
    have e : B256 (n - j) = 256 * B256 (n - (j + 1)) := by rw [show n - j = (n - (j + 1)) + 1 by omega]; rfl
    have hB := B256_mono (n - (j + 1)) (by omega)
    have hidx : IntKind.i64.wrap ((p : Int) + (((j + 1 : Nat) : Int) - 1)) = (p : Int) + (j : Int) := by rw [w64 (by omega) (by omega)]; omega
    rw [hidx]
    obtain ⟨q, hq, hc⟩ := byAt_at h (i := (p : Int) + (j : Int)) (by omega) (by omega)
    refine ⟨by decide, by omega, by omega, q, hq, _, hc, ?_⟩
    rw [or_byte hx0 (by omega) hb.1 hb.2, w64 (by omega) (by omega)]
    exact hJ _ _ _ ⟨j, by omega, by omega, hx, by omega, by omega, rfl⟩ (by omega)
  · have hk0 : k = 0 := by omega
    subst hk0
    refine BIf.f rfl ⟨?_, rfl⟩
    have hx : x = wordN b p n := hx
    rw [hx]
theorem c83 {t : Sl} {b : List Int} {p n : Nat} {w : World} (h : ByAt w t b) (hn : n = 4 ∨ n = 8) (h1 : p + n ≤ b.length) : CallW Try.prog 83 #[.slice t.a t.len t.cap, .int .i64 (p : Int), .int .i64 (n : Int)] w (fun v w' => v = .int .i64 (IntKind.i64.wrap (wordN b p n)) ∧ w' = w) := by
  refine go83 ?_
  unfold W83
  have hl := h.len
  have hsm := h.small
  refine LoopW.m2 (fun (x i : Int) w' => ∃ k : Nat, k ≤ n ∧ i = (k : Int) - 1 ∧ hornr b p k x = wordN b p n ∧ 0 ≤ x ∧ x < B256 (n - k) ∧ w' = w) (fun _ (i : Int) _ => (i + 1).toNat) ⟨n, by omega, by rw [w64 (by omega) (by omega)], rfl, by omega, by rw [Nat.sub_self]; decide, rfl⟩ ?_
  rintro (x : Int) (i : Int) w ⟨k, hk, rfl, hx, hx0, hx1, rfl⟩ J hJ
  refine BIf.dec (fun hge => ?_) (fun hlt => ?_)
  · obtain ⟨j, rfl⟩ : ∃ j, k = j + 1 := ⟨k - 1, by omega⟩
    have hb := byt_rng h.rng ((p : Int) + (j : Int))
    have e : B256 (n - j) = 256 * B256 (n - (j + 1)) := by rw [show n - j = (n - (j + 1)) + 1 by omega]; rfl
    have hB := B256_mono (n - (j + 1)) (by omega)
    have hidx : IntKind.i64.wrap ((p : Int) + (((j + 1 : Nat) : Int) - 1)) = (p : Int) + (j : Int) := by rw [w64 (by omega) (by omega)]; omega
    rw [hidx]
    obtain ⟨q, hq, hc⟩ := byAt_at h (i := (p : Int) + (j : Int)) (by omega) (by omega)
    refine ⟨by omega, by omega, q, hq, _, hc, ?_⟩
    rw [wu64 (n := x * 256) (by omega) (by omega), wu64 (n := byt b ((p : Int) + (j : Int))) (by omega) (by omega), wu64 (by omega) (by omega), w64 (by omega) (by omega)]
    exact hJ _ _ _ ⟨j, by omega, by omega, hx, by omega, by omega, rfl⟩ (by omega)
  · have hk0 : k = 0 := by omega
    subst hk0
    have hx : x = wordN b p n := hx
    exact ⟨by rw [hx], rfl⟩
theorem word4_rng {b : List Int} (hb : inBy b) (p : Nat) : 0 ≤ wordN b p 4 ∧ wordN b p 4 < 4294967296 := by
  rw [horn4]
  have r0 := byt_rng hb ((p + 0 : Nat) : Int)
  have r1 := byt_rng hb ((p + 1 : Nat) : Int)
  have r2 := byt_rng hb ((p + 2 : Nat) : Int)
  have r3 := byt_rng hb ((p + 3 : Nat) : Int)
  omega
theorem c74 {t : Sl} {b : List Int} {c p n : Nat} {w : World} (h : ByAt w t b) (hc : w.cell? ⟨c, 0, none⟩ = some (.slice t.a t.len t.cap)) (hn : n = 4 ∨ n = 8) (h1 : p + n ≤ b.length) : CallW Try.prog 74 #[.int .i64 (p : Int), .int .i64 (n : Int), .pointer (some ⟨c, 0, none⟩)] w (fun v w' => v = .int .i64 (IntKind.i64.wrap (wordN b p n)) ∧ w' = w) := by
  refine go74 ?_
  unfold W74
  refine ⟨t, hc, (c73 h hn h1).mono ?_⟩
  rintro _ w3 ⟨rfl, rfl⟩
  exact ⟨_, _, rfl, rfl, rfl⟩
theorem byt_tk {b : List Int} {L i : Nat} (hi : i < L) : byt (b.take L) (i : Int) = byt b (i : Int) := by
  unfold byt
  rw [Int.toNat_natCast, List.getD_eq_getElem?_getD, List.getD_eq_getElem?_getD, List.getElem?_take_of_lt hi]
theorem word4_take {b : List Int} {L p : Nat} (h : p + 4 ≤ L) : wordN (b.take L) p 4 = wordN b p 4 := by
  rw [horn4, horn4, byt_tk (by omega), byt_tk (by omega), byt_tk (by omega), byt_tk (by omega)]
theorem word8_take {b : List Int} {L p : Nat} (h : p + 8 ≤ L) : wordN (b.take L) p 8 = wordN b p 8 := by
  rw [horn8, horn8, byt_tk (by omega), byt_tk (by omega), byt_tk (by omega), byt_tk (by omega), byt_tk (by omega), byt_tk (by omega), byt_tk (by omega), byt_tk (by omega)]
theorem byAt_take {w : World} {t : Sl} {b : List Int} (h : ByAt w t b) {L : Nat} (hL : L ≤ b.length) : ByAt w ⟨cutA t.a t.cap (Int.toNat 0) 1, L, t.cap - Int.toNat 0⟩ (b.take L) := by
  have hl := h.len
  have hc := h.cap
  refine ⟨by rw [List.length_take]; show L = min L b.length; omega, by show L ≤ t.cap - 0; omega, ?_, fun x hx => h.rng x (List.mem_of_mem_take hx), by rw [List.length_take]; have := h.small; omega⟩
  have := row_cut (a := 0) (n := L) h.row hl hc (by omega)
  rw [List.drop_zero] at this
  exact this
/-- What reading hands back. -/
def ReadR (w : World) (r : IImg × Int) (v : Value) (w' : World) : Prop := ∃ (t : Sl) (l : List RSeg), v = .tuple #[iV r.1.Entry t, .int .i64 r.2] ∧ l.map RSeg.abs = r.1.Segs ∧ SH w w' [rS t l, bS l]
theorem read_bad {w w' : World} {F : List Asr} {c : Int} (h : SH w w' F) : ReadR w (⟨0, []⟩, c) (.tuple #[iV 0 N0, .int .i64 c]) w' := ⟨N0, [], rfl, rfl, (((SH.bagNil segA h).nil none 4)).take 2⟩
end Go.Proofs.Ytenhcpjlkmbedaa

/- Images in memory; an image read, the program's. Conditions: none. -/
set_option linter.unusedVariables false
set_option linter.unusedSimpArgs false
namespace Go.Proofs.Ytenhcpjlkmbedaa
open Go Go.Den
theorem rf1 {b : List Int} (h : b.length < 20) : readF b = (⟨0, []⟩, 1) := by unfold readF; rw [if_pos h]
theorem rf2 {b : List Int} (h : ¬ b.length < 20) (h2 : b.take 4 ≠ [75, 73, 77, 71]) : readF b = (⟨0, []⟩, 2) := by unfold readF; rw [if_neg h, if_pos h2]
theorem rf3 {b : List Int} (h : ¬ b.length < 20) (h2 : b.take 4 = [75, 73, 77, 71]) (h3 : byt b 4 ≠ 1) : readF b = (⟨0, []⟩, 3) := by unfold readF; rw [if_neg h, if_neg (fun hh => hh h2), if_pos h3]
theorem rf4 {b : List Int} (h : ¬ b.length < 20) (h2 : b.take 4 = [75, 73, 77, 71]) (h3 : byt b 4 = 1) (h4 : wordN b (b.length - 4) 4 ≠ crc (b.take (b.length - 4))) : readF b = (⟨0, []⟩, 4) := by unfold readF; rw [if_neg h, if_neg (fun hh => hh h2), if_neg (fun hh => hh h3), if_pos h4]
theorem rf5 {b : List Int} (h : ¬ b.length < 20) (h2 : b.take 4 = [75, 73, 77, 71]) (h3 : byt b 4 = 1) (h4 : wordN b (b.length - 4) 4 = crc (b.take (b.length - 4))) (h5 : takeF b = none) : readF b = (⟨0, []⟩, 5) := by unfold readF; rw [if_neg h, if_neg (fun hh => hh h2), if_neg (fun hh => hh h3), if_neg (fun hh => hh h4), h5]
theorem rf6 {b : List Int} {m : IImg} (h : ¬ b.length < 20) (h2 : b.take 4 = [75, 73, 77, 71]) (h3 : byt b 4 = 1) (h4 : wordN b (b.length - 4) 4 = crc (b.take (b.length - 4))) (h5 : takeF b = some m) (h6 : ¬ (imgB m = true ∧ packF m = b)) : readF b = (⟨0, []⟩, 5) := by
  unfold readF; rw [if_neg h, if_neg (fun hh => hh h2), if_neg (fun hh => hh h3), if_neg (fun hh => hh h4), h5]
  simp only
  rw [if_neg (fun hh => h6 ⟨(imgB_iff m).2 hh.1, hh.2⟩)]
theorem rf7 {b : List Int} {m : IImg} (h : ¬ b.length < 20) (h2 : b.take 4 = [75, 73, 77, 71]) (h3 : byt b 4 = 1) (h4 : wordN b (b.length - 4) 4 = crc (b.take (b.length - 4))) (h5 : takeF b = some m) (h6 : imgB m = true ∧ packF m = b) : readF b = (m, 0) := by
  unfold readF; rw [if_neg h, if_neg (fun hh => hh h2), if_neg (fun hh => hh h3), if_neg (fun hh => hh h4), h5]
  simp only
  rw [if_pos ⟨(imgB_iff m).1 h6.1, h6.2⟩]
theorem magic : (⟨#[75, 73, 77, 71]⟩ : ByteArray) = strOfNums [75, 73, 77, 71] := by decide
theorem c76 {w : World} {t : Sl} {l : List Int} (hr : RowAt w t.a t.len (l.map (Value.int .u8))) (hl : l.length ≤ 1099511627776) : CallW Try.prog 76 #[.slice t.a t.len t.cap] w (fun v w' => ∃ u : Sl, v = .slice u.a u.len u.cap ∧ SH w w' [rD u l]) := by
  refine go76 ?_
  unfold W76
  exact SH.appendN (m := []) ((SH.start w).nil none 1) hr rfl rfl (by decide) (by show (_ + _) * 1 ≤ _; simp; omega) (fun u w2 h _ _ => ⟨u, rfl, h⟩)
theorem takeS_no {b : List Int} {L c i p : Nat} (h : ¬ p + (wordN b (16 + 16 * i + 8) 4).toNat ≤ L) : takeS b L (c + 1) i p = none := by rw [takeS, if_neg h]
theorem takeS_yes {b : List Int} {L c i p : Nat} (h : p + (wordN b (16 + 16 * i + 8) 4).toNat ≤ L) : takeS b L (c + 1) i p = (takeS b L c (i + 1) (p + (wordN b (16 + 16 * i + 8) 4).toNat)).map (fun r => ⟨wordN b (16 + 16 * i) 4, byt b ((16 + 16 * i + 12 : Nat) : Int), wordN b (16 + 16 * i + 4) 4, (b.drop p).take (wordN b (16 + 16 * i + 8) 4).toNat⟩ :: r) := by
  rw [takeS, if_pos h]
  cases takeS b L c (i + 1) (p + (wordN b (16 + 16 * i + 8) 4).toNat) <;> rfl
theorem strq {a b : List Int} (ha : inBy a) (hb : inBy b) : strEq (strOfNums a) (strOfNums b) = decide (a = b) := by
  rw [Bool.eq_iff_iff, decide_eq_true_iff]; exact str_eq ha hb
set_option maxRecDepth 4000 in
set_option maxHeartbeats 4000000 in
theorem s23 {w : World} {t : Sl} {b : List Int} (hb : ByAt w t b) : CallW Try.prog 23 #[.slice t.a t.len t.cap] w (ReadR w (readF b)) := by
  refine go23 ?_
  unfold W23
  have hl := hb.len
  have hcap := hb.cap
  have hsm := hb.small
  have hin : inBy b := hb.rng
  have h := SH.start w
  refine h.alloc (fun w1 h e1 n1 => ?_)
  generalize w.heap.size = ob at *
  have h : SH w w1 [BI ob 0 N0] := h
  refine BIf.dec (fun hlt => ?_) (fun hge => ?_)
  · refine h.put 0 rfl rfl rfl (fun w2 h n2 => ?_)
    refine ⟨_, h.cell 0 rfl rfl, N0, h.cell 0 rfl rfl, ?_⟩
    rw [rf1 (by omega)]
    exact read_bad h
  have g1 : ¬ b.length < 20 := by omega
  have hb4 := (byAt_take (hb.ext h.ext) (L := 4) (by omega)).row
  refine ⟨by omega, by omega, b.take 4, hb4, ?_⟩
  have hin4 : inBy (b.take 4) := fun x hx => hin x (List.mem_of_mem_take hx)
  rw [magic, strq hin4 (fun x hx => by simp only [List.mem_cons, List.not_mem_nil, or_false] at hx; rcases hx with rfl | rfl | rfl | rfl <;> omega)]
  refine BIf.of (fun hc => ?_) (fun hc => ?_)
  · refine h.put 0 rfl rfl rfl (fun w2 h n2 => ?_)
    refine ⟨_, h.cell 0 rfl rfl, N0, h.cell 0 rfl rfl, ?_⟩
    rw [rf2 g1 (by simpa using hc)]
    exact read_bad h
  have g2 : b.take 4 = [75, 73, 77, 71] := by simpa using hc
  obtain ⟨q4, hq4, hc4⟩ := byAt_at (hb.ext h.ext) (i := 4) (by omega) (by omega)
  refine ⟨by omega, by omega, q4, hq4, _, hc4, BIf.ne (fun hc => ?_) (fun g3 => ?_)⟩
  · refine h.put 0 rfl rfl rfl (fun w2 h n2 => ?_)
    refine ⟨_, h.cell 0 rfl rfl, N0, h.cell 0 rfl rfl, ?_⟩
    rw [rf3 g1 g2 hc]
    exact read_bad h
  rw [w64 (n := (t.len : Int) - 4) (by omega) (by omega)]
  obtain ⟨L, hL⟩ : ∃ L, L = b.length - 4 := ⟨_, rfl⟩
  have hLi : (t.len : Int) - 4 = (L : Int) := by omega
  rw [hLi, Int.toNat_natCast]
  refine ⟨by omega, by omega, ?_⟩
  refine h.alloc (fun w14 h e14 n14 => ?_)
  generalize w1.heap.size = cb at *
  have hbody := fun w2 (e : Ext w w2) => byAt_take (hb.ext e) (L := L) (by omega)
  have eL : L - Int.toNat 0 = L := by simp
  rw [eL]
  generalize hbd : (⟨cutA t.a t.cap (Int.toNat 0) 1, L, t.cap - Int.toNat 0⟩ : Sl) = body at *
  have hba : cutA t.a t.cap (Int.toNat 0) 1 = body.a := by rw [← hbd]
  have hbl : body.len = L := by rw [← hbd]
  have hbc : t.cap - Int.toNat 0 = body.cap := by rw [← hbd]
  rw [hba, hbc]
  refine h.setV 0 rfl rfl (fun w15 h n15 => ?_)
  have h : SH w w15 [aB cb (([.slice body.a L body.cap] : List Value).map Ce.v), BI ob 0 N0] := h
  rw [← hbl] at h
  refine ⟨body, h.cell 0 rfl rfl, ?_⟩
  rw [hbl]
  refine (c73 (n := 4) (hb.ext h.ext) (.inl rfl) (by omega)).mono ?_
  rintro _ w18 ⟨rfl, rfl⟩
  refine ⟨_, _, rfl, body, h.cell 0 rfl rfl, ?_⟩
  have hby := hbody _ h.ext
  refine (c70 ⟨hby.len, hby.cap, hby.row, hby.rng, hby.small⟩).mono ?_
  rintro _ w23 ⟨rfl, rfl⟩
  refine ⟨_, rfl, BIf.ne (fun hc => ?_) (fun g4 => ?_)⟩
  · refine h.put 1 rfl rfl rfl (fun w2 h n2 => ?_)
    refine ⟨_, h.cell 1 rfl rfl, N0, h.cell 1 rfl rfl, ?_⟩
    rw [rf4 g1 g2 g3 (by rw [← hL]; exact hc)]
    exact read_bad h
  have g4 : wordN b (b.length - 4) 4 = crc (b.take (b.length - 4)) := by rw [← hL]; exact g4
  obtain ⟨q5, hq5, hc5⟩ := byAt_at (hb.ext h.ext) (i := 5) (by omega) (by omega)
  refine ⟨by omega, by omega, q5, hq5, _, hc5, ?_⟩
  have hn5 := byt_rng hin 5
  rw [w64 (n := byt b 5) (by omega) (by omega)]
  obtain ⟨n, hn⟩ : ∃ n : Nat, byt b 5 = (n : Int) := Int.eq_ofNat_of_zero_le hn5.1
  have hn255 : n ≤ 255 := by omega
  have hbln : (b.take L).length = L := by rw [List.length_take]; omega
  refine (c74 (p := 8) (n := 8) hby (h.cell 0 rfl rfl) (.inr rfl) (by omega)).mono ?_
  rintro _ w31 ⟨rfl, rfl⟩
  rw [word8_take (by omega)]
  refine ⟨_, rfl, ?_⟩
  refine h.alloc (fun w33 h e33 n33 => ?_)
  refine h.put 0 rfl rfl rfl (fun w34 h n34 => ?_)
  generalize w31.heap.size = mb at *
  generalize he : IntKind.i64.wrap (wordN b 8 8) = e at *
  have h : SH w w34 [BI mb e N0, aB cb (([.slice body.a body.len body.cap] : List Value).map Ce.v), BI ob 0 N0] := h
  refine ⟨body, h.cell 1 rfl rfl, ?_⟩
  rw [hbl, hn, w64 (n := 16 * (n : Int)) (by omega) (by omega), w64 (n := 16 + 16 * (n : Int)) (by omega) (by omega)]
  have htf : takeF b = if L < 16 + 16 * n then none else (takeS b L n 0 (16 + 16 * n)).map (fun l => ⟨e, l⟩) := by
    unfold takeF
    rw [hn, Int.toNat_natCast, ← hL, he]
  refine BIf.dec (fun hc => ?_) (fun hgL => ?_)
  · refine h.put 2 rfl rfl rfl (fun w2 h n2 => ?_)
    refine ⟨_, h.cell 2 rfl rfl, N0, h.cell 2 rfl rfl, ?_⟩
    rw [rf5 g1 g2 g3 g4 (by rw [htf, if_pos (by omega)])]
    exact read_bad h
  rw [if_neg (by omega)] at htf
  have h : SH w w34 [rS N0 [], bS [], BI mb e N0, aB cb (([.slice body.a body.len body.cap] : List Value).map Ce.v), BI ob 0 N0] := (SH.bagNil segA h).nil none 4
  refine LoopW.m2 (fun (at_ i : Int) w' => ∃ (k p : Nat) (l : List RSeg) (ts : Sl), i = k ∧ k ≤ n ∧ at_ = p ∧ p ≤ L ∧ l.length = k ∧ (∀ x, x ∈ l → inBy x.Data ∧ x.Data.length ≤ 1099511627776) ∧ (takeS b L (n - k) k p).map (fun r => l.map RSeg.abs ++ r) = takeS b L n 0 (16 + 16 * n) ∧ SH w w' [rS ts l, bS l, BI mb e ts, aB cb (([.slice body.a body.len body.cap] : List Value).map Ce.v), BI ob 0 N0]) (fun _ (i : Int) _ => (n - i).toNat) ⟨0, 16 + 16 * n, [], N0, rfl, by omega, by omega, by omega, rfl, (fun x hx => by simp at hx), by simp, h⟩ ?_
  clear h
  rintro (at_ : Int) (i : Int) w42 ⟨k, p, l, ts, rfl, hk, rfl, hp, hll, hld, htk, h⟩ J hJ
  refine BIf.dec (fun hlt => ?_) (fun hge2 => ?_)
  · have hp0 : IntKind.i64.wrap (16 + IntKind.i64.wrap (16 * (k : Int))) = ((16 + 16 * k : Nat) : Int) := by rw [w64 (n := 16 * (k : Int)) (by omega) (by omega), w64 (by omega) (by omega)]; omega
    have hp4 : IntKind.i64.wrap (((16 + 16 * k : Nat) : Int) + 4) = ((16 + 16 * k + 4 : Nat) : Int) := by rw [w64 (by omega) (by omega)]; omega
    have hp8 : IntKind.i64.wrap (((16 + 16 * k : Nat) : Int) + 8) = ((16 + 16 * k + 8 : Nat) : Int) := by rw [w64 (by omega) (by omega)]; omega
    have hp12 : IntKind.i64.wrap (((16 + 16 * k : Nat) : Int) + 12) = ((16 + 16 * k + 12 : Nat) : Int) := by rw [w64 (by omega) (by omega)]; omega
    simp only [hp0, hp4, hp8, hp12]
    have r0 := word4_rng hin (16 + 16 * k)
    have r4 := word4_rng hin (16 + 16 * k + 4)
    have r8 := word4_rng hin (16 + 16 * k + 8)
    have r12 := byt_rng hin ((16 + 16 * k + 12 : Nat) : Int)
    have v0 : IntKind.i64.wrap (wordN (b.take L) (16 + 16 * k) 4) = wordN b (16 + 16 * k) 4 := by rw [word4_take (by omega), w64 (by omega) (by omega)]
    have v4 : IntKind.i64.wrap (wordN (b.take L) (16 + 16 * k + 4) 4) = wordN b (16 + 16 * k + 4) 4 := by rw [word4_take (by omega), w64 (by omega) (by omega)]
    have v8 : IntKind.i64.wrap (wordN (b.take L) (16 + 16 * k + 8) 4) = wordN b (16 + 16 * k + 8) 4 := by rw [word4_take (by omega), w64 (by omega) (by omega)]
    refine JoinW.cut1 (fun (p43 : Option Addr) w' => ∃ sb : Nat, p43 = some ⟨sb, 0, none⟩ ∧ SH w w' [BS sb ⟨wordN b (16 + 16 * k) 4, byt b ((16 + 16 * k + 12 : Nat) : Int), wordN b (16 + 16 * k + 4) 4, N0, []⟩, rS ts l, bS l, BI mb e ts, aB cb (([.slice body.a body.len body.cap] : List Value).map Ce.v), BI ob 0 N0]) ?_ ?_
    · have h := h.drew
      obtain ⟨p12, hq12, hpc⟩ := byAt_at (hbody _ h.ext) (i := ((16 + 16 * k + 12 : Nat) : Int)) (by omega) (by omega)
      rw [Int.toNat_natCast, byt_tk (by omega)] at hpc
      have hpe : ∀ {w2 : World}, Ext w42.drew w2 → w2.cell? (p12.add ((16 + 16 * k + 12) * 1)) = some (.int .u8 (byt b ((16 + 16 * k + 12 : Nat) : Int))) := fun e => e.cell hpc
      simp only [Int.toNat_natCast]
      refine ⟨body, h.cell 3 rfl rfl, by omega, by omega, p12, hq12, _, hpc, ?_, ?_, trivial⟩
      · refine (c74 (n := 4) (hbody _ h.ext) (h.cell 3 rfl rfl) (.inl rfl) (by omega)).mono ?_
        rw [v0]
        rintro _ w90 ⟨rfl, rfl⟩
        refine ⟨_, rfl, (by first | rfl | trivial), ⟨_, hpc, by first | rfl | trivial⟩, ⟨body, h.cell 3 rfl rfl, by first | rfl | trivial⟩, ?_, ?_, trivial⟩
        · refine (c74 (n := 4) (hbody _ h.ext) (h.cell 3 rfl rfl) (.inl rfl) (by omega)).mono ?_
          rw [v4]
          rintro _ w104 ⟨rfl, rfl⟩
          refine ⟨_, rfl, (by first | rfl | trivial), ⟨_, hpc, by first | rfl | trivial⟩, ⟨body, h.cell 3 rfl rfl, by first | rfl | trivial⟩, ?_, trivial⟩
          refine h.alloc (fun w108 h e108 n108 => ?_)
          have hpc := hpe e108
          refine ⟨(by first | rfl | trivial), ⟨_, hpc, by first | rfl | trivial⟩, ⟨body, h.cell 4 rfl rfl, by first | rfl | trivial⟩, ?_, trivial⟩
          refine h.put 0 rfl rfl rfl (fun w111 h n111 => ?_)
          rw [w64 (n := byt b ((16 + 16 * k + 12 : Nat) : Int)) (by omega) (by omega)] at h
          exact ⟨_, rfl, h⟩
        · refine h.alloc (fun w94 h e94 n94 => ?_)
          have hpc := hpe e94
          refine ⟨(by first | rfl | trivial), ⟨_, hpc, by first | rfl | trivial⟩, ⟨body, h.cell 4 rfl rfl, by first | rfl | trivial⟩, ?_, trivial⟩
          refine (c74 (n := 4) (hbody _ h.ext) (h.cell 4 rfl rfl) (.inl rfl) (by omega)).mono ?_
          rw [v4]
          rintro _ w98 ⟨rfl, rfl⟩
          refine ⟨_, rfl, (by first | rfl | trivial), ⟨_, hpc, by first | rfl | trivial⟩, ⟨body, h.cell 4 rfl rfl, by first | rfl | trivial⟩, ?_, trivial⟩
          refine h.put 0 rfl rfl rfl (fun w111 h n111 => ?_)
          rw [w64 (n := byt b ((16 + 16 * k + 12 : Nat) : Int)) (by omega) (by omega)] at h
          exact ⟨_, rfl, h⟩
      · refine h.alloc (fun w75 h e75 n75 => ?_)
        have hpc := hpe e75
        refine ⟨(by first | rfl | trivial), ⟨_, hpc, by first | rfl | trivial⟩, ⟨body, h.cell 4 rfl rfl, by first | rfl | trivial⟩, ?_, trivial⟩
        refine (c74 (n := 4) (hbody _ h.ext) (h.cell 4 rfl rfl) (.inl rfl) (by omega)).mono ?_
        rw [v0]
        rintro _ w79 ⟨rfl, rfl⟩
        refine ⟨_, rfl, (by first | rfl | trivial), ⟨_, hpc, by first | rfl | trivial⟩, ⟨body, h.cell 4 rfl rfl, by first | rfl | trivial⟩, ?_, trivial⟩
        refine (c74 (n := 4) (hbody _ h.ext) (h.cell 4 rfl rfl) (.inl rfl) (by omega)).mono ?_
        rw [v4]
        rintro _ w84 ⟨rfl, rfl⟩
        refine ⟨_, rfl, (by first | rfl | trivial), ⟨_, hpc, by first | rfl | trivial⟩, ⟨body, h.cell 4 rfl rfl, by first | rfl | trivial⟩, ?_, trivial⟩
        refine h.put 0 rfl rfl rfl (fun w111 h n111 => ?_)
        rw [w64 (n := byt b ((16 + 16 * k + 12 : Nat) : Int)) (by omega) (by omega)] at h
        exact ⟨_, rfl, h⟩
    clear h
    rintro (p43 : Option Addr) w45 ⟨sb, rfl, h⟩
    obtain ⟨c, hcn⟩ : ∃ c, n - k = c + 1 := ⟨n - k - 1, by omega⟩
    refine (c74 (n := 4) (hbody _ h.ext) (h.cell 4 rfl rfl) (.inl rfl) (by omega)).mono ?_
    rw [v8]
    rintro _ w47 ⟨rfl, rfl⟩
    refine ⟨_, rfl, body, h.cell 4 rfl rfl, ?_⟩
    rw [hbl]
    refine (c75 (by omega)).mono ?_
    rintro _ w51 ⟨rfl, rfl⟩
    refine ⟨_, rfl, ?_⟩
    generalize hK : wordN b (16 + 16 * k + 8) 4 = K at *
    obtain ⟨K, rfl⟩ := Int.eq_ofNat_of_zero_le r8.1
    refine BIf.of (fun hc => ?_) (fun hc => ?_)
    · have hno : ¬ p + K ≤ L := by
        intro hh
        rw [decide_eq_true (by omega)] at hc; cases hc
      rw [hcn, takeS_no (by rw [hK, Int.toNat_natCast]; exact hno)] at htk
      refine h.put 5 rfl rfl rfl (fun w2 h n2 => ?_)
      refine ⟨_, h.cell 5 rfl rfl, N0, h.cell 5 rfl rfl, ?_⟩
      rw [rf5 g1 g2 g3 g4 (by rw [htf, ← htk]; rfl)]
      exact read_bad h
    have hyes : p + K ≤ L := by
      have := of_decide_eq_true (show decide _ = true by simpa using hc)
      omega
    rw [hcn, takeS_yes (by rw [hK, Int.toNat_natCast]; exact hyes), hK, Int.toNat_natCast] at htk
    rw [w64 (n := (p : Int) + (K : Int)) (by omega) (by omega), w64 (n := (k : Int) + 1) (by omega) (by omega)]
    have hbcap := (hbody _ h.ext).cap
    refine ⟨body, h.cell 4 rfl rfl, by omega, by omega, by omega, by omega, ?_⟩
    have hKe : ((p : Int) + (K : Int)).toNat - (p : Int).toNat = K := by omega
    rw [hKe, Int.toNat_natCast]
    have hcut := row_cut (a := p) (n := K) (hbody _ h.ext).row (by rw [hbl, hbln]) hbcap (by omega)
    have hdt : ((b.take L).drop p).take K = (b.drop p).take K := by
      rw [List.drop_take, List.take_take, Nat.min_eq_left (by omega)]
    rw [hdt] at hcut
    refine (c76 (t := ⟨cutA body.a body.cap p 1, K, body.cap - p⟩) hcut (by rw [List.length_take]; omega)).mono ?_
    rintro _ w58 ⟨u, rfl, g⟩
    have h := h.seq g
    refine ⟨u, rfl, ?_⟩
    have h : SH w w58 [rD u ((b.drop p).take K), BS sb ⟨wordN b (16 + 16 * k) 4, byt b ((16 + 16 * k + 12 : Nat) : Int), wordN b (16 + 16 * k + 4) 4, N0, []⟩, rS ts l, bS l, BI mb e ts, aB cb (([.slice body.a body.len body.cap] : List Value).map Ce.v), BI ob 0 N0] := h
    refine h.setVP 1 rfl rfl (fun w61 h n61 => ?_)
    generalize hx0 : (⟨wordN b (16 + 16 * k) 4, byt b ((16 + 16 * k + 12 : Nat) : Int), wordN b (16 + 16 * k + 4) 4, u, (b.drop p).take K⟩ : RSeg) = x0 at *
    have h : SH w w61 [rD u ((b.drop p).take K), BS sb x0, rS ts l, bS l, BI mb e ts, aB cb (([.slice body.a body.len body.cap] : List Value).map Ce.v), BI ob 0 N0] := by rw [← hx0]; exact h
    refine ⟨ts, h.cell 4 rfl rfl, _, h.cellP 1 rfl rfl, _, h.cellP 1 rfl rfl, _, h.cellP 1 rfl rfl, x0.D, h.cellP 1 rfl rfl, ?_⟩
    have h : SH w w61 [rS ts l, segA x0, bS l, BI mb e ts, aB cb (([.slice body.a body.len body.cap] : List Value).map Ce.v), BI ob 0 N0] := by
      have e2 : segA x0 = rD u ((b.drop p).take K) := by rw [← hx0]; rfl
      rw [e2]
      exact ((h.dropAt 1).front (n := 1) rfl)
    refine LetW_iff.2 (SH.appendR1 (f := RSeg.cells) (x := x0) h rfl rfl rfl (by decide) (by show (_ + _) * 48 ≤ _; omega) (plain_seg _) (fun l69 w70 h hl69 _ => ?_))
    refine h.setV 3 rfl rfl (fun w71 h n71 => ?_)
    have h := SH.bagSnoc (f := segA) (x := x0) (((h.front (n := 2) rfl).front (n := 2) rfl))
    refine hJ _ _ _ ⟨k + 1, p + K, l ++ [x0], l69, by omega, by omega, by omega, by omega, by rw [List.length_append, hll]; rfl, fun x hx => ?_, ?_, h.p1⟩ (by omega)
    · rcases List.mem_append.1 hx with hx | hx
      · exact hld x hx
      · rw [List.mem_singleton.1 hx, ← hx0]
        exact ⟨fun y hy => hin y (List.mem_of_mem_drop (List.mem_of_mem_take hy)), by show ((b.drop p).take K).length ≤ _; rw [List.length_take]; omega⟩
    · rw [← htk, show n - (k + 1) = c by omega, List.map_append, Option.map_map]
      have ex : x0.abs = ⟨wordN b (16 + 16 * k) 4, byt b ((16 + 16 * k + 12 : Nat) : Int), wordN b (16 + 16 * k + 4) 4, (b.drop p).take K⟩ := by rw [← hx0]; rfl
      cases takeS b L c (k + 1) (p + K) with
      | none => rfl
      | some r => simp [ex]
  · obtain rfl : k = n := by omega
    rw [Nat.sub_self] at htk
    have htk : some (l.map RSeg.abs ++ []) = takeS b L k 0 (16 + 16 * k) := htk
    rw [List.append_nil] at htk
    have htf : takeF b = some ⟨e, l.map RSeg.abs⟩ := by rw [htf, ← htk]; rfl
    refine ⟨_, h.cell 2 rfl rfl, ts, h.cell 2 rfl rfl, (s21 (lentI_of h 0 1 rfl rfl (by omega) hld)).mono ?_⟩
    rintro _ w115 ⟨pt, rfl, g⟩
    have h := h.seq g
    refine ⟨pt, _, rfl, ?_⟩
    refine JoinW.cut1 (fun (c : Bool) w' => (c = true ↔ ¬ (imgB ⟨e, l.map RSeg.abs⟩ = true ∧ packF ⟨e, l.map RSeg.abs⟩ = b)) ∧ w' = w115) (BIf.of (fun hc => ⟨⟨(fun _ hh => by rw [hh.1] at hc; cases hc), (fun _ => rfl)⟩, rfl⟩) (fun hc => ?_)) ?_
    · have hi : imgB ⟨e, l.map RSeg.abs⟩ = true := by simpa using hc
      rw [if_pos hi] at h
      have hinp : inBy (packF ⟨e, l.map RSeg.abs⟩) := inBy_app (inBy_body (fun s hs => by
        obtain ⟨x, hx, rfl⟩ := List.mem_map.1 hs
        exact (hld x hx).1)) (inBy_le _ _)
      refine ⟨_, h.rowN 0 rfl, b, (hb.ext h.ext).row, ?_, rfl⟩
      rw [strq hinp hin, Bool.not_eq_true', decide_eq_false_iff_not]
      exact ⟨fun hh h2 => hh h2.2, fun hh h2 => hh ⟨hi, h2⟩⟩
    rintro (c : Bool) w120 ⟨hcc, rfl⟩
    have h : SH w w120 [_, rS ts l, bS l, BI mb e ts, aB cb (([.slice body.a body.len body.cap] : List Value).map Ce.v), BI ob 0 N0] := h
    refine BIf.of (fun hc => ?_) (fun hc => ?_)
    · refine h.put 5 rfl rfl rfl (fun w2 h n2 => ?_)
      refine ⟨_, h.cell 5 rfl rfl, N0, h.cell 5 rfl rfl, ?_⟩
      rw [rf6 g1 g2 g3 g4 htf (hcc.1 hc)]
      exact read_bad h
    · have hok := Decidable.not_not.1 (fun hh => by rw [hcc.2 hh] at hc; cases hc)
      refine ⟨_, h.cell 3 rfl rfl, ts, h.cell 3 rfl rfl, ?_⟩
      refine h.put 5 rfl rfl rfl (fun w2 h n2 => ?_)
      refine ⟨_, h.cell 5 rfl rfl, ts, h.cell 5 rfl rfl, ?_⟩
      rw [rf7 g1 g2 g3 g4 htf hok]
      exact ⟨ts, l, rfl, rfl, (h.drop).take 2⟩
end Go.Proofs.Ytenhcpjlkmbedaa

/- Images in memory; an image read, the reference's. Conditions: none. -/
set_option linter.unusedVariables false
set_option linter.unusedSimpArgs false
namespace Go.Proofs.Ytenhcpjlkmbedaa
open Go Go.Den
def TakeR (w : World) (r : Option IImg) (v : Value) (w' : World) : Prop := ∃ (e : Int) (t : Sl) (l : List RSeg) (ok : Bool), v = .tuple #[iV e t, .bool ok] ∧ l.length ≤ 255 ∧ (∀ x, x ∈ l → inBy x.Data ∧ x.Data.length ≤ 1099511627776) ∧ ((ok = true ∧ r = some ⟨e, l.map RSeg.abs⟩) ∨ (ok = false ∧ r = none)) ∧ SH w w' [rS t l, bS l]
set_option maxRecDepth 4000 in
set_option maxHeartbeats 4000000 in
theorem s84 {w : World} {t : Sl} {b : List Int} (hb : ByAt w t b) (h20 : 20 ≤ b.length) : CallW Try.prog 84 #[.slice t.a t.len t.cap] w (TakeR w (takeF b)) := by
  refine go84 ?_
  unfold W84
  have hl := hb.len
  have hcap := hb.cap
  have hsm := hb.small
  have hin : inBy b := hb.rng
  have h := SH.start w
  refine h.alloc (fun w1 h e1 n1 => ?_)
  generalize w.heap.size = ob at *
  have h : SH w w1 [BI ob 0 N0] := h
  obtain ⟨q5, hq5, hc5⟩ := byAt_at (hb.ext h.ext) (i := 5) (by omega) (by omega)
  refine ⟨by omega, by omega, q5, hq5, _, hc5, ?_⟩
  have hn5 := byt_rng hin 5
  rw [w64 (n := byt b 5) (by omega) (by omega)]
  obtain ⟨n, hn⟩ : ∃ n : Nat, byt b 5 = (n : Int) := Int.eq_ofNat_of_zero_le hn5.1
  have hn255 : n ≤ 255 := by omega
  obtain ⟨L, hL⟩ : ∃ L, L = b.length - 4 := ⟨_, rfl⟩
  refine (c83 (p := 8) (n := 8) (hb.ext h.ext) (.inr rfl) (by omega)).mono ?_
  rintro _ w5 ⟨rfl, rfl⟩
  refine ⟨_, rfl, ?_⟩
  refine h.alloc (fun w7 h e7 n7 => ?_)
  refine h.put 0 rfl rfl rfl (fun w8 h n8 => ?_)
  generalize w5.heap.size = mb at *
  generalize he : IntKind.i64.wrap (wordN b 8 8) = e at *
  have h : SH w w8 [BI mb e N0, BI ob 0 N0] := h
  rw [hn, w64 (n := 16 * (n : Int)) (by omega) (by omega), w64 (n := 16 + 16 * (n : Int)) (by omega) (by omega), w64 (n := 16 + 16 * (n : Int) + 4) (by omega) (by omega)]
  have htf : takeF b = if L < 16 + 16 * n then none else (takeS b L n 0 (16 + 16 * n)).map (fun l => ⟨e, l⟩) := by
    unfold takeF
    rw [hn, Int.toNat_natCast, ← hL, he]
  refine BIf.dec (fun hc => ?_) (fun hgL => ?_)
  · refine ⟨_, h.cell 0 rfl rfl, N0, h.cell 0 rfl rfl, ?_⟩
    refine h.put 1 rfl rfl rfl (fun w2 h n2 => ?_)
    refine ⟨_, h.cell 1 rfl rfl, N0, h.cell 1 rfl rfl, ?_⟩
    exact ⟨e, N0, [], false, rfl, by simp, (fun x hx => by simp at hx), .inr ⟨rfl, by rw [htf, if_pos (by omega)]⟩, ((SH.bagNil segA h).nil none 4).take 2⟩
  rw [if_neg (by omega)] at htf
  have h : SH w w8 [rS N0 [], bS [], BI mb e N0, BI ob 0 N0] := (SH.bagNil segA h).nil none 4
  refine LoopW.m2 (fun (at_ i : Int) w' => ∃ (k p : Nat) (l : List RSeg) (ts : Sl), i = k ∧ k ≤ n ∧ at_ = p ∧ p ≤ L ∧ l.length = k ∧ (∀ x, x ∈ l → inBy x.Data ∧ x.Data.length ≤ 1099511627776) ∧ (takeS b L (n - k) k p).map (fun r => l.map RSeg.abs ++ r) = takeS b L n 0 (16 + 16 * n) ∧ SH w w' [rS ts l, bS l, BI mb e ts, BI ob 0 N0]) (fun _ (i : Int) _ => (n - i).toNat) ⟨0, 16 + 16 * n, [], N0, rfl, by omega, by omega, by omega, rfl, (fun x hx => by simp at hx), by simp, h⟩ ?_
  clear h
  rintro (at_ : Int) (i : Int) w17 ⟨k, p, l, ts, rfl, hk, rfl, hp, hll, hld, htk, h⟩ J hJ
  refine BIf.dec (fun hlt => ?_) (fun hge2 => ?_)
  · have hp0 : IntKind.i64.wrap (16 + IntKind.i64.wrap (16 * (k : Int))) = ((16 + 16 * k : Nat) : Int) := by rw [w64 (n := 16 * (k : Int)) (by omega) (by omega), w64 (by omega) (by omega)]; omega
    have hp4 : IntKind.i64.wrap (((16 + 16 * k : Nat) : Int) + 4) = ((16 + 16 * k + 4 : Nat) : Int) := by rw [w64 (by omega) (by omega)]; omega
    have hp8 : IntKind.i64.wrap (((16 + 16 * k : Nat) : Int) + 8) = ((16 + 16 * k + 8 : Nat) : Int) := by rw [w64 (by omega) (by omega)]; omega
    have hp12 : IntKind.i64.wrap (((16 + 16 * k : Nat) : Int) + 12) = ((16 + 16 * k + 12 : Nat) : Int) := by rw [w64 (by omega) (by omega)]; omega
    simp only [hp0, hp4, hp8, hp12]
    have r0 := word4_rng hin (16 + 16 * k)
    have r4 := word4_rng hin (16 + 16 * k + 4)
    have r8 := word4_rng hin (16 + 16 * k + 8)
    have r12 := byt_rng hin ((16 + 16 * k + 12 : Nat) : Int)
    have v0 : IntKind.i64.wrap (wordN b (16 + 16 * k) 4) = wordN b (16 + 16 * k) 4 := w64 (by omega) (by omega)
    have v4 : IntKind.i64.wrap (wordN b (16 + 16 * k + 4) 4) = wordN b (16 + 16 * k + 4) 4 := w64 (by omega) (by omega)
    have v8 : IntKind.i64.wrap (wordN b (16 + 16 * k + 8) 4) = wordN b (16 + 16 * k + 8) 4 := w64 (by omega) (by omega)
    obtain ⟨c, hcn⟩ : ∃ c, n - k = c + 1 := ⟨n - k - 1, by omega⟩
    refine (c83 (n := 4) (hb.ext h.ext) (.inl rfl) (by omega)).mono ?_
    rw [v8]
    rintro _ w19 ⟨rfl, rfl⟩
    refine ⟨_, rfl, ?_⟩
    generalize hK : wordN b (16 + 16 * k + 8) 4 = K at *
    obtain ⟨K, rfl⟩ := Int.eq_ofNat_of_zero_le r8.1
    rw [w64 (n := (p : Int) + (K : Int)) (by omega) (by omega), w64 (n := (p : Int) + (K : Int) + 4) (by omega) (by omega), w64 (n := (k : Int) + 1) (by omega) (by omega)]
    refine BIf.dec (fun hc => ?_) (fun hc => ?_)
    · rw [hcn, takeS_no (by rw [hK, Int.toNat_natCast]; omega)] at htk
      refine ⟨_, h.cell 2 rfl rfl, ts, h.cell 2 rfl rfl, ?_⟩
      refine h.put 3 rfl rfl rfl (fun w2 h n2 => ?_)
      refine ⟨_, h.cell 3 rfl rfl, ts, h.cell 3 rfl rfl, ?_⟩
      exact ⟨e, ts, l, false, rfl, by omega, hld, .inr ⟨rfl, by rw [htf, ← htk]; rfl⟩, h.take 2⟩
    have hyes : p + K ≤ L := by omega
    rw [hcn, takeS_yes (by rw [hK, Int.toNat_natCast]; exact hyes), hK, Int.toNat_natCast] at htk
    obtain ⟨p12, hq12, hpc⟩ := byAt_at hb (i := ((16 + 16 * k + 12 : Nat) : Int)) (by omega) (by omega)
    rw [Int.toNat_natCast] at hpc
    have hpcF : ∀ {w2 : World}, Ext w w2 → w2.cell? (p12.add ((16 + 16 * k + 12) * 1)) = some (.int .u8 (byt b ((16 + 16 * k + 12 : Nat) : Int))) := fun e => e.cell hpc
    have h := h.drew
    have hKe : ((p : Int) + (K : Int)).toNat - p = K := by omega
    have hcut : ∀ w2, Ext w w2 → RowAt w2 (cutA t.a t.cap p 1) K (((b.drop p).take K).map (Value.int .u8)) := fun w2 e2 => row_cut (hb.ext e2).row hl hcap (by omega)
    have hwp : IntKind.i64.wrap (byt b ((16 + 16 * k + 12 : Nat) : Int)) = byt b ((16 + 16 * k + 12 : Nat) : Int) := w64 (by omega) (by omega)
    have tail : ∀ {w85 : World} {A : Nat} {u : Sl}, SH w w85 (aB A (([.int .i64 (wordN b (16 + 16 * k) 4), .int .i64 (IntKind.i64.wrap (byt b ((16 + 16 * k + 12 : Nat) : Int))), .int .i64 (wordN b (16 + 16 * k + 4) 4), .slice u.a u.len u.cap] : List Value).map Ce.v) :: rD u ((b.drop p).take K) :: [rS ts l, bS l, BI mb e ts, BI ob 0 N0]) →
        AppendW 107 ti107 ts ⟨some ⟨A, 0, none⟩, 1, 1⟩ w85 (fun l87 w88 => (May w88 ⟨mb, 1, none⟩ ∧ LetW (w88.setCell ⟨mb, 1, none⟩ (.slice l87.a l87.len l87.cap)) fun w89 => J ((p : Int) + (K : Int)) ((k : Int) + 1) w89) ∧ True) := fun {w85 A u} h => by
      rw [hwp] at h
      have h := h.toRow (n := 1) (z := 4) (ys := [RSeg.cells ⟨wordN b (16 + 16 * k) 4, byt b ((16 + 16 * k + 12 : Nat) : Int), wordN b (16 + 16 * k + 4) 4, u, (b.drop p).take K⟩]) (by simp; rfl) rfl (fun u hu => by rw [List.mem_singleton.1 hu]; rfl)
      generalize hx0 : (⟨wordN b (16 + 16 * k) 4, byt b ((16 + 16 * k + 12 : Nat) : Int), wordN b (16 + 16 * k + 4) 4, u, (b.drop p).take K⟩ : RSeg) = x0 at *
      have e2 : rD u ((b.drop p).take K) = segA x0 := by rw [← hx0]; rfl
      rw [e2] at h
      have h : SH w w85 (rS ⟨some ⟨A, 0, none⟩, 1, 1⟩ [x0] :: segA x0 :: rS ts l :: bS l :: BI mb e ts :: [BI ob 0 N0]) := h
      refine SH.appendR (f := RSeg.cells) (us := [x0]) ((h.front (n := 2) rfl)) (h.rowR 0 rfl) rfl (fun _ => rfl) rfl rfl (by decide) (by show (_ + 1) * 48 ≤ _; omega) plain_seg (fun l87 w88 h hl87 _ => ?_)
      refine ⟨h.setV 4 rfl rfl (fun w89 h n89 => ?_), trivial⟩
      have h := SH.bagSnoc (f := segA) (x := x0) ((((h.dropAt 1).front (n := 2) rfl).front (n := 2) rfl))
      refine hJ _ _ _ ⟨k + 1, p + K, l ++ [x0], l87, by omega, by omega, by omega, by omega, by rw [List.length_append, hll]; rfl, fun x hx => ?_, ?_, h.p1⟩ (by omega)
      · rcases List.mem_append.1 hx with hx | hx
        · exact hld x hx
        · rw [List.mem_singleton.1 hx, ← hx0]
          exact ⟨fun y hy => hin y (List.mem_of_mem_drop (List.mem_of_mem_take hy)), by show ((b.drop p).take K).length ≤ _; rw [List.length_take]; omega⟩
      · rw [← htk, show n - (k + 1) = c by omega, List.map_append, Option.map_map]
        have ex : x0.abs = ⟨wordN b (16 + 16 * k) 4, byt b ((16 + 16 * k + 12 : Nat) : Int), wordN b (16 + 16 * k + 4) 4, (b.drop p).take K⟩ := by rw [← hx0]; rfl
        cases takeS b L c (k + 1) (p + K) with
        | none => rfl
        | some r => simp [ex]
    simp only [Int.toNat_natCast, hKe]
    refine ⟨ts, h.cell 2 rfl rfl, by omega, by omega, p12, hq12, _, hpcF h.ext, by omega, by omega, by omega, by omega, ?_, ?_, trivial⟩
    · skip
      refine (c83 (n := 4) (hb.ext h.ext) (.inl rfl) (by omega)).mono ?_
      rw [v0]
      rintro _ wc ⟨rfl, rfl⟩
      refine ⟨_, rfl, (by first | rfl | trivial), ⟨_, hpcF h.ext, by first | rfl | trivial⟩, ⟨ts, h.cell 2 rfl rfl, by first | rfl | trivial⟩, ?_, ?_, trivial⟩
      · skip
        refine (c83 (n := 4) (hb.ext h.ext) (.inl rfl) (by omega)).mono ?_
        rw [v4]
        rintro _ wc ⟨rfl, rfl⟩
        refine ⟨_, rfl, (by first | rfl | trivial), ⟨_, hpcF h.ext, by first | rfl | trivial⟩, ⟨ts, h.cell 2 rfl rfl, by first | rfl | trivial⟩, ?_, trivial⟩
        refine h.alloc (fun wa h ea na => ?_)
        have h := h.drop
        refine ⟨(by first | rfl | trivial), ⟨_, hpcF h.ext, by first | rfl | trivial⟩, ⟨ts, h.cell 2 rfl rfl, by first | rfl | trivial⟩, ?_, trivial⟩
        refine SH.appendN (m := []) (us := (b.drop p).take K) (h.nil _ 1) (hcut _ h.ext) rfl rfl (by decide) (by show (_ + _) * 1 ≤ _; rw [List.length_take]; simp; omega) (fun u w82 h hl82 _ => ?_)
        refine ⟨(by first | rfl | trivial), ⟨_, hpcF h.ext, by first | rfl | trivial⟩, ⟨ts, h.cell 3 rfl rfl, by first | rfl | trivial⟩, ?_, trivial⟩
        refine h.alloc (fun w85 h e85 n85 => ?_)
        refine ⟨⟨ts, h.cell 4 rfl rfl, by first | rfl | trivial⟩, ?_, trivial⟩
        exact tail h
      · skip
        refine h.alloc (fun wa h ea na => ?_)
        have h := h.drop
        refine ⟨(by first | rfl | trivial), ⟨_, hpcF h.ext, by first | rfl | trivial⟩, ⟨ts, h.cell 2 rfl rfl, by first | rfl | trivial⟩, ?_, trivial⟩
        refine (c83 (n := 4) (hb.ext h.ext) (.inl rfl) (by omega)).mono ?_
        rw [v4]
        rintro _ wc ⟨rfl, rfl⟩
        refine ⟨_, rfl, (by first | rfl | trivial), ⟨_, hpcF h.ext, by first | rfl | trivial⟩, ⟨ts, h.cell 2 rfl rfl, by first | rfl | trivial⟩, ?_, trivial⟩
        refine SH.appendN (m := []) (us := (b.drop p).take K) (h.nil _ 1) (hcut _ h.ext) rfl rfl (by decide) (by show (_ + _) * 1 ≤ _; rw [List.length_take]; simp; omega) (fun u w82 h hl82 _ => ?_)
        refine ⟨(by first | rfl | trivial), ⟨_, hpcF h.ext, by first | rfl | trivial⟩, ⟨ts, h.cell 3 rfl rfl, by first | rfl | trivial⟩, ?_, trivial⟩
        refine h.alloc (fun w85 h e85 n85 => ?_)
        refine ⟨⟨ts, h.cell 4 rfl rfl, by first | rfl | trivial⟩, ?_, trivial⟩
        exact tail h
    · skip
      refine h.alloc (fun wa h ea na => ?_)
      have h := h.drop
      refine ⟨(by first | rfl | trivial), ⟨_, hpcF h.ext, by first | rfl | trivial⟩, ⟨ts, h.cell 2 rfl rfl, by first | rfl | trivial⟩, ?_, trivial⟩
      refine (c83 (n := 4) (hb.ext h.ext) (.inl rfl) (by omega)).mono ?_
      rw [v0]
      rintro _ wc ⟨rfl, rfl⟩
      refine ⟨_, rfl, (by first | rfl | trivial), ⟨_, hpcF h.ext, by first | rfl | trivial⟩, ⟨ts, h.cell 2 rfl rfl, by first | rfl | trivial⟩, ?_, trivial⟩
      refine (c83 (n := 4) (hb.ext h.ext) (.inl rfl) (by omega)).mono ?_
      rw [v4]
      rintro _ wc ⟨rfl, rfl⟩
      refine ⟨_, rfl, (by first | rfl | trivial), ⟨_, hpcF h.ext, by first | rfl | trivial⟩, ⟨ts, h.cell 2 rfl rfl, by first | rfl | trivial⟩, ?_, trivial⟩
      refine SH.appendN (m := []) (us := (b.drop p).take K) (h.nil _ 1) (hcut _ h.ext) rfl rfl (by decide) (by show (_ + _) * 1 ≤ _; rw [List.length_take]; simp; omega) (fun u w82 h hl82 _ => ?_)
      refine ⟨(by first | rfl | trivial), ⟨_, hpcF h.ext, by first | rfl | trivial⟩, ⟨ts, h.cell 3 rfl rfl, by first | rfl | trivial⟩, ?_, trivial⟩
      refine h.alloc (fun w85 h e85 n85 => ?_)
      refine ⟨⟨ts, h.cell 4 rfl rfl, by first | rfl | trivial⟩, ?_, trivial⟩
      exact tail h
  · obtain rfl : k = n := by omega
    rw [Nat.sub_self] at htk
    have htk : some (l.map RSeg.abs ++ []) = takeS b L k 0 (16 + 16 * k) := htk
    rw [List.append_nil] at htk
    refine ⟨_, h.cell 2 rfl rfl, ts, h.cell 2 rfl rfl, ?_⟩
    refine h.put 3 rfl rfl rfl (fun w2 h n2 => ?_)
    refine ⟨_, h.cell 3 rfl rfl, ts, h.cell 3 rfl rfl, ?_⟩
    exact ⟨e, ts, l, true, rfl, by omega, hld, .inl ⟨rfl, by rw [htf, ← htk]; rfl⟩, h.take 2⟩
end Go.Proofs.Ytenhcpjlkmbedaa

/- Images in memory; the reference's reading as a whole. Conditions: none. -/
set_option linter.unusedVariables false
set_option linter.unusedSimpArgs false
namespace Go.Proofs.Ytenhcpjlkmbedaa
open Go Go.Den
set_option maxRecDepth 4000 in
set_option maxHeartbeats 4000000 in
theorem s26 {w : World} {t : Sl} {b : List Int} (hb : ByAt w t b) : CallW Try.prog 26 #[.slice t.a t.len t.cap] w (ReadR w (readF b)) := by
  refine go26 ?_
  unfold W26
  have hl := hb.len
  have hcap := hb.cap
  have hsm := hb.small
  have hin : inBy b := hb.rng
  have h := SH.start w
  refine h.alloc (fun w1 h e1 n1 => ?_)
  refine h.alloc (fun w2 h e2 n2 => ?_)
  refine h.put 0 rfl rfl rfl (fun w3 h n3 => ?_)
  generalize w.heap.size = ob at *
  generalize w1.heap.size = nb at *
  have h : SH w w3 [BI nb 0 N0, BI ob 0 N0] := h
  refine BIf.dec (fun hlt => ?_) (fun hge => ?_)
  · refine ⟨_, h.cell 0 rfl rfl, N0, h.cell 0 rfl rfl, ?_⟩
    refine h.put 1 rfl rfl rfl (fun w2 h n2 => ?_)
    refine ⟨_, h.cell 1 rfl rfl, N0, h.cell 1 rfl rfl, ?_⟩
    rw [rf1 (by omega)]
    exact read_bad h
  have g1 : ¬ b.length < 20 := by omega
  have hb4 := (byAt_take (hb.ext h.ext) (L := 4) (by omega)).row
  refine ⟨by omega, by omega, b.take 4, hb4, ?_⟩
  have hin4 : inBy (b.take 4) := fun x hx => hin x (List.mem_of_mem_take hx)
  rw [magic, strq hin4 (fun x hx => by simp only [List.mem_cons, List.not_mem_nil, or_false] at hx; rcases hx with rfl | rfl | rfl | rfl <;> omega)]
  refine BIf.of (fun hc => ?_) (fun hc => ?_)
  · refine ⟨_, h.cell 0 rfl rfl, N0, h.cell 0 rfl rfl, ?_⟩
    refine h.put 1 rfl rfl rfl (fun w2 h n2 => ?_)
    refine ⟨_, h.cell 1 rfl rfl, N0, h.cell 1 rfl rfl, ?_⟩
    rw [rf2 g1 (by simpa using hc)]
    exact read_bad h
  have g2 : b.take 4 = [75, 73, 77, 71] := by simpa using hc
  obtain ⟨q4, hq4, hc4⟩ := byAt_at (hb.ext h.ext) (i := 4) (by omega) (by omega)
  refine ⟨by omega, by omega, q4, hq4, _, hc4, BIf.ne (fun hc => ?_) (fun g3 => ?_)⟩
  · refine ⟨_, h.cell 0 rfl rfl, N0, h.cell 0 rfl rfl, ?_⟩
    refine h.put 1 rfl rfl rfl (fun w2 h n2 => ?_)
    refine ⟨_, h.cell 1 rfl rfl, N0, h.cell 1 rfl rfl, ?_⟩
    rw [rf3 g1 g2 hc]
    exact read_bad h
  rw [w64 (n := (t.len : Int) - 4) (by omega) (by omega)]
  obtain ⟨L, hL⟩ : ∃ L, L = b.length - 4 := ⟨_, rfl⟩
  have hLi : (t.len : Int) - 4 = (L : Int) := by omega
  rw [hLi, Int.toNat_natCast]
  have eL : L - Int.toNat 0 = L := by simp
  rw [eL]
  have h := h.drew
  refine ⟨by omega, by omega, (c83 (n := 4) (hb.ext h.ext) (.inl rfl) (by omega)).mono ?_⟩
  rintro _ w23 ⟨rfl, rfl⟩
  have hby := byAt_take (hb.ext h.ext) (L := L) (by omega)
  refine ⟨_, rfl, (c82 ⟨hby.len, hby.cap, hby.row, hby.rng, hby.small⟩).mono ?_⟩
  rintro _ w26 ⟨rfl, rfl⟩
  have hcr := crc32 (m := b.take L) (fun x hx => hin x (List.mem_of_mem_take hx))
  have r0 := word4_rng hin L
  refine ⟨_, rfl, ?_⟩
  rw [w64 (n := wordN b L 4) (by omega) (by omega), w64 (n := crc (b.take L)) (by omega) (by omega)]
  refine BIf.ne (fun hc => ?_) (fun g4 => ?_)
  · refine ⟨_, h.cell 0 rfl rfl, N0, h.cell 0 rfl rfl, ?_⟩
    refine h.put 1 rfl rfl rfl (fun w2 h n2 => ?_)
    refine ⟨_, h.cell 1 rfl rfl, N0, h.cell 1 rfl rfl, ?_⟩
    rw [rf4 g1 g2 g3 (by rw [← hL]; exact hc)]
    exact read_bad h
  have g4 : wordN b (b.length - 4) 4 = crc (b.take (b.length - 4)) := by rw [← hL]; exact g4
  refine (s84 (hb.ext h.ext) (by omega)).mono ?_
  rintro _ w34 ⟨e, ts, l, ok, rfl, hl255, hld, hcase, g⟩
  have h := h.seq g
  refine ⟨_, ts, _, rfl, ?_⟩
  refine h.alloc (fun w38 h e38 n38 => ?_)
  refine h.put 0 rfl rfl rfl (fun w39 h n39 => ?_)
  generalize w34.heap.size = mb at *
  have h : SH w w39 [BI mb e ts, rS ts l, bS l, BI nb 0 N0, BI ob 0 N0] := h
  rcases hcase with ⟨rfl, htf⟩ | ⟨rfl, htf⟩
  rotate_left
  · refine BIf.t rfl ⟨_, h.cell 3 rfl rfl, N0, h.cell 3 rfl rfl, ?_⟩
    refine h.put 4 rfl rfl rfl (fun w2 h n2 => ?_)
    refine ⟨_, h.cell 4 rfl rfl, N0, h.cell 4 rfl rfl, ?_⟩
    rw [rf5 g1 g2 g3 g4 htf]
    exact read_bad h
  refine BIf.f rfl ⟨_, h.cell 0 rfl rfl, ts, h.cell 0 rfl rfl, (s77 (lentI_of h 1 2 rfl rfl (by omega) hld)).mono ?_⟩
  rintro _ w48 ⟨pt, rfl, g⟩
  have h := h.seq g
  refine ⟨pt, _, rfl, ?_⟩
  refine JoinW.cut1 (fun (c : Bool) w' => (c = true ↔ ¬ (imgB ⟨e, l.map RSeg.abs⟩ = true ∧ packF ⟨e, l.map RSeg.abs⟩ = b)) ∧ w' = w48) (BIf.of (fun hc => ⟨⟨(fun _ hh => by rw [hh.1] at hc; cases hc), (fun _ => rfl)⟩, rfl⟩) (fun hc => ?_)) ?_
  · have hi : imgB ⟨e, l.map RSeg.abs⟩ = true := by simpa using hc
    rw [if_pos hi] at h
    have hinp : inBy (packF ⟨e, l.map RSeg.abs⟩) := inBy_app (inBy_body (fun s hs => by
      obtain ⟨x, hx, rfl⟩ := List.mem_map.1 hs
      exact (hld x hx).1)) (inBy_le _ _)
    refine ⟨_, h.rowN 0 rfl, b, (hb.ext h.ext).row, ?_, rfl⟩
    rw [strq hinp hin, Bool.not_eq_true', decide_eq_false_iff_not]
    exact ⟨fun hh h2 => hh h2.2, fun hh h2 => hh ⟨hi, h2⟩⟩
  rintro (c : Bool) w53 ⟨hcc, rfl⟩
  have h : SH w w53 [_, BI mb e ts, rS ts l, bS l, BI nb 0 N0, BI ob 0 N0] := h
  refine BIf.of (fun hc => ?_) (fun hc => ?_)
  · refine ⟨_, h.cell 4 rfl rfl, N0, h.cell 4 rfl rfl, ?_⟩
    refine h.put 5 rfl rfl rfl (fun w2 h n2 => ?_)
    refine ⟨_, h.cell 5 rfl rfl, N0, h.cell 5 rfl rfl, ?_⟩
    rw [rf6 g1 g2 g3 g4 htf (hcc.1 hc)]
    exact read_bad h
  · have hok := Decidable.not_not.1 (fun hh => by rw [hcc.2 hh] at hc; cases hc)
    refine ⟨_, h.cell 1 rfl rfl, ts, h.cell 1 rfl rfl, ?_⟩
    refine h.put 5 rfl rfl rfl (fun w2 h n2 => ?_)
    refine ⟨_, h.cell 5 rfl rfl, ts, h.cell 5 rfl rfl, ?_⟩
    rw [rf7 g1 g2 g3 g4 htf hok]
    exact ⟨ts, l, rfl, rfl, (h.drop.drop).take 2⟩
end Go.Proofs.Ytenhcpjlkmbedaa

/- Draws: names of instructions, bits, small functions. Conditions: none. -/
set_option linter.unusedVariables false
set_option linter.unusedSimpArgs false
namespace Go.Proofs.Ytenhcpjlkmbedaa
open Go Go.Den
theorem wu_nn (x : Int) : 0 ≤ IntKind.u64.wrap x := by rw [IntKind.wrap_u64]; omega
theorem s178 {x : Int} {w : World} : CallW Try.prog 178 #[.int .u8 x] w (fun v w' => ∃ n : Int, v = .int .i64 n ∧ w' = w) := by
  refine go178 ?_
  unfold W178
  refine JoinW.cut1 (fun (b : Bool) w' => w' = w) (BIf.of (fun h => rfl) (fun h => rfl)) ?_
  rintro (b : Bool) w3 rfl
  refine BIf.of (fun _ => ⟨_, rfl, rfl⟩) (fun _ => ?_)
  refine JoinW.cut1 (fun (b : Bool) w' => w' = w3) (BIf.of (fun h => rfl) (fun h => rfl)) ?_
  rintro (b : Bool) w6 rfl
  exact BIf.of (fun _ => ⟨_, rfl, rfl⟩) (fun _ => ⟨_, rfl, rfl⟩)
theorem s184 {w0 w : World} {F : List Asr} {s : ByteArray} (h : SH w0 w F) (hs : 3 ≤ s.size) : CallW Try.prog 184 #[.string s] w (fun v w' => ∃ n : Int, v = .int .i64 n ∧ SH w0 w' F) := by
  refine go184 ?_
  unfold W184
  refine ⟨by omega, by omega, by omega, by omega, s178.mono ?_⟩
  rintro _ w2 ⟨n3, rfl, rfl⟩
  refine ⟨_, rfl, s178.mono ?_⟩
  rintro _ w5 ⟨n6, rfl, rfl⟩
  exact ⟨_, rfl, _, rfl, h.drew⟩
def isName : Value → Bool
  | .string s => decide (3 ≤ s.size)
  | _ => false
theorem isName_is {v : Value} (h : isName v = true) : ∃ s, v = .string s ∧ 3 ≤ s.size := by
  cases v with
  | string s => exact ⟨s, rfl, of_decide_eq_true h⟩
  | _ => cases h
abbrev rN (t : Sl) (vs : List Value) : Asr := aRow t 1 ((vs.map (fun x => [x])).map (·.map Ce.v))
set_option maxRecDepth 10000 in
theorem s183 {w0 w : World} {F : List Asr} (h : SH w0 w F) : CallW Try.prog 183 #[] w (fun v w' => ∃ (t : Sl) (vs : List Value), v = .slice t.a t.len t.cap ∧ t.len = 66 ∧ vs.length = 66 ∧ vs.all isName = true ∧ SH w0 w' (rN t vs :: F)) := by
  refine go183 ?_
  unfold W183
  refine h.alloc (fun w1 h e1 n1 => ?_)
  exact ⟨⟨some ⟨w.heap.size, 0, none⟩, 66, 66⟩, _, rfl, rfl, rfl, by decide, h.toRow (n := 66) (z := 1) (flat_one _).symm rfl (fun u hu => by obtain ⟨x, _, rfl⟩ := List.mem_map.1 hu; rfl)⟩
theorem name_at {w0 w : World} {As : List Asr} (h : SH w0 w As) (i : Nat) {t : Sl} {vs : List Value} (hA : As[i]? = some (rN t vs)) (hv : vs.all isName = true) {k : Nat} (hk : k < vs.length) : ∃ (q : Addr) (s : ByteArray), t.a = some q ∧ w.cell? (q.add (k * 1)) = some (.string s) ∧ 3 ≤ s.size := by
  have hx : vs[k]? = some vs[k] := List.getElem?_eq_getElem hk
  obtain ⟨s, hs, h3⟩ := isName_is (List.all_eq_true.1 hv vs[k] (List.getElem_mem hk))
  obtain ⟨q, hq, hc⟩ := h.elem0 i hA (k := k) (e := [Ce.v vs[k]]) (x := vs[k]) (by rw [List.getElem?_map, List.getElem?_map, hx]; rfl) rfl
  exact ⟨q, s, hq, by rw [hc, hs], h3⟩
theorem s188 {w0 w : World} {F : List Asr} {n : Int} (h : SH w0 w F) : CallW Try.prog 188 #[.int .i64 n] w (fun v w' => ∃ s : ByteArray, v = .string s ∧ SH w0 w' F) := by
  refine go188 ?_
  unfold W188
  refine (s183 h).mono ?_
  rintro _ w2 ⟨t, vs, rfl, htl, hvl, hv, h⟩
  refine ⟨t, rfl, ?_⟩
  refine LoopW.m1 (fun (i : Int) w' => ∃ k : Nat, i = k ∧ k ≤ 66 ∧ SH w0 w' (rN t vs :: F)) (fun (i : Int) _ => (66 - i).toNat) ⟨0, rfl, by omega, h⟩ ?_
  clear h
  rintro (i : Int) w6 ⟨k, rfl, hk, h⟩ J hJ
  refine BIf.dec (fun hlt => ?_) (fun hge => ⟨_, rfl, h.drop⟩)
  obtain ⟨q, s, hq, hc, h3⟩ := name_at h 0 rfl hv (k := k) (by omega)
  simp only [Int.toNat_natCast]
  rw [w64 (n := (k : Int) + 1) (by omega) (by omega)]
  refine ⟨by omega, by omega, q, hq, s, hc, (s184 h h3).mono ?_⟩
  rintro _ w10 ⟨n11, rfl, h⟩
  refine ⟨_, rfl, BIf.of (fun _ => ?_) (fun _ => hJ _ _ ⟨k + 1, by omega, by omega, h⟩ (by omega))⟩
  obtain ⟨q2, s2, hq2, hc2, h32⟩ := name_at h 0 rfl hv (k := k) (by omega)
  exact ⟨by omega, by omega, q2, hq2, s2, hc2, by omega, by omega, _, rfl, h.drop⟩
theorem s180 {w0 w : World} {F : List Asr} {n : Int} (h : SH w0 w F) : CallW Try.prog 180 #[.int .i64 n] w (fun v w' => ∃ m : Int, v = .int .i64 m ∧ SH w0 w' F) := by
  refine go180 ?_
  unfold W180
  refine (s188 h).mono ?_
  rintro _ w2 ⟨s, rfl, h⟩
  refine ⟨s, rfl, BIf.of (fun _ => ⟨_, rfl, h⟩) (fun _ => BIf.of (fun _ => ⟨_, rfl, h⟩) (fun _ => BIf.of (fun _ => ⟨_, rfl, h⟩) (fun _ => BIf.of (fun _ => ⟨_, rfl, h⟩) (fun _ => BIf.of (fun _ => ⟨_, rfl, h⟩) (fun _ => BIf.of (fun _ => ⟨_, rfl, h⟩) (fun _ => BIf.of (fun _ => ⟨_, rfl, h⟩) (fun _ => BIf.of (fun _ => ⟨_, rfl, h⟩) (fun _ => ⟨_, rfl, h⟩))))))))⟩
theorem s170 {w0 w : World} {As : List Asr} (h : SH w0 w As) (cu : Nat) {cb : Nat} {s : Sl} (hA : As[cu]? = some (aC cb s)) (hb : CurB w0 s) : CallW Try.prog 170 #[.pointer (some ⟨cb, 0, none⟩)] w (fun v w' => ∃ n : Int, v = .int .i64 n ∧ SH w0 w' As) := by
  refine go170 ?_
  unfold W170
  refine (s183 h).mono ?_
  rintro _ w2 ⟨t, vs, rfl, htl, hvl, hv, h⟩
  refine ⟨t, rfl, (s79 h (cu + 1) hA hb).mono ?_⟩
  rintro _ w5 ⟨n6, rfl, ⟨p0, p1⟩, h⟩
  obtain ⟨k, rfl⟩ := Int.eq_ofNat_of_zero_le p0
  obtain ⟨q, s8, hq, hc, h3⟩ := name_at h 0 rfl hv (k := k) (by omega)
  simp only [Int.toNat_natCast]
  refine ⟨_, rfl, by omega, by omega, q, hq, s8, hc, (s184 h h3).mono ?_⟩
  rintro _ w10 ⟨n11, rfl, h⟩
  exact ⟨_, rfl, _, rfl, h.drop⟩
theorem s187 {x a b : Int} {w : World} : CallW Try.prog 187 #[.int .i64 x, .int .i64 a, .int .i64 b] w (fun v w' => ∃ c : Bool, v = .bool c ∧ w' = w) := by
  refine go187 ?_
  unfold W187
  refine JoinW.cut1 (fun (b : Bool) w' => w' = w) (BIf.of (fun h => rfl) (fun h => rfl)) ?_
  rintro (b : Bool) w3 rfl
  exact ⟨_, rfl, rfl⟩
theorem s189 {a n : Int} {w : World} : CallW Try.prog 189 #[.int .i64 a, .int .i64 n] w (fun v w' => v = .bool (decide (0 ≤ a ∧ a ≤ 63 ∧ 1 ≤ n ∧ n ≤ 64 - a)) ∧ w' = w) := by
  refine go189 ?_
  unfold W189
  refine JoinW.cut1 (fun (b : Bool) w' => b = decide (0 ≤ a ∧ a ≤ 63) ∧ w' = w) (BIf.dec (fun h => ⟨by rw [Bool.eq_iff_iff, decide_eq_true_iff, decide_eq_true_iff]; omega, rfl⟩) (fun h => ⟨(decide_eq_false (by omega)).symm, rfl⟩)) ?_
  rintro (b : Bool) w3 ⟨rfl, rfl⟩
  refine JoinW.cut1 (fun (b : Bool) w' => b = decide (0 ≤ a ∧ a ≤ 63 ∧ 1 ≤ n) ∧ w' = w3) (BIf.dec (fun h => ⟨by rw [Bool.eq_iff_iff, decide_eq_true_iff, decide_eq_true_iff]; omega, rfl⟩) (fun h => ⟨(decide_eq_false (by omega)).symm, rfl⟩)) ?_
  rintro (b : Bool) w6 ⟨rfl, rfl⟩
  refine JoinW.cut1 (fun (b : Bool) w' => b = decide (0 ≤ a ∧ a ≤ 63 ∧ 1 ≤ n ∧ n ≤ 64 - a) ∧ w' = w6) (BIf.dec (fun h => ⟨by rw [w64 (n := 64 - a) (by omega) (by omega), Bool.eq_iff_iff, decide_eq_true_iff, decide_eq_true_iff]; omega, rfl⟩) (fun h => ⟨(decide_eq_false (by omega)).symm, rfl⟩)) ?_
  rintro (b : Bool) w9 ⟨rfl, rfl⟩
  exact ⟨rfl, rfl⟩
theorem pow_le63 {k : Nat} (h : k ≤ 63) : 1 ≤ 2 ^ k ∧ 2 ^ k ≤ 9223372036854775808 := by
  have h1 : 2 ^ k ≤ 2 ^ 63 := Nat.pow_le_pow_right (by omega) h
  have h2 : (2 : Nat) ^ 63 = 9223372036854775808 := by decide
  exact ⟨Nat.one_le_pow _ _ (by omega), by omega⟩
theorem s191 {k : Nat} {w : World} (hk : k ≤ 63) : CallW Try.prog 191 #[.int .i64 (k : Int)] w (fun v w' => v = .int .u64 ((2 ^ k : Nat) : Int) ∧ w' = w) := by
  refine go191 ?_
  unfold W191
  refine LoopW.m2 (fun (n i : Int) w' => ∃ j : Nat, i = j ∧ j ≤ k ∧ n = ((2 ^ j : Nat) : Int) ∧ w' = w) (fun _ (i : Int) _ => (k - i).toNat) ⟨0, rfl, by omega, rfl, rfl⟩ ?_
  rintro (n : Int) (i : Int) w4 ⟨j, rfl, hj, rfl, rfl⟩ J hJ
  refine BIf.dec (fun hlt => ?_) (fun hge => ?_)
  · have hp := pow_le63 (k := j + 1) (by omega)
    rw [Nat.pow_succ] at hp
    have e2 : ((2 ^ j : Nat) : Int) * 2 = ((2 ^ (j + 1) : Nat) : Int) := by rw [Nat.pow_succ, Int.natCast_mul]; rfl
    have hw : IntKind.u64.wrap (((2 ^ j : Nat) : Int) * 2) = ((2 ^ j : Nat) : Int) * 2 := by
      generalize 2 ^ j = P at *
      exact wu64 (by omega) (by omega)
    rw [w64 (n := (j : Int) + 1) (by omega) (by omega), hw]
    exact hJ _ _ _ ⟨j + 1, by omega, by omega, e2, rfl⟩ (by omega)
  · obtain rfl : j = k := by omega
    exact ⟨rfl, rfl⟩
theorem s190 {x : Int} {k : Nat} {w : World} (hk : k ≤ 63) : CallW Try.prog 190 #[.int .u64 x, .int .i64 (k : Int)] w (fun v w' => ∃ n : Int, v = .int .u64 n ∧ w' = w) := by
  refine go190 ?_
  unfold W190
  refine (s191 hk).mono ?_
  rintro _ w2 ⟨rfl, rfl⟩
  have hp := pow_le63 hk
  refine ⟨_, rfl, ?_, by decide, _, rfl, rfl⟩
  generalize 2 ^ k = P at *
  omega
theorem s181 {x a n : Int} {w : World} : CallW Try.prog 181 #[.int .u64 x, .int .i64 a, .int .i64 n] w (fun v w' => ∃ y : Int, v = .int .u64 y ∧ w' = w) := by
  refine go181 ?_
  unfold W181
  refine s189.mono ?_
  rintro _ w2 ⟨rfl, rfl⟩
  refine ⟨_, rfl, BIf.of (fun _ => ⟨_, rfl, rfl⟩) (fun hc => ?_)⟩
  have hg := of_decide_eq_true (show decide _ = true by simpa using hc)
  rw [w64 (n := n - 1) (by omega) (by omega)]
  refine LoopW.m2 (fun (y i : Int) w' => -1 ≤ i ∧ i ≤ n - 1 ∧ w' = w2) (fun _ (i : Int) _ => (i + 1).toNat) ⟨by omega, by omega, rfl⟩ ?_
  rintro (y : Int) (i : Int) w7 ⟨i0, i1, rfl⟩ J hJ
  refine BIf.dec (fun hge => ?_) (fun hlt => ⟨_, rfl, rfl⟩)
  rw [w64 (n := a + i) (by omega) (by omega), w64 (n := i - 1) (by omega) (by omega)]
  obtain ⟨k, hk⟩ := Int.eq_ofNat_of_zero_le (show 0 ≤ a + i by omega)
  rw [hk]
  refine (s190 (by omega)).mono ?_
  rintro _ w9 ⟨n10, rfl, rfl⟩
  exact ⟨_, rfl, hJ _ _ _ ⟨by omega, by omega, rfl⟩ (by omega)⟩
end Go.Proofs.Ytenhcpjlkmbedaa

/- Draws: instructions (printed). Conditions: none. -/
set_option linter.unusedVariables false
set_option linter.unusedSimpArgs false
set_option maxRecDepth 4000
namespace Go.Proofs.Ytenhcpjlkmbedaa
open Go Go.Den
set_option maxHeartbeats 2000000 in
theorem s179 {w0 w : World} {F : List Asr} {a0_0 a0_1 a0_2 a0_3 a0_4 : Int} (h : SH w0 w (F)) :
    CallW Try.prog 179 #[.agg #[.int .i64 a0_0, .int .i64 a0_1, .int .i64 a0_2, .int .i64 a0_3, .int .i64 a0_4]] w (fun v w' => ∃ b : Bool, v = .bool b ∧ SH w0 w' F) := by
  refine go179 (a0_0 := a0_0) (a0_1 := a0_1) (a0_2 := a0_2) (a0_3 := a0_3) (a0_4 := a0_4) ?_
  unfold W179
  refine h.alloc (fun w1 h ew1 nw1 => ?_)
  refine ⟨_, h.cell 0 rfl rfl, ?_⟩
  refine s187.mono ?_
  rintro _ w4 ⟨b5, rfl, rfl⟩
  refine ⟨b5, rfl, ?_⟩
  refine ⟨_, h.cell 0 rfl rfl, ?_⟩
  refine s187.mono ?_
  rintro _ w8 ⟨b9, rfl, rfl⟩
  refine ⟨b9, rfl, ?_⟩
  refine ⟨_, h.cell 0 rfl rfl, ?_⟩
  refine s187.mono ?_
  rintro _ w12 ⟨b13, rfl, rfl⟩
  refine ⟨b13, rfl, ?_⟩
  refine ⟨_, h.cell 0 rfl rfl, ?_⟩
  refine s187.mono ?_
  rintro _ w16 ⟨b17, rfl, rfl⟩
  refine ⟨b17, rfl, ?_⟩
  refine ⟨_, h.cell 0 rfl rfl, ?_⟩
  refine (s180 h).mono ?_
  rintro _ w20 ⟨n21, rfl, h⟩
  refine ⟨n21, rfl, ?_⟩
  refine BIf.of (fun c1 => ?_) (fun c1 => ?_)
  · skip
    try simp only [Bool.or_eq_true, Bool.and_eq_true, Bool.or_eq_false_iff, Bool.not_eq_true', Bool.not_eq_false', decide_eq_true_eq, decide_eq_false_iff_not, beq_iff_eq, beq_eq_false_iff_ne, bne_iff_ne, bne_eq_false_iff_eq, ne_eq] at c1
    refine JoinW.cut1 (fun (b22 : Bool) w' => SH w0 w' (aB w.heap.size ([.int .i64 a0_0, .int .i64 a0_1, .int .i64 a0_2, .int .i64 a0_3, .int .i64 a0_4].map Ce.v) :: F)) ?_ ?_
    · skip
      refine BIf.of (fun c2 => ?_) (fun c2 => ?_)
      · skip
        try simp only [Bool.or_eq_true, Bool.and_eq_true, Bool.or_eq_false_iff, Bool.not_eq_true', Bool.not_eq_false', decide_eq_true_eq, decide_eq_false_iff_not, beq_iff_eq, beq_eq_false_iff_ne, bne_iff_ne, bne_eq_false_iff_eq, ne_eq] at c2
        exact h
      · skip
        try simp only [Bool.or_eq_true, Bool.and_eq_true, Bool.or_eq_false_iff, Bool.not_eq_true', Bool.not_eq_false', decide_eq_true_eq, decide_eq_false_iff_not, beq_iff_eq, beq_eq_false_iff_ne, bne_iff_ne, bne_eq_false_iff_eq, ne_eq] at c2
        exact h
    · clear h
      rintro (b22 : Bool) w24 h
      refine JoinW.cut1 (fun (b25 : Bool) w' => SH w0 w' (aB w.heap.size ([.int .i64 a0_0, .int .i64 a0_1, .int .i64 a0_2, .int .i64 a0_3, .int .i64 a0_4].map Ce.v) :: F)) ?_ ?_
      · skip
        refine BIf.of (fun c3 => ?_) (fun c3 => ?_)
        · skip
          try simp only [Bool.or_eq_true, Bool.and_eq_true, Bool.or_eq_false_iff, Bool.not_eq_true', Bool.not_eq_false', decide_eq_true_eq, decide_eq_false_iff_not, beq_iff_eq, beq_eq_false_iff_ne, bne_iff_ne, bne_eq_false_iff_eq, ne_eq] at c3
          exact h
        · skip
          try simp only [Bool.or_eq_true, Bool.and_eq_true, Bool.or_eq_false_iff, Bool.not_eq_true', Bool.not_eq_false', decide_eq_true_eq, decide_eq_false_iff_not, beq_iff_eq, beq_eq_false_iff_ne, bne_iff_ne, bne_eq_false_iff_eq, ne_eq] at c3
          exact h
      · clear h
        rintro (b25 : Bool) w27 h
        refine JoinW.cut1 (fun (b28 : Bool) w' => SH w0 w' (aB w.heap.size ([.int .i64 a0_0, .int .i64 a0_1, .int .i64 a0_2, .int .i64 a0_3, .int .i64 a0_4].map Ce.v) :: F)) ?_ ?_
        · skip
          refine BIf.of (fun c4 => ?_) (fun c4 => ?_)
          · skip
            try simp only [Bool.or_eq_true, Bool.and_eq_true, Bool.or_eq_false_iff, Bool.not_eq_true', Bool.not_eq_false', decide_eq_true_eq, decide_eq_false_iff_not, beq_iff_eq, beq_eq_false_iff_ne, bne_iff_ne, bne_eq_false_iff_eq, ne_eq] at c4
            refine ⟨_, h.cell 0 rfl rfl, ?_⟩
            exact h
          · skip
            try simp only [Bool.or_eq_true, Bool.and_eq_true, Bool.or_eq_false_iff, Bool.not_eq_true', Bool.not_eq_false', decide_eq_true_eq, decide_eq_false_iff_not, beq_iff_eq, beq_eq_false_iff_ne, bne_iff_ne, bne_eq_false_iff_eq, ne_eq] at c4
            exact h
        · clear h
          rintro (b28 : Bool) w30 h
          exact ⟨_, rfl, h.drop⟩
  · skip
    try simp only [Bool.or_eq_true, Bool.and_eq_true, Bool.or_eq_false_iff, Bool.not_eq_true', Bool.not_eq_false', decide_eq_true_eq, decide_eq_false_iff_not, beq_iff_eq, beq_eq_false_iff_ne, bne_iff_ne, bne_eq_false_iff_eq, ne_eq] at c1
    refine JoinW.cut1 (fun (b32 : Bool) w' => SH w0 w' (aB w.heap.size ([.int .i64 a0_0, .int .i64 a0_1, .int .i64 a0_2, .int .i64 a0_3, .int .i64 a0_4].map Ce.v) :: F)) ?_ ?_
    · skip
      refine BIf.of (fun c5 => ?_) (fun c5 => ?_)
      · skip
        try simp only [Bool.or_eq_true, Bool.and_eq_true, Bool.or_eq_false_iff, Bool.not_eq_true', Bool.not_eq_false', decide_eq_true_eq, decide_eq_false_iff_not, beq_iff_eq, beq_eq_false_iff_ne, bne_iff_ne, bne_eq_false_iff_eq, ne_eq] at c5
        exact h
      · skip
        try simp only [Bool.or_eq_true, Bool.and_eq_true, Bool.or_eq_false_iff, Bool.not_eq_true', Bool.not_eq_false', decide_eq_true_eq, decide_eq_false_iff_not, beq_iff_eq, beq_eq_false_iff_ne, bne_iff_ne, bne_eq_false_iff_eq, ne_eq] at c5
        exact h
    · clear h
      rintro (b32 : Bool) w34 h
      refine BIf.of (fun c6 => ?_) (fun c6 => ?_)
      · skip
        try simp only [Bool.or_eq_true, Bool.and_eq_true, Bool.or_eq_false_iff, Bool.not_eq_true', Bool.not_eq_false', decide_eq_true_eq, decide_eq_false_iff_not, beq_iff_eq, beq_eq_false_iff_ne, bne_iff_ne, bne_eq_false_iff_eq, ne_eq] at c6
        refine JoinW.cut1 (fun (b35 : Bool) w' => SH w0 w' (aB w.heap.size ([.int .i64 a0_0, .int .i64 a0_1, .int .i64 a0_2, .int .i64 a0_3, .int .i64 a0_4].map Ce.v) :: F)) ?_ ?_
        · skip
          refine ⟨_, h.cell 0 rfl rfl, ?_⟩
          refine JoinW.cut1 (fun (b49 : Bool) w' => SH w0 w' (aB w.heap.size ([.int .i64 a0_0, .int .i64 a0_1, .int .i64 a0_2, .int .i64 a0_3, .int .i64 a0_4].map Ce.v) :: F)) ?_ ?_
          · skip
            refine BIf.of (fun c7 => ?_) (fun c7 => ?_)
            · skip
              try simp only [Bool.or_eq_true, Bool.and_eq_true, Bool.or_eq_false_iff, Bool.not_eq_true', Bool.not_eq_false', decide_eq_true_eq, decide_eq_false_iff_not, beq_iff_eq, beq_eq_false_iff_ne, bne_iff_ne, bne_eq_false_iff_eq, ne_eq] at c7
              refine ⟨_, h.cell 0 rfl rfl, ?_⟩
              exact h
            · skip
              try simp only [Bool.or_eq_true, Bool.and_eq_true, Bool.or_eq_false_iff, Bool.not_eq_true', Bool.not_eq_false', decide_eq_true_eq, decide_eq_false_iff_not, beq_iff_eq, beq_eq_false_iff_ne, bne_iff_ne, bne_eq_false_iff_eq, ne_eq] at c7
              exact h
          · clear h
            rintro (b49 : Bool) w51 h
            refine BIf.of (fun c8 => ?_) (fun c8 => ?_)
            · skip
              try simp only [Bool.or_eq_true, Bool.and_eq_true, Bool.or_eq_false_iff, Bool.not_eq_true', Bool.not_eq_false', decide_eq_true_eq, decide_eq_false_iff_not, beq_iff_eq, beq_eq_false_iff_ne, bne_iff_ne, bne_eq_false_iff_eq, ne_eq] at c8
              refine ⟨_, h.cell 0 rfl rfl, ?_⟩
              refine s187.mono ?_
              rintro _ w54 ⟨b55, rfl, rfl⟩
              refine ⟨b55, rfl, ?_⟩
              exact h
            · skip
              try simp only [Bool.or_eq_true, Bool.and_eq_true, Bool.or_eq_false_iff, Bool.not_eq_true', Bool.not_eq_false', decide_eq_true_eq, decide_eq_false_iff_not, beq_iff_eq, beq_eq_false_iff_ne, bne_iff_ne, bne_eq_false_iff_eq, ne_eq] at c8
              exact h
        · clear h
          rintro (b35 : Bool) w37 h
          refine JoinW.cut1 (fun (b38 : Bool) w' => SH w0 w' (aB w.heap.size ([.int .i64 a0_0, .int .i64 a0_1, .int .i64 a0_2, .int .i64 a0_3, .int .i64 a0_4].map Ce.v) :: F)) ?_ ?_
          · skip
            refine BIf.of (fun c9 => ?_) (fun c9 => ?_)
            · skip
              try simp only [Bool.or_eq_true, Bool.and_eq_true, Bool.or_eq_false_iff, Bool.not_eq_true', Bool.not_eq_false', decide_eq_true_eq, decide_eq_false_iff_not, beq_iff_eq, beq_eq_false_iff_ne, bne_iff_ne, bne_eq_false_iff_eq, ne_eq] at c9
              exact h
            · skip
              try simp only [Bool.or_eq_true, Bool.and_eq_true, Bool.or_eq_false_iff, Bool.not_eq_true', Bool.not_eq_false', decide_eq_true_eq, decide_eq_false_iff_not, beq_iff_eq, beq_eq_false_iff_ne, bne_iff_ne, bne_eq_false_iff_eq, ne_eq] at c9
              exact h
          · clear h
            rintro (b38 : Bool) w40 h
            refine JoinW.cut1 (fun (b41 : Bool) w' => SH w0 w' (aB w.heap.size ([.int .i64 a0_0, .int .i64 a0_1, .int .i64 a0_2, .int .i64 a0_3, .int .i64 a0_4].map Ce.v) :: F)) ?_ ?_
            · skip
              refine BIf.of (fun c10 => ?_) (fun c10 => ?_)
              · skip
                try simp only [Bool.or_eq_true, Bool.and_eq_true, Bool.or_eq_false_iff, Bool.not_eq_true', Bool.not_eq_false', decide_eq_true_eq, decide_eq_false_iff_not, beq_iff_eq, beq_eq_false_iff_ne, bne_iff_ne, bne_eq_false_iff_eq, ne_eq] at c10
                refine ⟨_, h.cell 0 rfl rfl, ?_⟩
                exact h
              · skip
                try simp only [Bool.or_eq_true, Bool.and_eq_true, Bool.or_eq_false_iff, Bool.not_eq_true', Bool.not_eq_false', decide_eq_true_eq, decide_eq_false_iff_not, beq_iff_eq, beq_eq_false_iff_ne, bne_iff_ne, bne_eq_false_iff_eq, ne_eq] at c10
                exact h
            · clear h
              rintro (b41 : Bool) w43 h
              refine JoinW.cut1 (fun (b44 : Bool) w' => SH w0 w' (aB w.heap.size ([.int .i64 a0_0, .int .i64 a0_1, .int .i64 a0_2, .int .i64 a0_3, .int .i64 a0_4].map Ce.v) :: F)) ?_ ?_
              · skip
                refine BIf.of (fun c11 => ?_) (fun c11 => ?_)
                · skip
                  try simp only [Bool.or_eq_true, Bool.and_eq_true, Bool.or_eq_false_iff, Bool.not_eq_true', Bool.not_eq_false', decide_eq_true_eq, decide_eq_false_iff_not, beq_iff_eq, beq_eq_false_iff_ne, bne_iff_ne, bne_eq_false_iff_eq, ne_eq] at c11
                  exact h
                · skip
                  try simp only [Bool.or_eq_true, Bool.and_eq_true, Bool.or_eq_false_iff, Bool.not_eq_true', Bool.not_eq_false', decide_eq_true_eq, decide_eq_false_iff_not, beq_iff_eq, beq_eq_false_iff_ne, bne_iff_ne, bne_eq_false_iff_eq, ne_eq] at c11
                  exact h
              · clear h
                rintro (b44 : Bool) w46 h
                exact ⟨_, rfl, h.drop⟩
      · skip
        try simp only [Bool.or_eq_true, Bool.and_eq_true, Bool.or_eq_false_iff, Bool.not_eq_true', Bool.not_eq_false', decide_eq_true_eq, decide_eq_false_iff_not, beq_iff_eq, beq_eq_false_iff_ne, bne_iff_ne, bne_eq_false_iff_eq, ne_eq] at c6
        refine JoinW.cut1 (fun (b57 : Bool) w' => SH w0 w' (aB w.heap.size ([.int .i64 a0_0, .int .i64 a0_1, .int .i64 a0_2, .int .i64 a0_3, .int .i64 a0_4].map Ce.v) :: F)) ?_ ?_
        · skip
          refine BIf.of (fun c12 => ?_) (fun c12 => ?_)
          · skip
            try simp only [Bool.or_eq_true, Bool.and_eq_true, Bool.or_eq_false_iff, Bool.not_eq_true', Bool.not_eq_false', decide_eq_true_eq, decide_eq_false_iff_not, beq_iff_eq, beq_eq_false_iff_ne, bne_iff_ne, bne_eq_false_iff_eq, ne_eq] at c12
            exact h
          · skip
            try simp only [Bool.or_eq_true, Bool.and_eq_true, Bool.or_eq_false_iff, Bool.not_eq_true', Bool.not_eq_false', decide_eq_true_eq, decide_eq_false_iff_not, beq_iff_eq, beq_eq_false_iff_ne, bne_iff_ne, bne_eq_false_iff_eq, ne_eq] at c12
            exact h
        · clear h
          rintro (b57 : Bool) w59 h
          refine BIf.of (fun c13 => ?_) (fun c13 => ?_)
          · skip
            try simp only [Bool.or_eq_true, Bool.and_eq_true, Bool.or_eq_false_iff, Bool.not_eq_true', Bool.not_eq_false', decide_eq_true_eq, decide_eq_false_iff_not, beq_iff_eq, beq_eq_false_iff_ne, bne_iff_ne, bne_eq_false_iff_eq, ne_eq] at c13
            refine ⟨_, h.cell 0 rfl rfl, ?_⟩
            refine JoinW.cut1 (fun (b61 : Bool) w' => SH w0 w' (aB w.heap.size ([.int .i64 a0_0, .int .i64 a0_1, .int .i64 a0_2, .int .i64 a0_3, .int .i64 a0_4].map Ce.v) :: F)) ?_ ?_
            · skip
              refine BIf.of (fun c14 => ?_) (fun c14 => ?_)
              · skip
                try simp only [Bool.or_eq_true, Bool.and_eq_true, Bool.or_eq_false_iff, Bool.not_eq_true', Bool.not_eq_false', decide_eq_true_eq, decide_eq_false_iff_not, beq_iff_eq, beq_eq_false_iff_ne, bne_iff_ne, bne_eq_false_iff_eq, ne_eq] at c14
                exact h
              · skip
                try simp only [Bool.or_eq_true, Bool.and_eq_true, Bool.or_eq_false_iff, Bool.not_eq_true', Bool.not_eq_false', decide_eq_true_eq, decide_eq_false_iff_not, beq_iff_eq, beq_eq_false_iff_ne, bne_iff_ne, bne_eq_false_iff_eq, ne_eq] at c14
                exact h
            · clear h
              rintro (b61 : Bool) w63 h
              refine JoinW.cut1 (fun (b64 : Bool) w' => SH w0 w' (aB w.heap.size ([.int .i64 a0_0, .int .i64 a0_1, .int .i64 a0_2, .int .i64 a0_3, .int .i64 a0_4].map Ce.v) :: F)) ?_ ?_
              · skip
                refine BIf.of (fun c15 => ?_) (fun c15 => ?_)
                · skip
                  try simp only [Bool.or_eq_true, Bool.and_eq_true, Bool.or_eq_false_iff, Bool.not_eq_true', Bool.not_eq_false', decide_eq_true_eq, decide_eq_false_iff_not, beq_iff_eq, beq_eq_false_iff_ne, bne_iff_ne, bne_eq_false_iff_eq, ne_eq] at c15
                  exact h
                · skip
                  try simp only [Bool.or_eq_true, Bool.and_eq_true, Bool.or_eq_false_iff, Bool.not_eq_true', Bool.not_eq_false', decide_eq_true_eq, decide_eq_false_iff_not, beq_iff_eq, beq_eq_false_iff_ne, bne_iff_ne, bne_eq_false_iff_eq, ne_eq] at c15
                  exact h
              · clear h
                rintro (b64 : Bool) w66 h
                refine JoinW.cut1 (fun (b67 : Bool) w' => SH w0 w' (aB w.heap.size ([.int .i64 a0_0, .int .i64 a0_1, .int .i64 a0_2, .int .i64 a0_3, .int .i64 a0_4].map Ce.v) :: F)) ?_ ?_
                · skip
                  refine BIf.of (fun c16 => ?_) (fun c16 => ?_)
                  · skip
                    try simp only [Bool.or_eq_true, Bool.and_eq_true, Bool.or_eq_false_iff, Bool.not_eq_true', Bool.not_eq_false', decide_eq_true_eq, decide_eq_false_iff_not, beq_iff_eq, beq_eq_false_iff_ne, bne_iff_ne, bne_eq_false_iff_eq, ne_eq] at c16
                    exact h
                  · skip
                    try simp only [Bool.or_eq_true, Bool.and_eq_true, Bool.or_eq_false_iff, Bool.not_eq_true', Bool.not_eq_false', decide_eq_true_eq, decide_eq_false_iff_not, beq_iff_eq, beq_eq_false_iff_ne, bne_iff_ne, bne_eq_false_iff_eq, ne_eq] at c16
                    exact h
                · clear h
                  rintro (b67 : Bool) w69 h
                  exact ⟨_, rfl, h.drop⟩
          · skip
            try simp only [Bool.or_eq_true, Bool.and_eq_true, Bool.or_eq_false_iff, Bool.not_eq_true', Bool.not_eq_false', decide_eq_true_eq, decide_eq_false_iff_not, beq_iff_eq, beq_eq_false_iff_ne, bne_iff_ne, bne_eq_false_iff_eq, ne_eq] at c13
            refine BIf.of (fun c17 => ?_) (fun c17 => ?_)
            · skip
              try simp only [Bool.or_eq_true, Bool.and_eq_true, Bool.or_eq_false_iff, Bool.not_eq_true', Bool.not_eq_false', decide_eq_true_eq, decide_eq_false_iff_not, beq_iff_eq, beq_eq_false_iff_ne, bne_iff_ne, bne_eq_false_iff_eq, ne_eq] at c17
              refine JoinW.cut1 (fun (b70 : Bool) w' => SH w0 w' (aB w.heap.size ([.int .i64 a0_0, .int .i64 a0_1, .int .i64 a0_2, .int .i64 a0_3, .int .i64 a0_4].map Ce.v) :: F)) ?_ ?_
              · skip
                refine BIf.of (fun c18 => ?_) (fun c18 => ?_)
                · skip
                  try simp only [Bool.or_eq_true, Bool.and_eq_true, Bool.or_eq_false_iff, Bool.not_eq_true', Bool.not_eq_false', decide_eq_true_eq, decide_eq_false_iff_not, beq_iff_eq, beq_eq_false_iff_ne, bne_iff_ne, bne_eq_false_iff_eq, ne_eq] at c18
                  refine ⟨_, h.cell 0 rfl rfl, ?_⟩
                  exact h
                · skip
                  try simp only [Bool.or_eq_true, Bool.and_eq_true, Bool.or_eq_false_iff, Bool.not_eq_true', Bool.not_eq_false', decide_eq_true_eq, decide_eq_false_iff_not, beq_iff_eq, beq_eq_false_iff_ne, bne_iff_ne, bne_eq_false_iff_eq, ne_eq] at c18
                  exact h
              · clear h
                rintro (b70 : Bool) w72 h
                refine JoinW.cut1 (fun (b73 : Bool) w' => SH w0 w' (aB w.heap.size ([.int .i64 a0_0, .int .i64 a0_1, .int .i64 a0_2, .int .i64 a0_3, .int .i64 a0_4].map Ce.v) :: F)) ?_ ?_
                · skip
                  refine BIf.of (fun c19 => ?_) (fun c19 => ?_)
                  · skip
                    try simp only [Bool.or_eq_true, Bool.and_eq_true, Bool.or_eq_false_iff, Bool.not_eq_true', Bool.not_eq_false', decide_eq_true_eq, decide_eq_false_iff_not, beq_iff_eq, beq_eq_false_iff_ne, bne_iff_ne, bne_eq_false_iff_eq, ne_eq] at c19
                    refine ⟨_, h.cell 0 rfl rfl, ?_⟩
                    exact h
                  · skip
                    try simp only [Bool.or_eq_true, Bool.and_eq_true, Bool.or_eq_false_iff, Bool.not_eq_true', Bool.not_eq_false', decide_eq_true_eq, decide_eq_false_iff_not, beq_iff_eq, beq_eq_false_iff_ne, bne_iff_ne, bne_eq_false_iff_eq, ne_eq] at c19
                    exact h
                · clear h
                  rintro (b73 : Bool) w75 h
                  refine JoinW.cut1 (fun (b76 : Bool) w' => SH w0 w' (aB w.heap.size ([.int .i64 a0_0, .int .i64 a0_1, .int .i64 a0_2, .int .i64 a0_3, .int .i64 a0_4].map Ce.v) :: F)) ?_ ?_
                  · skip
                    refine BIf.of (fun c20 => ?_) (fun c20 => ?_)
                    · skip
                      try simp only [Bool.or_eq_true, Bool.and_eq_true, Bool.or_eq_false_iff, Bool.not_eq_true', Bool.not_eq_false', decide_eq_true_eq, decide_eq_false_iff_not, beq_iff_eq, beq_eq_false_iff_ne, bne_iff_ne, bne_eq_false_iff_eq, ne_eq] at c20
                      refine ⟨_, h.cell 0 rfl rfl, ?_⟩
                      refine s187.mono ?_
                      rintro _ w81 ⟨b82, rfl, rfl⟩
                      refine ⟨b82, rfl, ?_⟩
                      exact h
                    · skip
                      try simp only [Bool.or_eq_true, Bool.and_eq_true, Bool.or_eq_false_iff, Bool.not_eq_true', Bool.not_eq_false', decide_eq_true_eq, decide_eq_false_iff_not, beq_iff_eq, beq_eq_false_iff_ne, bne_iff_ne, bne_eq_false_iff_eq, ne_eq] at c20
                      exact h
                  · clear h
                    rintro (b76 : Bool) w78 h
                    exact ⟨_, rfl, h.drop⟩
            · skip
              try simp only [Bool.or_eq_true, Bool.and_eq_true, Bool.or_eq_false_iff, Bool.not_eq_true', Bool.not_eq_false', decide_eq_true_eq, decide_eq_false_iff_not, beq_iff_eq, beq_eq_false_iff_ne, bne_iff_ne, bne_eq_false_iff_eq, ne_eq] at c17
              refine BIf.of (fun c21 => ?_) (fun c21 => ?_)
              · skip
                try simp only [Bool.or_eq_true, Bool.and_eq_true, Bool.or_eq_false_iff, Bool.not_eq_true', Bool.not_eq_false', decide_eq_true_eq, decide_eq_false_iff_not, beq_iff_eq, beq_eq_false_iff_ne, bne_iff_ne, bne_eq_false_iff_eq, ne_eq] at c21
                refine ⟨_, h.cell 0 rfl rfl, ?_⟩
                refine JoinW.cut1 (fun (b86 : Bool) w' => SH w0 w' (aB w.heap.size ([.int .i64 a0_0, .int .i64 a0_1, .int .i64 a0_2, .int .i64 a0_3, .int .i64 a0_4].map Ce.v) :: F)) ?_ ?_
                · skip
                  refine BIf.of (fun c22 => ?_) (fun c22 => ?_)
                  · skip
                    try simp only [Bool.or_eq_true, Bool.and_eq_true, Bool.or_eq_false_iff, Bool.not_eq_true', Bool.not_eq_false', decide_eq_true_eq, decide_eq_false_iff_not, beq_iff_eq, beq_eq_false_iff_ne, bne_iff_ne, bne_eq_false_iff_eq, ne_eq] at c22
                    refine ⟨_, h.cell 0 rfl rfl, ?_⟩
                    exact h
                  · skip
                    try simp only [Bool.or_eq_true, Bool.and_eq_true, Bool.or_eq_false_iff, Bool.not_eq_true', Bool.not_eq_false', decide_eq_true_eq, decide_eq_false_iff_not, beq_iff_eq, beq_eq_false_iff_ne, bne_iff_ne, bne_eq_false_iff_eq, ne_eq] at c22
                    exact h
                · clear h
                  rintro (b86 : Bool) w88 h
                  refine JoinW.cut1 (fun (b89 : Bool) w' => SH w0 w' (aB w.heap.size ([.int .i64 a0_0, .int .i64 a0_1, .int .i64 a0_2, .int .i64 a0_3, .int .i64 a0_4].map Ce.v) :: F)) ?_ ?_
                  · skip
                    refine BIf.of (fun c23 => ?_) (fun c23 => ?_)
                    · skip
                      try simp only [Bool.or_eq_true, Bool.and_eq_true, Bool.or_eq_false_iff, Bool.not_eq_true', Bool.not_eq_false', decide_eq_true_eq, decide_eq_false_iff_not, beq_iff_eq, beq_eq_false_iff_ne, bne_iff_ne, bne_eq_false_iff_eq, ne_eq] at c23
                      refine ⟨_, h.cell 0 rfl rfl, ?_⟩
                      exact h
                    · skip
                      try simp only [Bool.or_eq_true, Bool.and_eq_true, Bool.or_eq_false_iff, Bool.not_eq_true', Bool.not_eq_false', decide_eq_true_eq, decide_eq_false_iff_not, beq_iff_eq, beq_eq_false_iff_ne, bne_iff_ne, bne_eq_false_iff_eq, ne_eq] at c23
                      exact h
                  · clear h
                    rintro (b89 : Bool) w91 h
                    refine JoinW.cut1 (fun (b92 : Bool) w' => SH w0 w' (aB w.heap.size ([.int .i64 a0_0, .int .i64 a0_1, .int .i64 a0_2, .int .i64 a0_3, .int .i64 a0_4].map Ce.v) :: F)) ?_ ?_
                    · skip
                      refine BIf.of (fun c24 => ?_) (fun c24 => ?_)
                      · skip
                        try simp only [Bool.or_eq_true, Bool.and_eq_true, Bool.or_eq_false_iff, Bool.not_eq_true', Bool.not_eq_false', decide_eq_true_eq, decide_eq_false_iff_not, beq_iff_eq, beq_eq_false_iff_ne, bne_iff_ne, bne_eq_false_iff_eq, ne_eq] at c24
                        refine ⟨_, h.cell 0 rfl rfl, ?_⟩
                        exact h
                      · skip
                        try simp only [Bool.or_eq_true, Bool.and_eq_true, Bool.or_eq_false_iff, Bool.not_eq_true', Bool.not_eq_false', decide_eq_true_eq, decide_eq_false_iff_not, beq_iff_eq, beq_eq_false_iff_ne, bne_iff_ne, bne_eq_false_iff_eq, ne_eq] at c24
                        exact h
                    · clear h
                      rintro (b92 : Bool) w94 h
                      exact ⟨_, rfl, h.drop⟩
              · skip
                try simp only [Bool.or_eq_true, Bool.and_eq_true, Bool.or_eq_false_iff, Bool.not_eq_true', Bool.not_eq_false', decide_eq_true_eq, decide_eq_false_iff_not, beq_iff_eq, beq_eq_false_iff_ne, bne_iff_ne, bne_eq_false_iff_eq, ne_eq] at c21
                refine BIf.of (fun c25 => ?_) (fun c25 => ?_)
                · skip
                  try simp only [Bool.or_eq_true, Bool.and_eq_true, Bool.or_eq_false_iff, Bool.not_eq_true', Bool.not_eq_false', decide_eq_true_eq, decide_eq_false_iff_not, beq_iff_eq, beq_eq_false_iff_ne, bne_iff_ne, bne_eq_false_iff_eq, ne_eq] at c25
                  refine JoinW.cut1 (fun (b98 : Bool) w' => SH w0 w' (aB w.heap.size ([.int .i64 a0_0, .int .i64 a0_1, .int .i64 a0_2, .int .i64 a0_3, .int .i64 a0_4].map Ce.v) :: F)) ?_ ?_
                  · skip
                    refine BIf.of (fun c26 => ?_) (fun c26 => ?_)
                    · skip
                      try simp only [Bool.or_eq_true, Bool.and_eq_true, Bool.or_eq_false_iff, Bool.not_eq_true', Bool.not_eq_false', decide_eq_true_eq, decide_eq_false_iff_not, beq_iff_eq, beq_eq_false_iff_ne, bne_iff_ne, bne_eq_false_iff_eq, ne_eq] at c26
                      exact h
                    · skip
                      try simp only [Bool.or_eq_true, Bool.and_eq_true, Bool.or_eq_false_iff, Bool.not_eq_true', Bool.not_eq_false', decide_eq_true_eq, decide_eq_false_iff_not, beq_iff_eq, beq_eq_false_iff_ne, bne_iff_ne, bne_eq_false_iff_eq, ne_eq] at c26
                      exact h
                  · clear h
                    rintro (b98 : Bool) w100 h
                    refine JoinW.cut1 (fun (b101 : Bool) w' => SH w0 w' (aB w.heap.size ([.int .i64 a0_0, .int .i64 a0_1, .int .i64 a0_2, .int .i64 a0_3, .int .i64 a0_4].map Ce.v) :: F)) ?_ ?_
                    · skip
                      refine BIf.of (fun c27 => ?_) (fun c27 => ?_)
                      · skip
                        try simp only [Bool.or_eq_true, Bool.and_eq_true, Bool.or_eq_false_iff, Bool.not_eq_true', Bool.not_eq_false', decide_eq_true_eq, decide_eq_false_iff_not, beq_iff_eq, beq_eq_false_iff_ne, bne_iff_ne, bne_eq_false_iff_eq, ne_eq] at c27
                        refine ⟨_, h.cell 0 rfl rfl, ?_⟩
                        exact h
                      · skip
                        try simp only [Bool.or_eq_true, Bool.and_eq_true, Bool.or_eq_false_iff, Bool.not_eq_true', Bool.not_eq_false', decide_eq_true_eq, decide_eq_false_iff_not, beq_iff_eq, beq_eq_false_iff_ne, bne_iff_ne, bne_eq_false_iff_eq, ne_eq] at c27
                        exact h
                    · clear h
                      rintro (b101 : Bool) w103 h
                      refine JoinW.cut1 (fun (b104 : Bool) w' => SH w0 w' (aB w.heap.size ([.int .i64 a0_0, .int .i64 a0_1, .int .i64 a0_2, .int .i64 a0_3, .int .i64 a0_4].map Ce.v) :: F)) ?_ ?_
                      · skip
                        refine BIf.of (fun c28 => ?_) (fun c28 => ?_)
                        · skip
                          try simp only [Bool.or_eq_true, Bool.and_eq_true, Bool.or_eq_false_iff, Bool.not_eq_true', Bool.not_eq_false', decide_eq_true_eq, decide_eq_false_iff_not, beq_iff_eq, beq_eq_false_iff_ne, bne_iff_ne, bne_eq_false_iff_eq, ne_eq] at c28
                          refine ⟨_, h.cell 0 rfl rfl, ?_⟩
                          refine s187.mono ?_
                          rintro _ w109 ⟨b110, rfl, rfl⟩
                          refine ⟨b110, rfl, ?_⟩
                          exact h
                        · skip
                          try simp only [Bool.or_eq_true, Bool.and_eq_true, Bool.or_eq_false_iff, Bool.not_eq_true', Bool.not_eq_false', decide_eq_true_eq, decide_eq_false_iff_not, beq_iff_eq, beq_eq_false_iff_ne, bne_iff_ne, bne_eq_false_iff_eq, ne_eq] at c28
                          exact h
                      · clear h
                        rintro (b104 : Bool) w106 h
                        exact ⟨_, rfl, h.drop⟩
                · skip
                  try simp only [Bool.or_eq_true, Bool.and_eq_true, Bool.or_eq_false_iff, Bool.not_eq_true', Bool.not_eq_false', decide_eq_true_eq, decide_eq_false_iff_not, beq_iff_eq, beq_eq_false_iff_ne, bne_iff_ne, bne_eq_false_iff_eq, ne_eq] at c25
                  exact ⟨_, rfl, h.drop⟩
set_option maxHeartbeats 2000000 in
theorem s168 {w0 w : World} {F : List Asr} {a0_0 a0_1 a0_2 a0_3 a0_4 : Int} (h : SH w0 w (F)) :
    CallW Try.prog 168 #[.agg #[.int .i64 a0_0, .int .i64 a0_1, .int .i64 a0_2, .int .i64 a0_3, .int .i64 a0_4]] w (fun v w' => ∃ (n : Int) (b : Bool), v = .tuple #[.int .u64 n, .bool b] ∧ 0 ≤ n ∧ SH w0 w' F) := by
  refine go168 (a0_0 := a0_0) (a0_1 := a0_1) (a0_2 := a0_2) (a0_3 := a0_3) (a0_4 := a0_4) ?_
  unfold W168
  refine h.alloc (fun w1 h ew1 nw1 => ?_)
  refine ⟨_, h.cell 0 rfl rfl, ?_⟩
  refine ⟨_, h.cell 0 rfl rfl, ?_⟩
  refine ⟨_, h.cell 0 rfl rfl, ?_⟩
  refine ⟨_, h.cell 0 rfl rfl, ?_⟩
  refine ⟨_, h.cell 0 rfl rfl, ?_⟩
  refine (s179 h).mono ?_
  rintro _ w8 ⟨b9, rfl, h⟩
  refine ⟨b9, rfl, ?_⟩
  refine BIf.of (fun c1 => ?_) (fun c1 => ?_)
  · skip
    try simp only [Bool.or_eq_true, Bool.and_eq_true, Bool.or_eq_false_iff, Bool.not_eq_true', Bool.not_eq_false', decide_eq_true_eq, decide_eq_false_iff_not, beq_iff_eq, beq_eq_false_iff_ne, bne_iff_ne, bne_eq_false_iff_eq, ne_eq] at c1
    exact ⟨_, _, rfl, (by first | exact wu_nn _ | decide), h.drop⟩
  · skip
    try simp only [Bool.or_eq_true, Bool.and_eq_true, Bool.or_eq_false_iff, Bool.not_eq_true', Bool.not_eq_false', decide_eq_true_eq, decide_eq_false_iff_not, beq_iff_eq, beq_eq_false_iff_ne, bne_iff_ne, bne_eq_false_iff_eq, ne_eq] at c1
    refine ⟨_, h.cell 0 rfl rfl, ?_⟩
    refine ⟨_, h.cell 0 rfl rfl, ?_⟩
    refine (s180 h).mono ?_
    rintro _ w13 ⟨n14, rfl, h⟩
    refine ⟨n14, rfl, ?_⟩
    refine BIf.of (fun c2 => ?_) (fun c2 => ?_)
    · skip
      try simp only [Bool.or_eq_true, Bool.and_eq_true, Bool.or_eq_false_iff, Bool.not_eq_true', Bool.not_eq_false', decide_eq_true_eq, decide_eq_false_iff_not, beq_iff_eq, beq_eq_false_iff_ne, bne_iff_ne, bne_eq_false_iff_eq, ne_eq] at c2
      refine ⟨_, h.cell 0 rfl rfl, ?_⟩
      refine ⟨_, h.cell 0 rfl rfl, ?_⟩
      refine ⟨_, h.cell 0 rfl rfl, ?_⟩
      exact ⟨_, _, rfl, (by first | exact wu_nn _ | decide), h.drop⟩
    · skip
      try simp only [Bool.or_eq_true, Bool.and_eq_true, Bool.or_eq_false_iff, Bool.not_eq_true', Bool.not_eq_false', decide_eq_true_eq, decide_eq_false_iff_not, beq_iff_eq, beq_eq_false_iff_ne, bne_iff_ne, bne_eq_false_iff_eq, ne_eq] at c2
      refine JoinW.cut1 (fun (b18 : Bool) w' => SH w0 w' (aB w.heap.size ([.int .i64 a0_0, .int .i64 a0_1, .int .i64 a0_2, .int .i64 a0_3, .int .i64 a0_4].map Ce.v) :: F)) ?_ ?_
      · skip
        refine BIf.of (fun c3 => ?_) (fun c3 => ?_)
        · skip
          try simp only [Bool.or_eq_true, Bool.and_eq_true, Bool.or_eq_false_iff, Bool.not_eq_true', Bool.not_eq_false', decide_eq_true_eq, decide_eq_false_iff_not, beq_iff_eq, beq_eq_false_iff_ne, bne_iff_ne, bne_eq_false_iff_eq, ne_eq] at c3
          exact h
        · skip
          try simp only [Bool.or_eq_true, Bool.and_eq_true, Bool.or_eq_false_iff, Bool.not_eq_true', Bool.not_eq_false', decide_eq_true_eq, decide_eq_false_iff_not, beq_iff_eq, beq_eq_false_iff_ne, bne_iff_ne, bne_eq_false_iff_eq, ne_eq] at c3
          refine BIf.of (fun c4 => ?_) (fun c4 => ?_)
          · skip
            try simp only [Bool.or_eq_true, Bool.and_eq_true, Bool.or_eq_false_iff, Bool.not_eq_true', Bool.not_eq_false', decide_eq_true_eq, decide_eq_false_iff_not, beq_iff_eq, beq_eq_false_iff_ne, bne_iff_ne, bne_eq_false_iff_eq, ne_eq] at c4
            exact h
          · skip
            try simp only [Bool.or_eq_true, Bool.and_eq_true, Bool.or_eq_false_iff, Bool.not_eq_true', Bool.not_eq_false', decide_eq_true_eq, decide_eq_false_iff_not, beq_iff_eq, beq_eq_false_iff_ne, bne_iff_ne, bne_eq_false_iff_eq, ne_eq] at c4
            exact h
      · clear h
        rintro (b18 : Bool) w20 h
        refine BIf.of (fun c5 => ?_) (fun c5 => ?_)
        · skip
          try simp only [Bool.or_eq_true, Bool.and_eq_true, Bool.or_eq_false_iff, Bool.not_eq_true', Bool.not_eq_false', decide_eq_true_eq, decide_eq_false_iff_not, beq_iff_eq, beq_eq_false_iff_ne, bne_iff_ne, bne_eq_false_iff_eq, ne_eq] at c5
          refine ⟨_, h.cell 0 rfl rfl, ?_⟩
          refine ⟨_, h.cell 0 rfl rfl, ?_⟩
          refine ⟨_, h.cell 0 rfl rfl, ?_⟩
          have h := h.drew
          refine s181.mono ?_
          rintro _ w25 ⟨n26, rfl, rfl⟩
          refine ⟨n26, rfl, ?_⟩
          refine ⟨(by first | rfl | trivial), ?_⟩
          refine ⟨⟨_, h.cell 0 rfl rfl, (by first | rfl | trivial)⟩, ?_⟩
          refine ⟨(by first | rfl | trivial), ?_⟩
          refine ⟨⟨_, h.cell 0 rfl rfl, (by first | rfl | trivial)⟩, ?_⟩
          exact ⟨_, _, rfl, (by first | exact wu_nn _ | decide), h.drop⟩
        · skip
          try simp only [Bool.or_eq_true, Bool.and_eq_true, Bool.or_eq_false_iff, Bool.not_eq_true', Bool.not_eq_false', decide_eq_true_eq, decide_eq_false_iff_not, beq_iff_eq, beq_eq_false_iff_ne, bne_iff_ne, bne_eq_false_iff_eq, ne_eq] at c5
          refine BIf.of (fun c6 => ?_) (fun c6 => ?_)
          · skip
            try simp only [Bool.or_eq_true, Bool.and_eq_true, Bool.or_eq_false_iff, Bool.not_eq_true', Bool.not_eq_false', decide_eq_true_eq, decide_eq_false_iff_not, beq_iff_eq, beq_eq_false_iff_ne, bne_iff_ne, bne_eq_false_iff_eq, ne_eq] at c6
            refine ⟨_, h.cell 0 rfl rfl, ?_⟩
            refine ⟨_, h.cell 0 rfl rfl, ?_⟩
            refine ⟨_, h.cell 0 rfl rfl, ?_⟩
            have h := h.drew
            refine s181.mono ?_
            rintro _ w33 ⟨n34, rfl, rfl⟩
            refine ⟨n34, rfl, ?_⟩
            refine ⟨(by first | rfl | trivial), ?_⟩
            refine ⟨⟨_, h.cell 0 rfl rfl, (by first | rfl | trivial)⟩, ?_⟩
            refine ⟨(by first | rfl | trivial), ?_⟩
            refine ⟨⟨_, h.cell 0 rfl rfl, (by first | rfl | trivial)⟩, ?_⟩
            exact ⟨_, _, rfl, (by first | exact wu_nn _ | decide), h.drop⟩
          · skip
            try simp only [Bool.or_eq_true, Bool.and_eq_true, Bool.or_eq_false_iff, Bool.not_eq_true', Bool.not_eq_false', decide_eq_true_eq, decide_eq_false_iff_not, beq_iff_eq, beq_eq_false_iff_ne, bne_iff_ne, bne_eq_false_iff_eq, ne_eq] at c6
            refine BIf.of (fun c7 => ?_) (fun c7 => ?_)
            · skip
              try simp only [Bool.or_eq_true, Bool.and_eq_true, Bool.or_eq_false_iff, Bool.not_eq_true', Bool.not_eq_false', decide_eq_true_eq, decide_eq_false_iff_not, beq_iff_eq, beq_eq_false_iff_ne, bne_iff_ne, bne_eq_false_iff_eq, ne_eq] at c7
              refine ⟨_, h.cell 0 rfl rfl, ?_⟩
              refine ⟨_, h.cell 0 rfl rfl, ?_⟩
              refine ⟨_, h.cell 0 rfl rfl, ?_⟩
              have h := h.drew
              refine s181.mono ?_
              rintro _ w41 ⟨n42, rfl, rfl⟩
              refine ⟨n42, rfl, ?_⟩
              refine ⟨(by first | rfl | trivial), ?_⟩
              refine ⟨⟨_, h.cell 0 rfl rfl, (by first | rfl | trivial)⟩, ?_⟩
              refine ⟨(by first | rfl | trivial), ?_⟩
              refine ⟨⟨_, h.cell 0 rfl rfl, (by first | rfl | trivial)⟩, ?_⟩
              exact ⟨_, _, rfl, (by first | exact wu_nn _ | decide), h.drop⟩
            · skip
              try simp only [Bool.or_eq_true, Bool.and_eq_true, Bool.or_eq_false_iff, Bool.not_eq_true', Bool.not_eq_false', decide_eq_true_eq, decide_eq_false_iff_not, beq_iff_eq, beq_eq_false_iff_ne, bne_iff_ne, bne_eq_false_iff_eq, ne_eq] at c7
              refine BIf.of (fun c8 => ?_) (fun c8 => ?_)
              · skip
                try simp only [Bool.or_eq_true, Bool.and_eq_true, Bool.or_eq_false_iff, Bool.not_eq_true', Bool.not_eq_false', decide_eq_true_eq, decide_eq_false_iff_not, beq_iff_eq, beq_eq_false_iff_ne, bne_iff_ne, bne_eq_false_iff_eq, ne_eq] at c8
                refine ⟨_, h.cell 0 rfl rfl, ?_⟩
                refine ⟨_, h.cell 0 rfl rfl, ?_⟩
                have h := h.drew
                refine s181.mono ?_
                rintro _ w48 ⟨n49, rfl, rfl⟩
                refine ⟨n49, rfl, ?_⟩
                refine ⟨(by first | rfl | trivial), ?_⟩
                refine ⟨⟨_, h.cell 0 rfl rfl, (by first | rfl | trivial)⟩, ?_⟩
                exact ⟨_, _, rfl, (by first | exact wu_nn _ | decide), h.drop⟩
              · skip
                try simp only [Bool.or_eq_true, Bool.and_eq_true, Bool.or_eq_false_iff, Bool.not_eq_true', Bool.not_eq_false', decide_eq_true_eq, decide_eq_false_iff_not, beq_iff_eq, beq_eq_false_iff_ne, bne_iff_ne, bne_eq_false_iff_eq, ne_eq] at c8
                exact ⟨_, _, rfl, (by first | exact wu_nn _ | decide), h.drop⟩
set_option maxHeartbeats 2000000 in
theorem s182 {w0 w : World} {F : List Asr} {cb : Nat} {s : Sl} {a1 a2 : Int} (h : SH w0 w (aC cb s :: F)) (hb : CurB w0 s) :
    CallW Try.prog 182 #[.pointer (some ⟨cb, 0, none⟩), .int .i64 a1, .int .i64 a2] w (fun v w' => ∃ n : Int, v = .int .i64 n ∧ SH w0 w' (aC cb s :: F)) := by
  refine go182 ?_
  unfold W182
  refine (s79 h 0 rfl hb).mono ?_
  rintro _ w2 ⟨n3, rfl, ⟨pn3a, pn3b⟩, h⟩
  refine ⟨n3, rfl, ?_⟩
  refine BIf.of (fun c1 => ?_) (fun c1 => ?_)
  · skip
    try simp only [Bool.or_eq_true, Bool.and_eq_true, Bool.or_eq_false_iff, Bool.not_eq_true', Bool.not_eq_false', decide_eq_true_eq, decide_eq_false_iff_not, beq_iff_eq, beq_eq_false_iff_ne, bne_iff_ne, bne_eq_false_iff_eq, ne_eq] at c1
    exact ⟨_, rfl, h⟩
  · skip
    try simp only [Bool.or_eq_true, Bool.and_eq_true, Bool.or_eq_false_iff, Bool.not_eq_true', Bool.not_eq_false', decide_eq_true_eq, decide_eq_false_iff_not, beq_iff_eq, beq_eq_false_iff_ne, bne_iff_ne, bne_eq_false_iff_eq, ne_eq] at c1
    refine BIf.of (fun c2 => ?_) (fun c2 => ?_)
    · skip
      try simp only [Bool.or_eq_true, Bool.and_eq_true, Bool.or_eq_false_iff, Bool.not_eq_true', Bool.not_eq_false', decide_eq_true_eq, decide_eq_false_iff_not, beq_iff_eq, beq_eq_false_iff_ne, bne_iff_ne, bne_eq_false_iff_eq, ne_eq] at c2
      exact ⟨_, rfl, h⟩
    · skip
      try simp only [Bool.or_eq_true, Bool.and_eq_true, Bool.or_eq_false_iff, Bool.not_eq_true', Bool.not_eq_false', decide_eq_true_eq, decide_eq_false_iff_not, beq_iff_eq, beq_eq_false_iff_ne, bne_iff_ne, bne_eq_false_iff_eq, ne_eq] at c2
      refine BIf.of (fun c3 => ?_) (fun c3 => ?_)
      · skip
        try simp only [Bool.or_eq_true, Bool.and_eq_true, Bool.or_eq_false_iff, Bool.not_eq_true', Bool.not_eq_false', decide_eq_true_eq, decide_eq_false_iff_not, beq_iff_eq, beq_eq_false_iff_ne, bne_iff_ne, bne_eq_false_iff_eq, ne_eq] at c3
        refine (s79 h 0 rfl hb).mono ?_
        rintro _ w5 ⟨n6, rfl, ⟨pn6a, pn6b⟩, h⟩
        refine ⟨n6, rfl, ?_⟩
        exact ⟨_, rfl, h⟩
      · skip
        try simp only [Bool.or_eq_true, Bool.and_eq_true, Bool.or_eq_false_iff, Bool.not_eq_true', Bool.not_eq_false', decide_eq_true_eq, decide_eq_false_iff_not, beq_iff_eq, beq_eq_false_iff_ne, bne_iff_ne, bne_eq_false_iff_eq, ne_eq] at c3
        refine (s79 h 0 rfl hb).mono ?_
        rintro _ w8 ⟨n9, rfl, ⟨pn9a, pn9b⟩, h⟩
        refine ⟨n9, rfl, ?_⟩
        refine BIf.of (fun c4 => ?_) (fun c4 => ?_)
        · skip
          try simp only [Bool.or_eq_true, Bool.and_eq_true, Bool.or_eq_false_iff, Bool.not_eq_true', Bool.not_eq_false', decide_eq_true_eq, decide_eq_false_iff_not, beq_iff_eq, beq_eq_false_iff_ne, bne_iff_ne, bne_eq_false_iff_eq, ne_eq] at c4
          exact ⟨_, rfl, h⟩
        · skip
          try simp only [Bool.or_eq_true, Bool.and_eq_true, Bool.or_eq_false_iff, Bool.not_eq_true', Bool.not_eq_false', decide_eq_true_eq, decide_eq_false_iff_not, beq_iff_eq, beq_eq_false_iff_ne, bne_iff_ne, bne_eq_false_iff_eq, ne_eq] at c4
          refine BIf.of (fun c5 => ?_) (fun c5 => ?_)
          · skip
            try simp only [Bool.or_eq_true, Bool.and_eq_true, Bool.or_eq_false_iff, Bool.not_eq_true', Bool.not_eq_false', decide_eq_true_eq, decide_eq_false_iff_not, beq_iff_eq, beq_eq_false_iff_ne, bne_iff_ne, bne_eq_false_iff_eq, ne_eq] at c5
            exact ⟨_, rfl, h⟩
          · skip
            try simp only [Bool.or_eq_true, Bool.and_eq_true, Bool.or_eq_false_iff, Bool.not_eq_true', Bool.not_eq_false', decide_eq_true_eq, decide_eq_false_iff_not, beq_iff_eq, beq_eq_false_iff_ne, bne_iff_ne, bne_eq_false_iff_eq, ne_eq] at c5
            exact ⟨_, rfl, h⟩
set_option maxHeartbeats 2000000 in
theorem s169 {w0 w : World} {F : List Asr} {cb : Nat} {s : Sl} {a1 : Int} (h : SH w0 w (aC cb s :: F)) (hb : CurB w0 s) :
    CallW Try.prog 169 #[.pointer (some ⟨cb, 0, none⟩), .int .i64 a1] w (fun v w' => ∃ a b c e f : Int, v = .agg #[.int .i64 a, .int .i64 b, .int .i64 c, .int .i64 e, .int .i64 f] ∧ SH w0 w' (aC cb s :: F)) := by
  refine go169 ?_
  unfold W169
  refine h.alloc (fun w1 h ew1 nw1 => ?_)
  have h : SH w0 w1 (aI w.heap.size 5 (fun _ => True) :: aC cb s :: F) := h.toI 0 [0, 0, 0, 0, 0] rfl rfl (fun _ _ => trivial)
  refine h.alloc (fun w2 h ew2 nw2 => ?_)
  have h : SH w0 w2 (aI w1.heap.size 5 (fun _ => True) :: aI w.heap.size 5 (fun _ => True) :: aC cb s :: F) := h.toI 0 [0, 0, 0, 0, 0] rfl rfl (fun _ _ => trivial)
  refine h.pI 0 [a1, 0, 0, 0, 0] rfl rfl rfl (fun _ _ => trivial) (fun w3 h => ?_)
  refine (s79 h 2 rfl hb).mono ?_
  rintro _ w5 ⟨n6, rfl, ⟨pn6a, pn6b⟩, h⟩
  refine ⟨n6, rfl, ?_⟩
  refine (s79 h 2 rfl hb).mono ?_
  rintro _ w8 ⟨n9, rfl, ⟨pn9a, pn9b⟩, h⟩
  refine ⟨n9, rfl, ?_⟩
  refine (s79 h 2 rfl hb).mono ?_
  rintro _ w11 ⟨n12, rfl, ⟨pn12a, pn12b⟩, h⟩
  refine ⟨n12, rfl, ?_⟩
  refine JoinW.cut0 (fun w' => SH w0 w' (aI w1.heap.size 5 (fun _ => True) :: aI w.heap.size 5 (fun _ => True) :: aC cb s :: F)) ?_ ?_
  · skip
    refine (s180 h).mono ?_
    rintro _ w27 ⟨n28, rfl, h⟩
    refine ⟨n28, rfl, ?_⟩
    refine BIf.of (fun c1 => ?_) (fun c1 => ?_)
    · skip
      try simp only [Bool.or_eq_true, Bool.and_eq_true, Bool.or_eq_false_iff, Bool.not_eq_true', Bool.not_eq_false', decide_eq_true_eq, decide_eq_false_iff_not, beq_iff_eq, beq_eq_false_iff_ne, bne_iff_ne, bne_eq_false_iff_eq, ne_eq] at c1
      refine h.sI 0 rfl (by decide) trivial (fun w29 h => ?_)
      refine h.sI 0 rfl (by decide) trivial (fun w30 h => ?_)
      refine h.sI 0 rfl (by decide) trivial (fun w31 h => ?_)
      exact (h)
    · skip
      try simp only [Bool.or_eq_true, Bool.and_eq_true, Bool.or_eq_false_iff, Bool.not_eq_true', Bool.not_eq_false', decide_eq_true_eq, decide_eq_false_iff_not, beq_iff_eq, beq_eq_false_iff_ne, bne_iff_ne, bne_eq_false_iff_eq, ne_eq] at c1
      refine JoinW.cut1 (fun (b32 : Bool) w' => SH w0 w' (aI w1.heap.size 5 (fun _ => True) :: aI w.heap.size 5 (fun _ => True) :: aC cb s :: F)) ?_ ?_
      · skip
        refine BIf.of (fun c2 => ?_) (fun c2 => ?_)
        · skip
          try simp only [Bool.or_eq_true, Bool.and_eq_true, Bool.or_eq_false_iff, Bool.not_eq_true', Bool.not_eq_false', decide_eq_true_eq, decide_eq_false_iff_not, beq_iff_eq, beq_eq_false_iff_ne, bne_iff_ne, bne_eq_false_iff_eq, ne_eq] at c2
          exact (h)
        · skip
          try simp only [Bool.or_eq_true, Bool.and_eq_true, Bool.or_eq_false_iff, Bool.not_eq_true', Bool.not_eq_false', decide_eq_true_eq, decide_eq_false_iff_not, beq_iff_eq, beq_eq_false_iff_ne, bne_iff_ne, bne_eq_false_iff_eq, ne_eq] at c2
          exact (h)
      · clear h
        rintro (b32 : Bool) w34 h
        refine BIf.of (fun c3 => ?_) (fun c3 => ?_)
        · skip
          try simp only [Bool.or_eq_true, Bool.and_eq_true, Bool.or_eq_false_iff, Bool.not_eq_true', Bool.not_eq_false', decide_eq_true_eq, decide_eq_false_iff_not, beq_iff_eq, beq_eq_false_iff_ne, bne_iff_ne, bne_eq_false_iff_eq, ne_eq] at c3
          refine h.sI 0 rfl (by decide) trivial (fun w35 h => ?_)
          refine h.sI 0 rfl (by decide) trivial (fun w36 h => ?_)
          refine JoinW.cut0 (fun w' => SH w0 w' (aI w1.heap.size 5 (fun _ => True) :: aI w.heap.size 5 (fun _ => True) :: aC cb s :: F)) ?_ ?_
          · skip
            refine (s80 h 2 rfl hb).mono ?_
            rintro _ w51 ⟨b52, rfl, h⟩
            refine ⟨b52, rfl, ?_⟩
            refine BIf.of (fun c4 => ?_) (fun c4 => ?_)
            · skip
              try simp only [Bool.or_eq_true, Bool.and_eq_true, Bool.or_eq_false_iff, Bool.not_eq_true', Bool.not_eq_false', decide_eq_true_eq, decide_eq_false_iff_not, beq_iff_eq, beq_eq_false_iff_ne, bne_iff_ne, bne_eq_false_iff_eq, ne_eq] at c4
              refine h.sI 0 rfl (by decide) trivial (fun w53 h => ?_)
              exact (h)
            · skip
              try simp only [Bool.or_eq_true, Bool.and_eq_true, Bool.or_eq_false_iff, Bool.not_eq_true', Bool.not_eq_false', decide_eq_true_eq, decide_eq_false_iff_not, beq_iff_eq, beq_eq_false_iff_ne, bne_iff_ne, bne_eq_false_iff_eq, ne_eq] at c4
              exact (h)
          · clear h
            intro w38 h
            refine (s182 (h.front (n := 2) rfl) hb).mono ?_
            rintro _ w40 ⟨n41, rfl, h⟩
            refine ⟨n41, rfl, ?_⟩
            have h : SH w0 w40 (aC cb s :: aI w1.heap.size 5 (fun _ => True) :: aI w.heap.size 5 (fun _ => True) :: F) := h
            refine h.sI 1 rfl (by decide) trivial (fun w42 h => ?_)
            refine JoinW.cut1 (fun (b43 : Bool) w' => SH w0 w' (aC cb s :: aI w1.heap.size 5 (fun _ => True) :: aI w.heap.size 5 (fun _ => True) :: F)) ?_ ?_
            · skip
              refine BIf.of (fun c5 => ?_) (fun c5 => ?_)
              · skip
                try simp only [Bool.or_eq_true, Bool.and_eq_true, Bool.or_eq_false_iff, Bool.not_eq_true', Bool.not_eq_false', decide_eq_true_eq, decide_eq_false_iff_not, beq_iff_eq, beq_eq_false_iff_ne, bne_iff_ne, bne_eq_false_iff_eq, ne_eq] at c5
                exact (h)
              · skip
                try simp only [Bool.or_eq_true, Bool.and_eq_true, Bool.or_eq_false_iff, Bool.not_eq_true', Bool.not_eq_false', decide_eq_true_eq, decide_eq_false_iff_not, beq_iff_eq, beq_eq_false_iff_ne, bne_iff_ne, bne_eq_false_iff_eq, ne_eq] at c5
                exact (h)
            · clear h
              rintro (b43 : Bool) w45 h
              refine BIf.of (fun c6 => ?_) (fun c6 => ?_)
              · skip
                try simp only [Bool.or_eq_true, Bool.and_eq_true, Bool.or_eq_false_iff, Bool.not_eq_true', Bool.not_eq_false', decide_eq_true_eq, decide_eq_false_iff_not, beq_iff_eq, beq_eq_false_iff_ne, bne_iff_ne, bne_eq_false_iff_eq, ne_eq] at c6
                refine (s79 h 0 rfl hb).mono ?_
                rintro _ w47 ⟨n48, rfl, ⟨pn48a, pn48b⟩, h⟩
                refine ⟨n48, rfl, ?_⟩
                refine h.sI 1 rfl (by decide) trivial (fun w49 h => ?_)
                exact ((h.front (n := 2) rfl).front (n := 2) rfl)
              · skip
                try simp only [Bool.or_eq_true, Bool.and_eq_true, Bool.or_eq_false_iff, Bool.not_eq_true', Bool.not_eq_false', decide_eq_true_eq, decide_eq_false_iff_not, beq_iff_eq, beq_eq_false_iff_ne, bne_iff_ne, bne_eq_false_iff_eq, ne_eq] at c6
                exact ((h.front (n := 2) rfl).front (n := 2) rfl)
        · skip
          try simp only [Bool.or_eq_true, Bool.and_eq_true, Bool.or_eq_false_iff, Bool.not_eq_true', Bool.not_eq_false', decide_eq_true_eq, decide_eq_false_iff_not, beq_iff_eq, beq_eq_false_iff_ne, bne_iff_ne, bne_eq_false_iff_eq, ne_eq] at c3
          refine JoinW.cut1 (fun (b54 : Bool) w' => SH w0 w' (aI w1.heap.size 5 (fun _ => True) :: aI w.heap.size 5 (fun _ => True) :: aC cb s :: F)) ?_ ?_
          · skip
            refine BIf.of (fun c7 => ?_) (fun c7 => ?_)
            · skip
              try simp only [Bool.or_eq_true, Bool.and_eq_true, Bool.or_eq_false_iff, Bool.not_eq_true', Bool.not_eq_false', decide_eq_true_eq, decide_eq_false_iff_not, beq_iff_eq, beq_eq_false_iff_ne, bne_iff_ne, bne_eq_false_iff_eq, ne_eq] at c7
              exact (h)
            · skip
              try simp only [Bool.or_eq_true, Bool.and_eq_true, Bool.or_eq_false_iff, Bool.not_eq_true', Bool.not_eq_false', decide_eq_true_eq, decide_eq_false_iff_not, beq_iff_eq, beq_eq_false_iff_ne, bne_iff_ne, bne_eq_false_iff_eq, ne_eq] at c7
              exact (h)
          · clear h
            rintro (b54 : Bool) w56 h
            refine BIf.of (fun c8 => ?_) (fun c8 => ?_)
            · skip
              try simp only [Bool.or_eq_true, Bool.and_eq_true, Bool.or_eq_false_iff, Bool.not_eq_true', Bool.not_eq_false', decide_eq_true_eq, decide_eq_false_iff_not, beq_iff_eq, beq_eq_false_iff_ne, bne_iff_ne, bne_eq_false_iff_eq, ne_eq] at c8
              refine h.sI 0 rfl (by decide) trivial (fun w57 h => ?_)
              refine h.sI 0 rfl (by decide) trivial (fun w58 h => ?_)
              refine (s182 (h.front (n := 2) rfl) hb).mono ?_
              rintro _ w60 ⟨n61, rfl, h⟩
              refine ⟨n61, rfl, ?_⟩
              have h : SH w0 w60 (aC cb s :: aI w1.heap.size 5 (fun _ => True) :: aI w.heap.size 5 (fun _ => True) :: F) := h
              refine h.sI 1 rfl (by decide) trivial (fun w62 h => ?_)
              exact ((h.front (n := 2) rfl).front (n := 2) rfl)
            · skip
              try simp only [Bool.or_eq_true, Bool.and_eq_true, Bool.or_eq_false_iff, Bool.not_eq_true', Bool.not_eq_false', decide_eq_true_eq, decide_eq_false_iff_not, beq_iff_eq, beq_eq_false_iff_ne, bne_iff_ne, bne_eq_false_iff_eq, ne_eq] at c8
              refine BIf.of (fun c9 => ?_) (fun c9 => ?_)
              · skip
                try simp only [Bool.or_eq_true, Bool.and_eq_true, Bool.or_eq_false_iff, Bool.not_eq_true', Bool.not_eq_false', decide_eq_true_eq, decide_eq_false_iff_not, beq_iff_eq, beq_eq_false_iff_ne, bne_iff_ne, bne_eq_false_iff_eq, ne_eq] at c9
                refine h.sI 0 rfl (by decide) trivial (fun w63 h => ?_)
                refine (s182 (h.front (n := 2) rfl) hb).mono ?_
                rintro _ w65 ⟨n66, rfl, h⟩
                refine ⟨n66, rfl, ?_⟩
                have h : SH w0 w65 (aC cb s :: aI w1.heap.size 5 (fun _ => True) :: aI w.heap.size 5 (fun _ => True) :: F) := h
                refine h.sI 1 rfl (by decide) trivial (fun w67 h => ?_)
                exact ((h.front (n := 2) rfl).front (n := 2) rfl)
              · skip
                try simp only [Bool.or_eq_true, Bool.and_eq_true, Bool.or_eq_false_iff, Bool.not_eq_true', Bool.not_eq_false', decide_eq_true_eq, decide_eq_false_iff_not, beq_iff_eq, beq_eq_false_iff_ne, bne_iff_ne, bne_eq_false_iff_eq, ne_eq] at c9
                refine BIf.of (fun c10 => ?_) (fun c10 => ?_)
                · skip
                  try simp only [Bool.or_eq_true, Bool.and_eq_true, Bool.or_eq_false_iff, Bool.not_eq_true', Bool.not_eq_false', decide_eq_true_eq, decide_eq_false_iff_not, beq_iff_eq, beq_eq_false_iff_ne, bne_iff_ne, bne_eq_false_iff_eq, ne_eq] at c10
                  refine h.sI 0 rfl (by decide) trivial (fun w68 h => ?_)
                  refine h.sI 0 rfl (by decide) trivial (fun w69 h => ?_)
                  refine (s79 h 2 rfl hb).mono ?_
                  rintro _ w71 ⟨n72, rfl, ⟨pn72a, pn72b⟩, h⟩
                  refine ⟨n72, rfl, ?_⟩
                  refine h.sI 0 rfl (by decide) trivial (fun w73 h => ?_)
                  refine (s80 h 2 rfl hb).mono ?_
                  rintro _ w75 ⟨b76, rfl, h⟩
                  refine ⟨b76, rfl, ?_⟩
                  refine BIf.of (fun c11 => ?_) (fun c11 => ?_)
                  · skip
                    try simp only [Bool.or_eq_true, Bool.and_eq_true, Bool.or_eq_false_iff, Bool.not_eq_true', Bool.not_eq_false', decide_eq_true_eq, decide_eq_false_iff_not, beq_iff_eq, beq_eq_false_iff_ne, bne_iff_ne, bne_eq_false_iff_eq, ne_eq] at c11
                    refine h.alloc (fun w77 h ew77 nw77 => ?_)
                    have h : SH w0 w77 (aI w75.heap.size 3 (fun _ => True) :: aI w1.heap.size 5 (fun _ => True) :: aI w.heap.size 5 (fun _ => True) :: aC cb s :: F) := h.toI 0 [16, 15, (-1)] rfl rfl (fun _ _ => trivial)
                    refine (s79 h 3 rfl hb).mono ?_
                    rintro _ w79 ⟨n80, rfl, ⟨pn80a, pn80b⟩, h⟩
                    refine ⟨n80, rfl, ?_⟩
                    refine ⟨by omega, ?_⟩
                    refine ⟨by omega, ?_⟩
                    refine ⟨_, rfl, ?_⟩
                    obtain ⟨k12, rfl⟩ := Int.eq_ofNat_of_zero_le pn80a
                    rw [Int.toNat_natCast]
                    refine h.rIx 0 rfl (by omega) (fun n82 pn82 => ?_)
                    refine h.sI 1 rfl (by decide) trivial (fun w83 h => ?_)
                    exact (h.dropAt 0)
                  · skip
                    try simp only [Bool.or_eq_true, Bool.and_eq_true, Bool.or_eq_false_iff, Bool.not_eq_true', Bool.not_eq_false', decide_eq_true_eq, decide_eq_false_iff_not, beq_iff_eq, beq_eq_false_iff_ne, bne_iff_ne, bne_eq_false_iff_eq, ne_eq] at c11
                    exact (h)
                · skip
                  try simp only [Bool.or_eq_true, Bool.and_eq_true, Bool.or_eq_false_iff, Bool.not_eq_true', Bool.not_eq_false', decide_eq_true_eq, decide_eq_false_iff_not, beq_iff_eq, beq_eq_false_iff_ne, bne_iff_ne, bne_eq_false_iff_eq, ne_eq] at c10
                  exact (h)
  · clear h
    intro w14 h
    refine h.rI 0 rfl (by decide) (fun n15 pn15 => ?_)
    refine h.rI 0 rfl (by decide) (fun n16 pn16 => ?_)
    refine h.rI 0 rfl (by decide) (fun n17 pn17 => ?_)
    refine h.rI 0 rfl (by decide) (fun n18 pn18 => ?_)
    refine h.rI 0 rfl (by decide) (fun n19 pn19 => ?_)
    refine h.pI 1 [n15, n16, n17, n18, n19] rfl rfl rfl (fun _ _ => trivial) (fun w20 h => ?_)
    refine h.rI 1 rfl (by decide) (fun n21 pn21 => ?_)
    refine h.rI 1 rfl (by decide) (fun n22 pn22 => ?_)
    refine h.rI 1 rfl (by decide) (fun n23 pn23 => ?_)
    refine h.rI 1 rfl (by decide) (fun n24 pn24 => ?_)
    refine h.rI 1 rfl (by decide) (fun n25 pn25 => ?_)
    exact ⟨_, _, _, _, _, rfl, ((h.dropAt 1).dropAt 0)⟩
end Go.Proofs.Ytenhcpjlkmbedaa

/- Draws: code and an image. Conditions: none. -/
set_option linter.unusedVariables false
set_option linter.unusedSimpArgs false
namespace Go.Proofs.Ytenhcpjlkmbedaa
open Go Go.Den
theorem u8_rng (x : Int) : 0 ≤ IntKind.u8.wrap x ∧ IntKind.u8.wrap x ≤ 255 := by rw [IntKind.wrap_u8]; omega
theorem inBy_snoc {l : List Int} {x : Int} (h : inBy l) (hx : 0 ≤ x ∧ x ≤ 255) : inBy (l ++ [x]) := inBy_app h (fun y hy => by rw [List.mem_singleton.1 hy]; exact hx)
theorem s137 {w0 w : World} {F : List Asr} {cb : Nat} {s : Sl} {n : Int} (h : SH w0 w (aC cb s :: F)) (hb : CurB w0 s) (h0 : 0 ≤ n) (h1 : n ≤ 12) :
    CallW Try.prog 137 #[.pointer (some ⟨cb, 0, none⟩), .int .i64 n] w (fun v w' => ∃ (t : Sl) (d : List Int), v = .slice t.a t.len t.cap ∧ inBy d ∧ d.length ≤ 48 ∧ SH w0 w' (rD t d :: aC cb s :: F)) := by
  refine go137 ?_
  unfold W137
  refine h.alloc (fun w1 h e1 n1 => ?_)
  have h := h.drop.nil (some ⟨w.heap.size, 0, none⟩) 1
  refine LoopW.m2 (fun (l : Sl) (i : Int) w' => ∃ (k : Nat) (d : List Int), i = k ∧ (k : Int) ≤ n ∧ d.length = 4 * k ∧ inBy d ∧ SH w0 w' (rD l d :: aC cb s :: F)) (fun _ (i : Int) _ => (n - i).toNat) ⟨0, [], rfl, by omega, rfl, (fun x hx => by simp at hx), h⟩ ?_
  clear h
  rintro (l : Sl) (i : Int) w5 ⟨k, d, rfl, hk, hd, hin, h⟩ J hJ
  refine BIf.dec (fun hlt => ?_) (fun hge => ⟨l, d, rfl, hin, by omega, h⟩)
  refine (s170 h 1 rfl hb).mono ?_
  rintro _ w7 ⟨n8, rfl, h⟩
  refine ⟨_, rfl, (s169 h.p1 hb).mono ?_⟩
  rintro _ w10 ⟨n11, n12, n13, n14, n15, rfl, h⟩
  refine ⟨_, _, _, _, _, rfl, (s168 h).mono ?_⟩
  rintro _ w17 ⟨n18, b19, rfl, hn18, h⟩
  refine ⟨_, _, rfl, ?_⟩
  have h := h.p1
  rw [w64 (n := (k : Int) + 1) (by omega) (by omega)]
  refine LoopW.m3 (fun (l : Sl) (y : Int) (i : Int) w' => ∃ (j : Nat) (d2 : List Int), i = j ∧ j ≤ 4 ∧ 0 ≤ y ∧ d2.length = 4 * k + j ∧ inBy d2 ∧ SH w0 w' (rD l d2 :: aC cb s :: F)) (fun _ _ (i : Int) _ => (4 - i).toNat) ⟨0, d, rfl, by omega, hn18, by omega, hin, h⟩ ?_
  clear h
  rintro (l2 : Sl) (y : Int) (i2 : Int) w24 ⟨j, d2, rfl, hj, hy, hd2, hin2, h⟩ J2 hJ2
  refine BIf.dec (fun hlt2 => ?_) (fun hge2 => hJ _ _ _ ⟨k + 1, d2, by omega, by omega, by omega, hin2, h⟩ (by omega))
  rw [w64 (n := (j : Int) + 1) (by omega) (by omega)]
  refine ⟨by decide, LetW_iff.2 (SH.appendN1 h rfl rfl (by decide) (by rw [hd2]; show _ * 1 ≤ _; omega) (fun t2 w9 h hl2 _ => ?_))⟩
  exact ⟨by decide, hJ2 _ _ _ _ ⟨j + 1, d2 ++ [_], by omega, by omega, wu_nn _, by rw [List.length_append, hd2]; rfl, inBy_snoc hin2 (u8_rng _), h⟩ (by omega)⟩
structure SegG (x : RSeg) : Prop where
  by_ : inBy x.Data
  len : x.Data.length ≤ 2000
  s1 : 1 ≤ x.Size
  s2 : x.Size ≤ 2700
set_option maxRecDepth 4000 in
set_option maxHeartbeats 4000000 in
theorem s78 {w0 w : World} {F : List Asr} {cb : Nat} {s : Sl} (h : SH w0 w (aC cb s :: F)) (hb : CurB w0 s) :
    CallW Try.prog 78 #[.pointer (some ⟨cb, 0, none⟩)] w (fun v w' => ∃ (e : Int) (t : Sl) (l : List RSeg), v = iV e t ∧ 1 ≤ l.length ∧ l.length ≤ 9 ∧ (∀ x, x ∈ l → SegG x) ∧ SH w0 w' (aC cb s :: rS t l :: bS l :: F)) := by
  refine go78 ?_
  unfold W78
  refine h.alloc (fun w1 h e1 n1 => ?_)
  refine h.alloc (fun w2 h e2 n2 => ?_)
  refine h.put 0 rfl rfl rfl (fun w3 h n3 => ?_)
  generalize w.heap.size = ob at *
  generalize w1.heap.size = mb at *
  have h : SH w0 w3 (BI mb 0 N0 :: BI ob 0 N0 :: aC cb s :: F) := h
  refine (s79 h 2 rfl hb).mono ?_
  rintro _ w5 ⟨n6, rfl, ⟨p6, q6⟩, h⟩
  refine ⟨_, rfl, (s79 h 2 rfl hb).mono ?_⟩
  rintro _ w8 ⟨n9, rfl, ⟨p9, q9⟩, h⟩
  refine ⟨_, rfl, ?_⟩
  refine JoinW.cut1 (fun (n : Int) w' => 1 ≤ n ∧ n ≤ 9 ∧ SH w0 w' (BI mb 0 N0 :: BI ob 0 N0 :: aC cb s :: F)) ?_ ?_
  · refine (s80 h 2 rfl hb).mono ?_
    rintro _ w114 ⟨b115, rfl, h⟩
    refine ⟨_, rfl, BIf.of (fun _ => (s79 h 2 rfl hb).mono ?_) (fun _ => ⟨by rw [w64 (by omega) (by omega)]; omega, by rw [w64 (by omega) (by omega)]; omega, h⟩)⟩
    rintro _ w117 ⟨n118, rfl, ⟨p, q⟩, h⟩
    exact ⟨_, rfl, by rw [w64 (by omega) (by omega)]; omega, by rw [w64 (by omega) (by omega)]; omega, h⟩
  clear h
  rintro (n10 : Int) w12 ⟨hn1, hn9, h⟩
  have h : SH w0 w12 (rS N0 [] :: bS [] :: BI mb 0 N0 :: BI ob 0 N0 :: aC cb s :: F) := (SH.bagNil segA h).nil none 4
  rw [w64 (n := 1 + n6) (by omega) (by omega), w64 (n := 256 * (1 + n6)) (by omega) (by omega)]
  refine LoopW.m2 (fun (va i : Int) w' => ∃ (k : Nat) (l : List RSeg) (ts : Sl) (e : Int), i = k ∧ (k : Int) ≤ n10 ∧ l.length = k ∧ (∀ x, x ∈ l → SegG x) ∧ va % 256 = 0 ∧ 256 ≤ va ∧ va ≤ 10000 + 5000 * k ∧ SH w0 w' (rS ts l :: bS l :: BI mb e ts :: BI ob 0 N0 :: aC cb s :: F)) (fun _ (i : Int) _ => (n10 - i).toNat) ⟨0, [], N0, 0, rfl, by omega, rfl, (fun x hx => by simp at hx), by omega, by omega, by omega, h⟩ ?_
  clear h
  rintro (va : Int) (i : Int) w16 ⟨k, l, ts, e, rfl, hk, hlk, hg, hva, hva1, hva2, h⟩ J hJ
  refine BIf.dec (fun hlt => ?_) (fun hge => ?_)
  · refine h.alloc (fun w17 h e17 n17 => ?_)
    refine (s79 h 5 rfl hb).mono ?_
    rintro _ w19 ⟨n20, rfl, ⟨p20, q20⟩, h⟩
    obtain ⟨n22, hn22⟩ := tab_rd h 0 [5, 3, 1] rfl (i := n20.toNat) (by show n20.toNat < 3; omega)
    refine ⟨_, rfl, p20, by omega, _, rfl, n22, hn22, ?_⟩
    have h := h.drop
    refine h.alloc (fun w23 h e23 n23 => ?_)
    refine h.put 0 rfl rfl rfl (fun w24 h n24 => ?_)
    generalize w19.heap.size = sb at *
    have h : SH w0 w24 (BS sb ⟨va, n22, 0, N0, []⟩ :: rS ts l :: bS l :: BI mb e ts :: BI ob 0 N0 :: aC cb s :: F) := h
    refine JoinW.cut0 (fun w' => ∃ pr : Int, SH w0 w' (BS sb ⟨va, pr, 0, N0, []⟩ :: rS ts l :: bS l :: BI mb e ts :: BI ob 0 N0 :: aC cb s :: F)) (BIf.of (fun _ => h.setV 0 rfl rfl (fun w87 h n87 => ⟨5, h⟩)) (fun _ => ⟨n22, h⟩)) ?_
    clear h
    rintro w26 ⟨pr, h⟩
    refine (s79 h 5 rfl hb).mono ?_
    rintro _ w28 ⟨n29, rfl, ⟨p29, q29⟩, h⟩
    refine ⟨_, rfl, ?_⟩
    refine (s136 h 5 rfl hb (by omega)).mono ?_
    rintro _ w31 ⟨l32, d32, rfl, hd32, h⟩
    refine ⟨l32, rfl, ?_⟩
    refine h.setV 1 rfl rfl (fun w33 h n33 => ?_)
    have h : SH w0 w33 (BS sb ⟨va, pr, 0, l32, d32⟩ :: rD l32 d32 :: rS ts l :: bS l :: BI mb e ts :: BI ob 0 N0 :: aC cb s :: F) := h.p1
    refine JoinW.cut0 (fun w' => ∃ (pr : Int) (t : Sl) (d : List Int), inBy d ∧ d.length ≤ 2000 ∧ SH w0 w' (BS sb ⟨va, pr, 0, t, d⟩ :: rD t d :: rS ts l :: bS l :: BI mb e ts :: BI ob 0 N0 :: aC cb s :: F)) ?_ ?_
    · refine ⟨_, h.cell 0 rfl rfl, BIf.of (fun _ => ?_) (fun _ => ⟨pr, l32, d32, hd32.rng, hd32.few, h⟩)⟩
      refine (s79 h 6 rfl hb).mono ?_
      rintro _ w81 ⟨n82, rfl, ⟨p82, q82⟩, h⟩
      refine ⟨_, rfl, ?_⟩
      rw [w64 (n := 1 + n82) (by omega) (by omega)]
      have h : SH w0 w81 (aC cb s :: BS sb ⟨va, pr, 0, l32, d32⟩ :: rD l32 d32 :: rS ts l :: bS l :: BI mb e ts :: BI ob 0 N0 :: F) := (h.front (n := 6) rfl)
      refine (s137 h hb (by omega) (by omega)).mono ?_
      rintro _ w84 ⟨l85, d85, rfl, hin85, hl85, h⟩
      refine ⟨l85, rfl, ?_⟩
      refine h.setV 2 rfl rfl (fun w86 h n86 => ?_)
      have h : SH w0 w86 (rD l85 d85 :: aC cb s :: BS sb ⟨va, pr, 0, l85, d85⟩ :: rD l32 d32 :: rS ts l :: bS l :: BI mb e ts :: BI ob 0 N0 :: F) := h
      exact ⟨pr, l85, d85, hin85, by omega, (((((((h.dropAt 3).front (n := 6) rfl).front (n := 6) rfl).front (n := 6) rfl).front (n := 6) rfl).front (n := 4) rfl).front (n := 6) rfl)⟩
    clear h
    rintro w35 ⟨pr, t, d, hin, hdl, h⟩
    have htl := h.len 1 rfl
    rw [nums_len] at htl
    have h := h.drew
    refine ⟨t, h.cell 0 rfl rfl, (s79 h 6 rfl hb).mono ?_⟩
    rintro _ w38 ⟨n39, rfl, ⟨p39, q39⟩, h⟩
    refine ⟨_, rfl, by first | rfl | trivial, ⟨t, h.cell 0 rfl rfl, by first | rfl | trivial⟩, (s79 h 6 rfl hb).mono ?_⟩
    rintro _ w42 ⟨n43, rfl, ⟨p43, q43⟩, h⟩
    refine ⟨_, rfl, by first | rfl | trivial, ⟨t, h.cell 0 rfl rfl, by first | rfl | trivial⟩, ?_⟩
    have hm : 0 ≤ n39 * n43 ∧ n39 * n43 ≤ 598 := by
      have h2 : n39 = 0 ∨ n39 = 1 ∨ n39 = 2 := by omega
      rcases h2 with rfl | rfl | rfl <;> omega
    rw [w64 (n := n39 * n43) (by omega) (by omega), w64 (n := (t.len : Int) + n39 * n43) (by omega) (by omega)]
    refine h.setV 0 rfl rfl (fun w45 h n45 => ?_)
    have h : SH w0 w45 (BS sb ⟨va, pr, (t.len : Int) + n39 * n43, t, d⟩ :: rD t d :: rS ts l :: bS l :: BI mb e ts :: BI ob 0 N0 :: aC cb s :: F) := h
    refine JoinW.cut0 (fun w' => ∃ sz : Int, 1 ≤ sz ∧ sz ≤ 2700 ∧ SH w0 w' (BS sb ⟨va, pr, sz, t, d⟩ :: rD t d :: rS ts l :: bS l :: BI mb e ts :: BI ob 0 N0 :: aC cb s :: F)) ?_ ?_
    · refine ⟨_, h.cell 0 rfl rfl, BIf.eq (fun _ => h.setV 0 rfl rfl (fun w78 h n78 => ⟨1, by omega, by omega, h⟩)) (fun hz => ⟨(t.len : Int) + n39 * n43, by have hz : (t.len : Int) + n39 * n43 ≠ 0 := hz; omega, by omega, h⟩)⟩
    clear h
    rintro w47 ⟨sz, hs1, hs2, h⟩
    refine JoinW.cut0 (fun w' => ∃ e2 : Int, SH w0 w' (BS sb ⟨va, pr, sz, t, d⟩ :: rD t d :: rS ts l :: bS l :: BI mb e2 ts :: BI ob 0 N0 :: aC cb s :: F)) ?_ ?_
    · refine BIf.of (fun _ => ⟨_, h.cell 0 rfl rfl, by decide, (s79 h 6 rfl hb).mono ?_⟩) (fun _ => ⟨e, h⟩)
      rintro _ w74 ⟨n75, rfl, _, h⟩
      exact ⟨_, rfl, h.setV 4 rfl rfl (fun w76 h n76 => ⟨_, h⟩)⟩
    clear h
    rintro w49 ⟨e2, h⟩
    refine ⟨ts, h.cell 4 rfl rfl, _, h.cell 0 rfl rfl, _, h.cell 0 rfl rfl, _, h.cell 0 rfl rfl, t, h.cell 0 rfl rfl, ?_⟩
    have h : SH w0 w49 (rS ts l :: segA ⟨va, pr, sz, t, d⟩ :: bS l :: BS sb ⟨va, pr, sz, t, d⟩ :: BI mb e2 ts :: BI ob 0 N0 :: aC cb s :: F) := (((h.front (n := 3) rfl).front (n := 2) rfl).front (n := 3) rfl)
    refine LetW_iff.2 (SH.appendR1 (f := RSeg.cells) (x := ⟨va, pr, sz, t, d⟩) h rfl rfl rfl (by decide) (by show (_ + _) * 48 ≤ _; omega) (plain_seg _) (fun l56 w57 h hl56 _ => ?_))
    refine h.setV 4 rfl rfl (fun w58 h n58 => ?_)
    refine ⟨_, h.cell 3 rfl rfl, ?_⟩
    rw [w64 (n := va + sz) (by omega) (by omega)]
    refine (s72 (by omega) (by omega)).mono ?_
    rintro _ w61 ⟨rfl, rfl⟩
    have hpg : pagesF (va + sz) ≤ va + sz + 255 ∧ va + 256 ≤ pagesF (va + sz) ∧ pagesF (va + sz) % 256 = 0 := by unfold pagesF; omega
    refine ⟨_, rfl, (s79 h 6 rfl hb).mono ?_⟩
    rintro _ w64_ ⟨n65, rfl, ⟨p65, q65⟩, h⟩
    refine ⟨_, rfl, (s79 h 6 rfl hb).mono ?_⟩
    rintro _ w67 ⟨n68, rfl, ⟨p68, q68⟩, h⟩
    refine ⟨_, rfl, (s80 h 6 rfl hb).mono ?_⟩
    rintro _ w70 ⟨b71, rfl, h⟩
    have hq : ∃ z, 256 * n65 * n68 = 256 * z ∧ 0 ≤ z ∧ z ≤ 7 := by
      have h2 : n65 = 0 ∨ n65 = 1 := by omega
      rcases h2 with rfl | rfl
      · exact ⟨0, by omega, by omega, by omega⟩
      · exact ⟨n68, by omega, by omega, by omega⟩
    obtain ⟨z, hz, hz0, hz7⟩ := hq
    have h := SH.bagSnoc (f := segA) (x := (⟨va, pr, sz, t, d⟩ : RSeg)) ((((h.dropAt 3).front (n := 2) rfl).front (n := 2) rfl))
    have h : SH w0 w70 (rS l56 (l ++ [⟨va, pr, sz, t, d⟩]) :: bS (l ++ [⟨va, pr, sz, t, d⟩]) :: BI mb e2 l56 :: BI ob 0 N0 :: aC cb s :: F) := h.p1
    have hg2 : ∀ x, x ∈ l ++ [(⟨va, pr, sz, t, d⟩ : RSeg)] → SegG x := fun x hx => by
      rcases List.mem_append.1 hx with hx | hx
      · exact hg x hx
      · rw [List.mem_singleton.1 hx]; exact ⟨hin, hdl, hs1, hs2⟩
    rw [w64 (n := 256 * n65) (by omega) (by omega), hz, w64 (n := 256 * z) (by omega) (by omega), w64 (n := pagesF (va + sz) + 256 * z) (by omega) (by omega), w64 (n := pagesF (va + sz) + 256 * z - 256) (by omega) (by omega), w64 (n := (k : Int) + 1) (by omega) (by omega)]
    refine ⟨_, rfl, BIf.of (fun _ => ?_) (fun _ => ?_)⟩
    · exact hJ _ _ _ ⟨k + 1, _, l56, e2, by omega, by omega, by rw [List.length_append, hlk]; rfl, hg2, by omega, by omega, by omega, h⟩ (by omega)
    · exact hJ _ _ _ ⟨k + 1, _, l56, e2, by omega, by omega, by rw [List.length_append, hlk]; rfl, hg2, by omega, by omega, by omega, h⟩ (by omega)
  · have hln : (l.length : Int) = n10 := by omega
    clear hJ J
    have htl := h.len 0 rfl
    rw [recs_len] at htl
    refine JoinW.cut0 (fun w' => ∃ l2 : List RSeg, l2.length = l.length ∧ (∀ x, x ∈ l2 → SegG x) ∧ SH w0 w' (rS ts l2 :: bS l2 :: BI mb e ts :: BI ob 0 N0 :: aC cb s :: F)) ?_ ?_
    · refine (s80 h 4 rfl hb).mono ?_
      rintro _ w96 ⟨b97, rfl, h⟩
      refine ⟨_, rfl, BIf.of (fun _ => ?_) (fun _ => ⟨l, rfl, hg, h⟩)⟩
      have hidx : IntKind.i64.wrap ((ts.len : Int) - 1) = ((l.length - 1 : Nat) : Int) := by rw [w64 (by omega) (by omega)]; omega
      have hx : l[l.length - 1]? = some l[l.length - 1] := List.getElem?_eq_getElem (by omega)
      generalize l[l.length - 1] = x at hx
      have hgx := hg x (List.mem_of_getElem? hx)
      have g1 := hgx.s1
      have g2 := hgx.s2
      have hi := (List.getElem?_eq_some_iff.1 hx).1
      refine ⟨ts, h.cell 2 rfl rfl, ?_⟩
      simp only [hidx, Int.toNat_natCast]
      have h := h.drew
      obtain ⟨q, hq⟩ := h.rowQ 0 rfl hx
      refine ⟨ts, h.cell 2 rfl rfl, ts, h.cell 2 rfl rfl, by omega, by omega, q, hq, _, h.rdR 0 rfl hq hx rfl, (s72 (by omega) (by omega)).mono ?_⟩
      rintro _ w104 ⟨rfl, rfl⟩
      refine ⟨_, rfl, ⟨ts, h.cell 2 rfl rfl, by first | rfl | trivial⟩, (s79 h 4 rfl hb).mono ?_⟩
      rintro _ w108 ⟨n109, rfl, _, h⟩
      refine ⟨_, rfl, ⟨ts, h.cell 2 rfl rfl, by first | rfl | trivial⟩, by omega, by omega, q, hq, ?_⟩
      have h : SH w0 w108 (rS ts (l.set (l.length - 1) x) :: bS l :: BI mb e ts :: BI ob 0 N0 :: aC cb s :: F) := by rw [Cc.set_id hx]; exact h
      refine h.setR 0 (k := l.length - 1) (x := x) ⟨_, x.Prot, x.Size, x.D, x.Data⟩ rfl hq hi (by show 0 < 4; decide) rfl (fun w112 h n112 => ?_)
      have h := SH.bagOut h.p1 hx
      have h := SH.bagIn (f := segA) (x := x) (y := ⟨IntKind.i64.wrap (IntKind.i64.wrap (4194304 - pagesF x.Size) + IntKind.i64.wrap (256 * n109)), x.Prot, x.Size, x.D, x.Data⟩) hx h
      refine ⟨_, List.length_set, fun y hy => ?_, h.p1⟩
      rcases List.mem_or_eq_of_mem_set hy with hy | rfl
      · exact hg y hy
      · exact ⟨hgx.by_, hgx.len, hgx.s1, hgx.s2⟩
    clear h
    rintro w89 ⟨l2, hl2, hg2, h⟩
    refine ⟨_, h.cell 2 rfl rfl, ts, h.cell 2 rfl rfl, ?_⟩
    refine h.put 3 rfl rfl rfl (fun w92 h n92 => ?_)
    refine ⟨_, h.cell 3 rfl rfl, ts, h.cell 3 rfl rfl, ?_⟩
    exact ⟨e, ts, l2, rfl, by omega, by omega, hg2, (((h.dropAt 3).dropAt 2).front (n := 2) rfl)⟩
end Go.Proofs.Ytenhcpjlkmbedaa

/- Draws: an image, perhaps spoilt. Conditions: none. -/
set_option linter.unusedVariables false
set_option linter.unusedSimpArgs false
namespace Go.Proofs.Ytenhcpjlkmbedaa
open Go Go.Den
structure SegH (x : RSeg) : Prop where
  by_ : inBy x.Data
  len : x.Data.length ≤ 5000
theorem SegG.h {x : RSeg} (h : SegG x) : SegH x := ⟨h.by_, by have := h.len; omega⟩
set_option maxRecDepth 4000 in
set_option maxHeartbeats 4000000 in
theorem s131 {w0 w : World} {F : List Asr} {cb : Nat} {s ts : Sl} {e : Int} {l : List RSeg} (h : SH w0 w (aC cb s :: rS ts l :: bS l :: F)) (hb : CurB w0 s) (h1 : 1 ≤ l.length) (h9 : l.length ≤ 9) (hg : ∀ x, x ∈ l → SegG x) :
    CallW Try.prog 131 #[.pointer (some ⟨cb, 0, none⟩), iV e ts] w (fun v w' => ∃ (e : Int) (t : Sl) (l : List RSeg), v = iV e t ∧ l.length ≤ 9 ∧ (∀ x, x ∈ l → SegH x) ∧ SH w0 w' (aC cb s :: rS t l :: bS l :: F)) := by
  refine go131 (a0 := some ⟨cb, 0, none⟩) (a1_0 := e) (a1_1 := ts) ?_
  unfold W131
  have htl := h.len 1 rfl
  rw [recs_len] at htl
  have htc := h.lenCap 1 rfl
  refine h.alloc (fun w1 h e1 n1 => ?_)
  refine h.alloc (fun w2 h e2 n2 => ?_)
  generalize w.heap.size = mb at *
  generalize w1.heap.size = ob at *
  have h : SH w0 w2 (BI ob 0 N0 :: BI mb e ts :: aC cb s :: rS ts l :: bS l :: F) := h
  refine ⟨ts, h.cell 1 rfl rfl, (s79 h 2 rfl hb).mono ?_⟩
  rintro _ w5 ⟨n6, rfl, ⟨p6, q6⟩, h⟩
  refine ⟨_, rfl, ?_⟩
  refine h.alloc (fun w7 h e7 n7 => ?_)
  refine (s79 h 3 rfl hb).mono ?_
  rintro _ w9 ⟨n10, rfl, ⟨p10, q10⟩, h⟩
  obtain ⟨n12, hn12⟩ := tab_rd h 0 [0, -1, 1, 255, 256, 65536, 65537, 4194304, 4194048, 7, 2, 4611686018427387904] rfl (i := n10.toNat) (by show n10.toNat < 12; omega)
  refine ⟨_, rfl, p10, by omega, _, rfl, n12, hn12, ?_⟩
  have h := h.drop
  obtain ⟨i, rfl⟩ := Int.eq_ofNat_of_zero_le p6
  have hx : l[i]? = some l[i] := List.getElem?_eq_getElem (by omega)
  generalize l[i] = x at hx
  have hi := (List.getElem?_eq_some_iff.1 hx).1
  have gx := hg x (List.mem_of_getElem? hx)
  have gx1 := gx.s1
  have gx2 := gx.s2
  have gx3 := gx.len
  simp only [Int.toNat_natCast]
  have hgh : ∀ x, x ∈ l → SegH x := fun x hx => (hg x hx).h
  have upd : ∀ {w' : World} (y : RSeg), y.D = x.D → y.Data = x.Data → SH w0 w' (BI ob 0 N0 :: BI mb e ts :: aC cb s :: rS ts (l.set i y) :: bS l :: F) → ∃ (e : Int) (t : Sl) (l : List RSeg), l.length ≤ 9 ∧ (∀ x, x ∈ l → SegH x) ∧ SH w0 w' (BI ob 0 N0 :: BI mb e t :: aC cb s :: rS t l :: bS l :: F) := fun {w'} y hD hd h => by
    have h := SH.bagOut ((h.front (n := 4) rfl)) hx
    have e2 : segA x = segA y := by unfold segA; rw [hD, hd]
    rw [e2] at h
    have h := SH.bagIn (f := segA) (x := x) (y := y) hx h
    refine ⟨e, ts, l.set i y, by rw [List.length_set]; exact h9, fun z hz => ?_, ((((h.front (n := 4) rfl).front (n := 4) rfl).front (n := 4) rfl).front (n := 4) rfl)⟩
    rcases List.mem_or_eq_of_mem_set hz with hz | rfl
    · exact hgh z hz
    · exact ⟨by rw [hd]; exact gx.by_, by rw [hd]; omega⟩
  refine JoinW.cut0 (fun w' => ∃ (e : Int) (t : Sl) (l : List RSeg), l.length ≤ 9 ∧ (∀ x, x ∈ l → SegH x) ∧ SH w0 w' (BI ob 0 N0 :: BI mb e t :: aC cb s :: rS t l :: bS l :: F)) ?_ ?_
  · refine (s79 h 2 rfl hb).mono ?_
    rintro _ w21 ⟨n22, rfl, _, h⟩
    obtain ⟨q, hq⟩ := h.rowQ 3 rfl hx
    have hs : SH w0 w21 (BI ob 0 N0 :: BI mb e ts :: aC cb s :: rS ts (l.set i x) :: bS l :: F) := by rw [Cc.set_id hx]; exact h
    refine ⟨_, rfl, BIf.of (fun _ => ?_) (fun _ => BIf.of (fun _ => ?_) (fun _ => BIf.of (fun _ => ?_) (fun _ => BIf.of (fun _ => ?_) (fun _ => BIf.of (fun _ => ?_) (fun _ => BIf.of (fun _ => ?_) (fun _ => BIf.of (fun _ => ?_) (fun _ => ⟨e, ts, l, h9, hgh, h⟩)))))))⟩
    · exact h.setV 1 rfl rfl (fun w23 h n23 => ⟨n12, ts, l, h9, hgh, h⟩)
    · exact ⟨ts, h.cell 1 rfl rfl, by omega, by omega, q, hq, hs.setR 3 (k := i) (x := x) ⟨n12, x.Prot, x.Size, x.D, x.Data⟩ rfl hq hi (by show 0 < 4; decide) rfl (fun w26 h n26 => upd ⟨n12, x.Prot, x.Size, x.D, x.Data⟩ rfl rfl h)⟩
    · exact ⟨ts, h.cell 1 rfl rfl, by omega, by omega, q, hq, hs.setR 3 (k := i) (x := x) ⟨x.Va, x.Prot, n12, x.D, x.Data⟩ rfl hq hi (by show 2 < 4; decide) rfl (fun w26 h n26 => upd ⟨x.Va, x.Prot, n12, x.D, x.Data⟩ rfl rfl h)⟩
    · exact ⟨ts, h.cell 1 rfl rfl, by omega, by omega, q, hq, hs.setR 3 (k := i) (x := x) ⟨x.Va, n12, x.Size, x.D, x.Data⟩ rfl hq hi (by show 1 < 4; decide) rfl (fun w26 h n26 => upd ⟨x.Va, n12, x.Size, x.D, x.Data⟩ rfl rfl h)⟩
    · have h := h.drew
      refine ⟨ts, h.cell 1 rfl rfl, ts, h.cell 1 rfl rfl, by omega, by omega, q, hq, x.D, h.rdR 3 rfl hq hx rfl, ts, h.cell 1 rfl rfl, by omega, by omega, q, hq, _, h.rdR 3 rfl hq hx rfl, ?_⟩
      have h := SH.bagOut ((h.front (n := 4) rfl)) hx
      have h : SH w0 w21.drew (rD x.D x.Data :: bS (l.eraseIdx i) :: BI ob 0 N0 :: BI mb e ts :: aC cb s :: rS ts l :: F) := h
      refine SH.appendZ h (by omega) rfl rfl (by decide) (by rw [nums_len]; show (_ + _) * 1 ≤ _; omega) (by decide) (fun u w41 h hu _ => ?_)
      have hz0 : List.replicate x.Size.toNat (ti5.zero.map Ce.v) = nums .u8 (List.replicate x.Size.toNat 0) := zeroD _
      rw [hz0, ← nums_app] at h
      have h : SH w0 w41 (rD u (x.Data ++ List.replicate x.Size.toNat 0) :: bS (l.eraseIdx i) :: BI ob 0 N0 :: BI mb e ts :: aC cb s :: rS ts (l.set i x) :: F) := by rw [Cc.set_id hx]; exact h
      refine ⟨⟨ts, h.cell 3 rfl rfl, by first | rfl | trivial⟩, by omega, by omega, q, hq, h.setR 5 (k := i) (x := x) ⟨x.Va, x.Prot, x.Size, u, x.Data ++ List.replicate x.Size.toNat 0⟩ rfl hq hi (by show 3 < 4; decide) rfl (fun w44 h n44 => ?_)⟩
      have h := SH.bagIn (f := segA) (x := x) (y := ⟨x.Va, x.Prot, x.Size, u, x.Data ++ List.replicate x.Size.toNat 0⟩) hx h
      refine ⟨e, ts, l.set i ⟨x.Va, x.Prot, x.Size, u, x.Data ++ List.replicate x.Size.toNat 0⟩, by rw [List.length_set]; exact h9, fun z hz => ?_, ((((h.front (n := 4) rfl).front (n := 4) rfl).front (n := 4) rfl).front (n := 4) rfl)⟩
      rcases List.mem_or_eq_of_mem_set hz with hz | rfl
      · exact hgh z hz
      · exact ⟨inBy_app gx.by_ (fun y hy => by rw [(List.mem_replicate.1 hy).2]; omega), by show (x.Data ++ List.replicate x.Size.toNat 0).length ≤ 5000; rw [List.length_append, List.length_replicate]; omega⟩
    · refine ⟨ts, h.cell 1 rfl rfl, by omega, by omega, ?_⟩
      have e3 : cutA ts.a ts.cap (Int.toNat 0) 4 = ts.a := cutA_z _ _ _
      rw [e3]
      refine h.setV 1 rfl rfl (fun w46 h n46 => ?_)
      have h : SH w0 w46 (rS ts (l.take i ++ l.drop i) :: BI ob 0 N0 :: BI mb e ⟨ts.a, i, ts.cap⟩ :: aC cb s :: bS (l.take i ++ l.drop i) :: F) := by
        rw [List.take_append_drop]; exact (h.front (n := 3) rfl)
      have h := SH.shrinkR (f := RSeg.cells) (fun _ => rfl) h
      have e4 : (l.take i).length = i := by rw [List.length_take]; omega
      rw [e4] at h
      have h := SH.bagSplit ((h.front (n := 4) rfl))
      refine ⟨e, ⟨ts.a, i, ts.cap⟩, l.take i, by omega, fun z hz => hgh z (List.mem_of_mem_take hz), (((((h.dropAt 1).front (n := 1) rfl).front (n := 4) rfl).front (n := 4) rfl).front (n := 4) rfl)⟩
    · have h := h.drew
      refine ⟨_, h.cell 1 rfl rfl, (s79 h 2 rfl hb).mono ?_⟩
      rintro _ w49 ⟨n50, rfl, _, h⟩
      exact ⟨_, rfl, ⟨_, h.cell 1 rfl rfl, by first | rfl | trivial⟩, h.setV 1 rfl rfl (fun w52 h n52 => ⟨_, ts, l, h9, hgh, h⟩)⟩
  clear h upd
  rintro w14 ⟨e2, t2, l2, h92, hg2, h⟩
  refine ⟨_, h.cell 1 rfl rfl, t2, h.cell 1 rfl rfl, ?_⟩
  refine h.put 0 rfl rfl rfl (fun w17 h n17 => ?_)
  refine ⟨_, h.cell 0 rfl rfl, t2, h.cell 0 rfl rfl, ?_⟩
  exact ⟨e2, t2, l2, rfl, h92, hg2, h.drop.drop⟩
set_option maxHeartbeats 2000000 in
theorem s67 {w0 w : World} {F : List Asr} {cb : Nat} {s : Sl} (h : SH w0 w (aC cb s :: F)) (hb : CurB w0 s) :
    CallW Try.prog 67 #[.pointer (some ⟨cb, 0, none⟩)] w (fun v w' => ∃ (e : Int) (t : Sl) (l : List RSeg), v = iV e t ∧ l.length ≤ 9 ∧ (∀ x, x ∈ l → SegH x) ∧ SH w0 w' (aC cb s :: rS t l :: bS l :: F)) := by
  refine go67 ?_
  unfold W67
  refine h.alloc (fun w1 h e1 n1 => ?_)
  generalize w.heap.size = ob at *
  have h : SH w0 w1 (aC cb s :: BI ob 0 N0 :: F) := h.p1
  refine (s78 h hb).mono ?_
  rintro _ w3 ⟨e, ts, l, rfl, hl1, hl9, hg, h⟩
  refine ⟨_, ts, rfl, ?_⟩
  refine h.alloc (fun w6 h e6 n6 => ?_)
  refine h.put 0 rfl rfl rfl (fun w7 h n7 => ?_)
  generalize w3.heap.size = mb at *
  have h : SH w0 w7 (BI mb e ts :: aC cb s :: rS ts l :: bS l :: BI ob 0 N0 :: F) := h
  refine JoinW.cut0 (fun w' => ∃ (e : Int) (t : Sl) (l : List RSeg), l.length ≤ 9 ∧ (∀ x, x ∈ l → SegH x) ∧ SH w0 w' (BI mb e t :: aC cb s :: rS t l :: bS l :: BI ob 0 N0 :: F)) ?_ ?_
  · refine (s80 h 1 rfl hb).mono ?_
    rintro _ w16 ⟨b17, rfl, h⟩
    refine ⟨_, rfl, BIf.of (fun _ => ?_) (fun _ => ⟨e, ts, l, hl9, fun x hx => (hg x hx).h, h⟩)⟩
    refine ⟨_, h.cell 0 rfl rfl, ts, h.cell 0 rfl rfl, (s131 (F := BI mb e ts :: BI ob 0 N0 :: F) ((((h.front (n := 3) rfl).front (n := 3) rfl).front (n := 3) rfl)) hb hl1 hl9 hg).mono ?_⟩
    rintro _ w21 ⟨e2, t2, l2, rfl, h92, hg2, h⟩
    refine ⟨_, t2, rfl, h.put 3 rfl rfl rfl (fun w24 h n24 => ?_)⟩
    exact ⟨e2, t2, l2, h92, hg2, (h.front (n := 3) rfl)⟩
  clear h
  rintro w9 ⟨e2, t2, l2, h92, hg2, h⟩
  refine ⟨_, h.cell 0 rfl rfl, t2, h.cell 0 rfl rfl, ?_⟩
  refine h.put 4 rfl rfl rfl (fun w12 h n12 => ?_)
  refine ⟨_, h.cell 4 rfl rfl, t2, h.cell 4 rfl rfl, ?_⟩
  exact ⟨e2, t2, l2, rfl, h92, hg2, ((h.dropAt 4).dropAt 0)⟩
theorem s20 {w0 w : World} {F : List Asr} {s : Sl} (h : SH w0 w F) (hb : CurB w0 s) :
    CallW Try.prog 20 #[.slice s.a s.len s.cap] w (fun v w' => ∃ (e : Int) (t : Sl) (l : List RSeg), v = iV e t ∧ l.length ≤ 9 ∧ (∀ x, x ∈ l → SegH x) ∧ SH w0 w' (rS t l :: bS l :: F)) := by
  refine go20 ?_
  unfold W20
  refine h.alloc (fun w1 h e1 n1 => ?_)
  generalize w.heap.size = ob at *
  refine (s66 h hb).mono ?_
  rintro _ w3 ⟨cb, rfl, h⟩
  refine ⟨_, rfl, (s67 h hb).mono ?_⟩
  rintro _ w6 ⟨e, t, l, rfl, hl9, hg, h⟩
  refine ⟨_, t, rfl, ?_⟩
  refine h.put 3 rfl rfl rfl (fun w9 h n9 => ?_)
  refine ⟨_, h.cell 3 rfl rfl, t, h.cell 3 rfl rfl, ?_⟩
  exact ⟨e, t, l, rfl, hl9, hg, ((h.dropAt 3).dropAt 0)⟩
end Go.Proofs.Ytenhcpjlkmbedaa

/- Draws: bytes that may be an image. Conditions: none. -/
set_option linter.unusedVariables false
set_option linter.unusedSimpArgs false
namespace Go.Proofs.Ytenhcpjlkmbedaa
open Go Go.Den
theorem shrinkD {w0 w : World} {F : List Asr} {t : Sl} {a : List Int} {n : Nat} (h : SH w0 w (rD t a :: F)) (hn : n ≤ a.length) : SH w0 w (rD ⟨t.a, n, t.cap⟩ (a.take n) :: F) := by
  have h : SH w0 w (aRow t 1 (recs (fun x => [Value.int .u8 x]) (a.take n ++ a.drop n)) :: F) := by rw [List.take_append_drop]; exact h
  have h := SH.shrinkR (f := fun x => [Value.int .u8 x]) (fun _ => rfl) h
  rw [show (a.take n).length = n by rw [List.length_take]; omega] at h
  exact h
theorem inBy_set {l : List Int} {i : Nat} {y : Int} (h : inBy l) (hy : 0 ≤ y ∧ y ≤ 255) : inBy (l.set i y) := fun x hx => by
  rcases List.mem_or_eq_of_mem_set hx with hx | rfl
  · exact h x hx
  · exact hy
set_option maxRecDepth 4000 in
set_option maxHeartbeats 4000000 in
theorem s25 {w0 w : World} {F : List Asr} {s : Sl} (h : SH w0 w F) (hb : CurB w0 s) :
    CallW Try.prog 25 #[.slice s.a s.len s.cap] w (fun v w' => ∃ (t : Sl) (b : List Int), v = .slice t.a t.len t.cap ∧ inBy b ∧ b.length ≤ 1000000 ∧ SH w0 w' (rD t b :: F)) := by
  refine go25 ?_
  unfold W25
  refine (s66 h hb).mono ?_
  rintro _ w2 ⟨cb, rfl, h⟩
  refine ⟨_, rfl, (s78 h hb).mono ?_⟩
  rintro _ w5 ⟨e, ts, l, rfl, hl1, hl9, hg, h⟩
  refine ⟨_, ts, rfl, ?_⟩
  have hby : ∀ x, x ∈ l → inBy x.Data ∧ x.Data.length ≤ 1099511627776 := fun x hx => ⟨(hg x hx).by_, by have := (hg x hx).len; omega⟩
  refine (s77 (lentI_of h 1 2 rfl rfl (by omega) hby)).mono ?_
  rintro _ w9 ⟨l10, rfl, g⟩
  have h := h.seq g
  refine ⟨l10, _, rfl, ?_⟩
  refine BIf.of (fun hc => ?_) (fun hc => ?_)
  · have hi : ¬ imgB ⟨e, l.map RSeg.abs⟩ = true := by simpa using hc
    rw [if_neg hi] at h
    exact ⟨l10, [], rfl, (fun x hx => by simp at hx), by simp, ((h.dropAt 3).dropAt 2).dropAt 1⟩
  have hi : imgB ⟨e, l.map RSeg.abs⟩ = true := by simpa using hc
  rw [if_pos hi] at h
  obtain ⟨⟨hn8, hok⟩, he0, he1⟩ := few_of hi
  have hdf := datas_few l hok
  have hpk := pack_len ⟨e, l.map RSeg.abs⟩
  have hbd := body_len ⟨e, l.map RSeg.abs⟩
  have hll : (IImg.mk e (l.map RSeg.abs)).Segs = l.map RSeg.abs := rfl
  rw [hll, List.length_map] at hbd
  have hin : inBy (packF ⟨e, l.map RSeg.abs⟩) := inBy_app (inBy_body (fun s hs => by
    obtain ⟨x, hx, rfl⟩ := List.mem_map.1 hs
    exact (hby x hx).1)) (inBy_le _ _)
  generalize packF ⟨e, l.map RSeg.abs⟩ = b at *
  have hbl : 20 ≤ b.length ∧ b.length ≤ 600000 := by omega
  clear hpk hbd hdf
  have h : SH w0 w9 (rD l10 b :: aC cb s :: F) := (h.dropAt 3).dropAt 2
  have hl10 := h.len 0 rfl
  rw [nums_len] at hl10
  have hcap := h.lenCap 0 rfl
  refine (s79 h 1 rfl hb).mono ?_
  rintro _ w13 ⟨n14, rfl, _, h⟩
  refine ⟨_, rfl, (s79 h 1 rfl hb).mono ?_⟩
  rintro _ w16 ⟨n17, rfl, ⟨p17, q17⟩, h⟩
  refine ⟨_, rfl, ?_⟩
  refine JoinW.cut1 (fun (n : Int) w' => 0 ≤ n ∧ n < b.length ∧ SH w0 w' (rD l10 b :: aC cb s :: F)) ?_ ?_
  · refine (s80 h 1 rfl hb).mono ?_
    rintro _ w55 ⟨b56, rfl, h⟩
    refine ⟨_, rfl, BIf.of (fun _ => (s79 h 1 rfl hb).mono ?_) (fun _ => ⟨by omega, by omega, h⟩)⟩
    rintro _ w58 ⟨n59, rfl, ⟨p59, q59⟩, h⟩
    refine ⟨_, rfl, by omega, ?_⟩
    rw [Int.tmod_eq_emod_of_nonneg p59]
    exact ⟨Int.emod_nonneg _ (by omega), by have := Int.emod_lt_of_pos n59 (show (0 : Int) < (l10.len : Int) by omega); omega, h⟩
  clear h
  rintro (n18 : Int) w20 ⟨p18, q18, h⟩
  refine (s79 h 1 rfl hb).mono ?_
  rintro _ w22 ⟨n23, rfl, _, h⟩
  refine ⟨_, rfl, (s80 h 1 rfl hb).mono ?_⟩
  rintro _ w25 ⟨b26, rfl, h⟩
  refine ⟨_, rfl, ?_⟩
  obtain ⟨i, rfl⟩ := Int.eq_ofNat_of_zero_le p18
  have hset : ∀ {w : World} {j : Nat} {y : Int} {K : World → Prop}, SH w0 w (rD l10 b :: aC cb s :: F) → j < b.length → (∀ w', SH w0 w' (rD l10 (b.set j y) :: aC cb s :: F) → K w') → ∃ q, l10.a = some q ∧ May w (q.add (j * 1)) ∧ LetW (w.setCell (q.add (j * 1)) (.int .u8 y)) K := fun {w j y K} h hj hk => by
    obtain ⟨z, hz⟩ : ∃ z, b[j]? = some z := ⟨_, List.getElem?_eq_getElem hj⟩
    obtain ⟨q, hq, _⟩ := h.elem0 0 rfl (nums_get hz) rfl
    refine ⟨q, hq, h.setE0 0 rfl hq (nums_get hz) rfl (fun w2 h n2 => hk w2 ?_)⟩
    have h : SH w0 w2 (aRow l10 1 ((nums .u8 b).set j ([Ce.v (.int .u8 z)].set 0 (.v (.int .u8 y)))) :: aC cb s :: F) := h
    rw [nums_set hz] at h
    exact h
  refine JoinW.cut1 (fun (t : Sl) w' => ∃ b2 : List Int, inBy b2 ∧ b2.length ≤ 700000 ∧ SH w0 w' (rD t b2 :: aC cb s :: F)) ?_ ?_
  · refine JoinW.cut1 (fun (c : Bool) w' => w' = w25) (BIf.of (fun _ => rfl) (fun _ => rfl)) ?_
    rintro (c : Bool) w43 rfl
    simp only [Int.toNat_natCast]
    refine BIf.of (fun _ => ?_) (fun _ => BIf.of (fun _ => ?_) (fun _ => BIf.of (fun _ => ?_) (fun _ => BIf.of (fun _ => ?_) (fun _ => ?_))))
    · refine ⟨by omega, by omega, ?_⟩
      obtain ⟨q, hq, hm⟩ := hset (j := i) (y := IntKind.u8.wrap n23) h (by omega) (fun w' h => (⟨b.set i (IntKind.u8.wrap n23), inBy_set hin (u8_rng _), by rw [List.length_set]; omega, h⟩ : ∃ b2 : List Int, inBy b2 ∧ b2.length ≤ 700000 ∧ SH w0 w' (rD l10 b2 :: aC cb s :: F)))
      exact ⟨q, hq, hm⟩
    · refine ⟨by omega, by omega, b.take i, fun x hx => hin x (List.mem_of_mem_take hx), by rw [List.length_take]; omega, ?_⟩
      have e3 : cutA l10.a l10.cap (Int.toNat 0) 1 = l10.a := cutA_z _ _ _
      rw [e3]
      exact shrinkD h (by omega)
    · refine LetW_iff.2 (SH.appendN1 h rfl rfl (by decide) (by show _ * 1 ≤ _; omega) (fun t2 w48 h hl2 _ => ?_))
      exact ⟨b ++ [IntKind.u8.wrap n23], inBy_snoc hin (u8_rng _), by rw [List.length_append, List.length_singleton]; omega, h⟩
    · refine (s79 h 1 rfl hb).mono ?_
      rintro _ w50 ⟨n51, rfl, _, h⟩
      refine ⟨_, rfl, by omega, by omega, ?_⟩
      obtain ⟨q, hq, hm⟩ := hset (j := 5) (y := IntKind.u8.wrap n51) h (by omega) (fun w' h => (⟨b.set 5 (IntKind.u8.wrap n51), inBy_set hin (u8_rng _), by rw [List.length_set]; omega, h⟩ : ∃ b2 : List Int, inBy b2 ∧ b2.length ≤ 700000 ∧ SH w0 w' (rD l10 b2 :: aC cb s :: F)))
      exact ⟨q, hq, hm⟩
    · exact ⟨l10, b, rfl, hin, by omega, h.dropAt 1⟩
  clear h hset
  rintro (l27 : Sl) w29 ⟨b2, hin2, hl2, h⟩
  have hl27 := h.len 0 rfl
  rw [nums_len] at hl27
  have hcap27 := h.lenCap 0 rfl
  refine JoinW.cut1 (fun (c : Bool) w' => (c = true → 4 ≤ b2.length) ∧ w' = w29) (BIf.of (fun _ => ⟨fun hh => by have := of_decide_eq_true hh; omega, rfl⟩) (fun _ => ⟨(fun hh => by cases hh), rfl⟩)) ?_
  rintro (c : Bool) w32 ⟨hc4, rfl⟩
  refine BIf.of (fun ht => ?_) (fun _ => ⟨l27, b2, rfl, hin2, by omega, h.dropAt 1⟩)
  have h4 := hc4 ht
  obtain ⟨L, hL⟩ : ∃ L, L = b2.length - 4 := ⟨_, rfl⟩
  rw [w64 (n := (l27.len : Int) - 4) (by omega) (by omega), show (l27.len : Int) - 4 = (L : Int) by omega, Int.toNat_natCast, show L - Int.toNat 0 = L by simp, show l27.cap - Int.toNat 0 = l27.cap by simp]
  have e3 : cutA l27.a l27.cap (Int.toNat 0) 1 = l27.a := cutA_z _ _ _
  rw [e3]
  have h := shrinkD h.drew (n := L) (by omega)
  have hinL : inBy (b2.take L) := fun x hx => hin2 x (List.mem_of_mem_take hx)
  have hcr := crc32 hinL
  have hby2 := SH.byAt (s := ⟨l27.a, L, l27.cap⟩) h 0 rfl hinL (by rw [List.length_take]; omega)
  refine ⟨by omega, by omega, by omega, by omega, (c82 (s := ⟨l27.a, L, l27.cap⟩) ⟨hby2.len, hby2.cap, hby2.row, hby2.rng, hby2.small⟩).mono ?_⟩
  rintro _ w34 ⟨rfl, rfl⟩
  refine ⟨_, rfl, ?_⟩
  rw [w64 (n := crc (b2.take L)) (by omega) (by omega)]
  refine (s81 (n := 4) (by omega) hcr.1 (by omega)).mono ?_
  rintro _ w37 ⟨l38, rfl, g⟩
  have h := h.seq g
  refine ⟨l38, rfl, ?_⟩
  refine SH.appendN (s := ⟨l27.a, L, l27.cap⟩) (us := le (crc (b2.take L)) 4) h.p1 (h.rowN 0 rfl) rfl rfl (by decide) (by show (_ + _) * 1 ≤ _; rw [le_len, List.length_take]; omega) (fun l39 w40 h hl39 _ => ?_)
  exact ⟨l39, b2.take L ++ le (crc (b2.take L)) 4, rfl, inBy_app hinL (inBy_le _ _), by rw [List.length_append, le_len, List.length_take]; omega, (h.dropAt 2).dropAt 1⟩
end Go.Proofs.Ytenhcpjlkmbedaa

/- FnImageBack: the law's walk. Conditions: none. -/
set_option linter.unusedVariables false
set_option linter.unusedSimpArgs false
namespace Go.Proofs.Ytenhcpjlkmbedaa
open Go Go.Den
theorem s27b {w : World} {t u : Sl} {l : List Int} (hr : RowAt w t.a t.len (l.map (Value.int .u8))) (hu : RowAt w u.a u.len (l.map (Value.int .u8))) (hl : l.length ≤ 1099511627776) : CallW Try.prog 27 #[.slice t.a t.len t.cap, .slice u.a u.len u.cap] w (fun v w' => v = .bool true ∧ Ext w w') := by
  refine go27 ?_
  unfold W27
  have h1 : l.length = t.len := by have := hr.1; simpa using this
  have h2 : l.length = u.len := by have := hu.1; simpa using this
  refine BIf.ne (fun hc => absurd (by omega) hc) (fun _ => ?_)
  refine LoopW.m1 (fun (i : Int) w' => ∃ k : Nat, i = k ∧ k ≤ l.length ∧ Ext w w') (fun (i : Int) _ => (l.length - i).toNat) ⟨0, rfl, by omega, Only.refl _ _⟩ ?_
  rintro (i : Int) w3 ⟨k, rfl, hk, e⟩ J hJ
  refine BIf.dec (fun hlt => ?_) (fun _ => ⟨rfl, e⟩)
  have hx : l[k]? = some l[k] := List.getElem?_eq_getElem (by omega)
  generalize l[k] = x at hx
  have e2 : Ext w w3.drew := e.trans (ext_drew w3)
  obtain ⟨p, hp, hpc⟩ := row_get (e2.row hr) hx
  obtain ⟨p2, hp2, hpc2⟩ := row_get (e2.row hu) hx
  simp only [Int.toNat_natCast]
  rw [w64 (n := (k : Int) + 1) (by omega) (by omega)]
  refine ⟨by omega, by omega, p, hp, _, hpc, by omega, by omega, p2, hp2, _, hpc2, BIf.ne (fun hc => absurd rfl hc) (fun _ => ?_)⟩
  exact hJ _ _ ⟨k + 1, by omega, by omega, e2⟩ (by omega)
set_option maxHeartbeats 1000000 in
theorem s24 {w : World} {e : Int} {t u : Sl} {l m : List RSeg} (hl : LentI w t l) (hm : LentI w u m) (he : l.map RSeg.abs = m.map RSeg.abs) : CallW Try.prog 24 #[iV e t, iV e u] w (fun v w' => v = .bool true ∧ Ext w w') := by
  refine go24 (a0_0 := e) (a0_1 := t) (a1_0 := e) (a1_1 := u) ?_
  unfold W24
  have htl := hl.recs_.len
  have hul := hm.recs_.len
  have hfw := hl.recs_.few
  have hlm : l.length = m.length := by have := congrArg List.length he; rw [List.length_map, List.length_map] at this; exact this
  have h := SH.start w
  refine h.alloc (fun w1 h e1 n1 => ?_)
  refine h.alloc (fun w2 h e2 n2 => ?_)
  generalize w.heap.size = a at *
  generalize w1.heap.size = b at *
  have h : SH w w2 [BI b e u, BI a e t] := h
  refine ⟨_, h.cell 1 rfl rfl, _, h.cell 0 rfl rfl, ?_⟩
  refine JoinW.cut1 (fun (c : Bool) w' => c = false ∧ w' = w2) (BIf.ne (fun hc => absurd rfl hc) (fun _ => ⟨t, h.cell 1 rfl rfl, u, h.cell 0 rfl rfl, by rw [bne_eq_false_iff_eq]; omega, by trivial⟩)) ?_
  rintro (c : Bool) w7 ⟨rfl, rfl⟩
  refine BIf.f rfl ?_
  refine LoopW.m1 (fun (i : Int) w' => ∃ k : Nat, i = k ∧ k ≤ l.length ∧ SH w w' [BI b e u, BI a e t]) (fun (i : Int) _ => (l.length - i).toNat) ⟨0, rfl, by omega, h⟩ ?_
  clear h
  rintro (i : Int) w10 ⟨k, rfl, hk, h⟩ J hJ
  refine ⟨t, h.cell 1 rfl rfl, BIf.dec (fun hlt => ?_) (fun _ => ⟨rfl, h.ext⟩)⟩
  have hx : l[k]? = some l[k] := List.getElem?_eq_getElem (by omega)
  have hy : m[k]? = some m[k] := List.getElem?_eq_getElem (by omega)
  generalize l[k] = x at hx
  generalize m[k] = y at hy
  have hxy := pair_get he hx hy
  have c1 : x.Va = y.Va := congrArg ISeg.Va hxy
  have c2 : x.Prot = y.Prot := congrArg ISeg.Prot hxy
  have c3 : x.Size = y.Size := congrArg ISeg.Size hxy
  have c4 : x.Data = y.Data := congrArg ISeg.Data hxy
  obtain ⟨q, hq, hc⟩ := (hl.recs_.ext h.ext).get (by decide) hx
  obtain ⟨q2, hq2, hc2⟩ := (hm.recs_.ext h.ext).get (by decide) hy
  have bx := hl.each x (List.mem_of_getElem? hx)
  have by_ := hm.each y (List.mem_of_getElem? hy)
  simp only [Int.toNat_natCast]
  rw [w64 (n := (k : Int) + 1) (by omega) (by omega)]
  refine ⟨t, h.cell 1 rfl rfl, by omega, by omega, q, hq, _, hc 0 _ rfl, _, hc 1 _ rfl, _, hc 2 _ rfl, x.D, hc 3 _ rfl, ?_⟩
  refine h.alloc (fun w18 h e18 n18 => ?_)
  refine h.put 0 rfl rfl rfl (fun w19 h n19 => ?_)
  generalize w10.heap.size = xb at *
  have h : SH w w19 [BS xb x, BI b e u, BI a e t] := h
  obtain ⟨q2, hq2, hc2⟩ := (hm.recs_.ext h.ext).get (by decide) hy
  refine ⟨u, h.cell 1 rfl rfl, by omega, by omega, q2, hq2, _, hc2 0 _ rfl, _, hc2 1 _ rfl, _, hc2 2 _ rfl, y.D, hc2 3 _ rfl, ?_⟩
  refine h.alloc (fun w26 h e26 n26 => ?_)
  refine h.put 0 rfl rfl rfl (fun w27 h n27 => ?_)
  generalize w19.heap.size = yb at *
  have h : SH w w27 [BS yb y, BS xb x, BI b e u, BI a e t] := h
  refine ⟨_, h.cell 1 rfl rfl, _, h.cell 0 rfl rfl, ?_⟩
  refine JoinW.cut1 (fun (c : Bool) w' => c = false ∧ w' = w27) (BIf.ne (fun hh => absurd c1 hh) (fun _ => ⟨_, h.cell 1 rfl rfl, _, h.cell 0 rfl rfl, by rw [bne_eq_false_iff_eq]; exact c2, rfl⟩)) ?_
  rintro (c : Bool) w32 ⟨rfl, rfl⟩
  refine JoinW.cut1 (fun (c : Bool) w' => c = false ∧ w' = w32) (BIf.f rfl ⟨_, h.cell 1 rfl rfl, _, h.cell 0 rfl rfl, by rw [bne_eq_false_iff_eq]; exact c3, rfl⟩) ?_
  rintro (c : Bool) w35 ⟨rfl, rfl⟩
  refine JoinW.cut1 (fun (c : Bool) w' => c = false ∧ SH w w' [BS yb y, BS xb x, BI b e u, BI a e t]) (BIf.f rfl ⟨x.D, h.cell 1 rfl rfl, y.D, h.cell 0 rfl rfl, (s27b (h.ext.row bx.row) (by rw [c4]; exact h.ext.row by_.row) bx.small).mono ?_⟩) ?_
  · rintro _ w42 ⟨rfl, ee⟩
    exact ⟨_, rfl, rfl, h.to ee⟩
  clear h
  rintro (c : Bool) w38 ⟨rfl, h⟩
  exact BIf.f rfl (hJ _ _ ⟨k + 1, by omega, by omega, h.drop.drop⟩ (by omega))
theorem goc5 {a0 a1 : Sl} {w : World} {K : Value → World → Prop} (h : W5 a0 a1 w K) : Calls Try.prog 5 #[.slice a0.a a0.len a0.cap, .slice a1.a a1.len a1.cap] w (fun e w' => ∃ v, e = .returned v ∧ K v w') :=
  denFn_sound tt_ok mix Try.func5 (by kernel_rfl) (eq5 a0 a1 w K ▸ h)
set_option maxRecDepth 4000 in
set_option maxHeartbeats 8000000 in
theorem walk5 {w : World} {bs cs : List Int} {p0 p1 : Sl} (h0 : IsD w (.sl 1 (bs.map (Dat.int .u8))) [.slice p0.a p0.len p0.cap]) (h1 : IsD w (.sl 1 (cs.map (Dat.int .u8))) [.slice p1.a p1.len p1.cap]) : Calls Try.prog 5 #[.slice p0.a p0.len p0.cap, .slice p1.a p1.len p1.cap] w (fun e w' => ∃ v, e = .returned v ∧ (v = .bool true ∧ Ext w w')) := by
  refine goc5 ?_
  unfold W5
  refine c19.mono ?_
  rintro _ w2 ⟨rfl, rfl⟩
  refine ⟨_, rfl, ?_⟩
  refine JoinW.cut1 (fun (b : Bool) w' => (b = false → ¬ ((p0.len : Int) > 1048576) ∧ ¬ ((p1.len : Int) > 1048576)) ∧ w' = w2) (BIf.dec (fun _ => ⟨(fun hh => by cases hh), rfl⟩) (fun hh => c19.mono ?_)) ?_
  · rintro _ w106 ⟨rfl, rfl⟩
    exact ⟨_, rfl, fun h2 => ⟨hh, of_decide_eq_false h2⟩, rfl⟩
  rintro (b4 : Bool) w6 ⟨hbig, rfl⟩
  refine BIf.of (fun _ => ⟨rfl, Only.refl _ _⟩) (fun hb4 => ?_)
  obtain ⟨hs0, hs1⟩ := hbig hb4
  have hcb := curb_of h0 (by omega)
  have hcb1 := curb_of h1 (by omega)
  refine (s20 (SH.start w6) hcb).mono ?_
  rintro _ w8 ⟨e, ts, l, rfl, hl9, hg, h⟩
  refine ⟨_, ts, rfl, ?_⟩
  refine h.alloc (fun w11 h e11 n11 => ?_)
  refine h.put 0 rfl rfl rfl (fun w12 h n12 => ?_)
  generalize w8.heap.size = mb at *
  have h : SH w6 w12 [BI mb e ts, rS ts l, bS l] := h
  have hby : ∀ x, x ∈ l → inBy x.Data ∧ x.Data.length ≤ 1099511627776 := fun x hx => ⟨(hg x hx).by_, by have := (hg x hx).len; omega⟩
  refine ⟨_, h.cell 0 rfl rfl, ts, h.cell 0 rfl rfl, (s21 (lentI_of h 1 2 rfl rfl (by omega) hby)).mono ?_⟩
  rintro _ w16 ⟨l17, rfl, g⟩
  have h := h.seq g
  refine ⟨l17, _, rfl, ?_⟩
  have h : SH w6 w16 [rD l17 (if imgB ⟨e, l.map RSeg.abs⟩ = true then packF ⟨e, l.map RSeg.abs⟩ else []), BI mb e ts, rS ts l, bS l] := h
  refine ⟨_, h.cell 1 rfl rfl, ts, h.cell 1 rfl rfl, (s22 (lentI_of h 2 3 rfl rfl (by omega) hby)).mono ?_⟩
  rintro _ w22 ⟨rfl, ee⟩
  have h := h.to ee
  refine ⟨_, rfl, ?_⟩
  have hmb : ∀ s, s ∈ (IImg.mk e (l.map RSeg.abs)).Segs → inBy s.Data := fun s hs => by
    obtain ⟨x, hx, rfl⟩ := List.mem_map.1 hs
    exact (hby x hx).1
  have hok := imgB_iff ⟨e, l.map RSeg.abs⟩
  generalize hm : (⟨e, l.map RSeg.abs⟩ : IImg) = m at *
  have hme : m.Entry = e := by rw [← hm]
  have hms : m.Segs = l.map RSeg.abs := by rw [← hm]
  generalize hbb : (if imgB m = true then packF m else []) = b at *
  have hlen := h.len 0 rfl
  rw [nums_len] at hlen
  have hinb : inBy b ∧ b.length ≤ 1099511627776 := by
    rw [← hbb]
    split
    · rename_i hi
      refine ⟨inBy_app (inBy_body hmb) (inBy_le _ _), ?_⟩
      have hi2 := hi
      rw [← hm] at hi2
      obtain ⟨⟨hn8, hok⟩, he0, he1⟩ := few_of hi2
      have hdf := datas_few l hok
      have hpk := pack_len m
      have hbd := body_len m
      rw [hms, List.length_map] at hbd
      omega
    · exact ⟨fun x hx => by simp at hx, by simp⟩
  refine JoinW.cut1 (fun (c : Bool) w' => c = false ∧ w' = w22) (BIf.of (fun hc => by simp at hc) (fun _ => BIf.of (fun hc => ⟨?_, rfl⟩) (fun _ => ⟨rfl, rfl⟩))) ?_
  · have hi : imgB m = false := by simpa using hc
    rw [hi] at hbb
    have hbb : ([] : List Int) = b := hbb
    rw [← hbb] at hlen
    exact decide_eq_false (by rw [hlen]; simp)
  rintro (c : Bool) w26 ⟨rfl, rfl⟩
  refine BIf.f rfl ?_
  refine (s23 (SH.byAt (s := l17) h 0 rfl hinb.1 hinb.2)).mono ?_
  rintro _ w28 ⟨t2, l2, rfl, hl2, g⟩
  have h := h.seq g
  refine ⟨_, t2, _, rfl, ?_⟩
  refine h.alloc (fun w32 h e32 n32 => ?_)
  refine h.put 0 rfl rfl rfl (fun w33 h n33 => ?_)
  generalize w28.heap.size = nb at *
  have h : SH w6 w33 [BI nb (readF b).1.Entry t2, rS t2 l2, bS l2, rD l17 b, BI mb e ts, rS ts l, bS l] := h
  have hrd : imgB m = true → readF b = (m, 0) := fun hi => by
    rw [← hbb, if_pos hi]
    exact pack_read (hok.1 hi) hmb
  refine JoinW.cut1 (fun (c : Bool) w' => c = false ∧ SH w6 w' [BI nb (readF b).1.Entry t2, rS t2 l2, bS l2, rD l17 b, BI mb e ts, rS ts l, bS l]) (BIf.of (fun hi => ?_) (fun _ => ⟨rfl, h⟩)) ?_
  · have hr := hrd hi
    refine BIf.ne (fun hc => absurd (by rw [hr]) hc) (fun _ => ?_)
    have hab : l2.map RSeg.abs = l.map RSeg.abs := by rw [hl2, hr, ← hms]
    have hby2 : ∀ x, x ∈ l2 → inBy x.Data ∧ x.Data.length ≤ 1099511627776 := fun x hx => by
      have : x.abs ∈ l2.map RSeg.abs := List.mem_map.2 ⟨x, hx, rfl⟩
      rw [hab] at this
      obtain ⟨y, hy, hxy⟩ := List.mem_map.1 this
      have e5 : y.Data = x.Data := congrArg ISeg.Data hxy
      rw [← e5]; exact hby y hy
    have hn2 : l2.length ≤ 9 := by have := congrArg List.length hab; rw [List.length_map, List.length_map] at this; omega
    refine ⟨_, h.cell 4 rfl rfl, ts, h.cell 4 rfl rfl, _, h.cell 0 rfl rfl, t2, h.cell 0 rfl rfl, ?_⟩
    have e6 : (readF b).1.Entry = e := by rw [hr]; exact hme
    rw [e6] at h ⊢
    refine (s24 (lentI_of h 5 6 rfl rfl (by omega) hby) (lentI_of h 1 2 rfl rfl (by omega) hby2) hab.symm).mono ?_
    rintro _ w103 ⟨rfl, ee⟩
    exact ⟨_, rfl, rfl, h.to ee⟩
  clear h
  rintro (c : Bool) w36 ⟨rfl, h⟩
  refine BIf.f rfl ?_
  refine JoinW.cut0 (fun w' => SH w6 w' []) ?_ ?_
  · refine JoinW.cut1 (fun (c : Bool) w' => (c = true → imgB m = true ∧ 1 < p1.len) ∧ w' = w36) (BIf.of (fun hi => ⟨fun hh => ⟨hi, by have := of_decide_eq_true hh; omega⟩, rfl⟩) (fun _ => ⟨(fun hh => by cases hh), rfl⟩)) ?_
    rintro (b75 : Bool) w77 ⟨h75, rfl⟩
    refine JoinW.cut1 (fun (c : Bool) w' => (c = true → imgB m = true ∧ 1 < p1.len ∧ ∃ q y, p1.a = some q ∧ w6.cell? (q.add (1 * 1)) = some (.int .u8 y) ∧ 0 < y ∧ y ≤ 255) ∧ w' = w77) (BIf.of (fun hh => ?_) (fun _ => ⟨(fun hh => by cases hh), rfl⟩)) ?_
    · obtain ⟨hi, hp⟩ := h75 hh
      obtain ⟨q, y, hq, hc, hy⟩ := hcb1.at_ 1 (by omega)
      refine ⟨by omega, by omega, q, hq, y, h.ext.cell hc, fun hh2 => ⟨hi, hp, q, y, hq, hc, of_decide_eq_true hh2, hy.2⟩, rfl⟩
    rintro (b78 : Bool) w80 ⟨h78, rfl⟩
    refine BIf.of (fun hh => ?_) (fun _ => h.take 0)
    obtain ⟨hi, hp, q, y, hq, hc, hy0, hy1⟩ := h78 hh
    obtain ⟨q0, y0, hq0, hc0, hy00, hy01⟩ := hcb1.at_ 0 (by omega)
    rw [if_pos hi] at hbb
    have hbl : 0 < b.length := by rw [← hbb, pack_len]; omega
    refine ⟨by omega, by omega, q0, hq0, y0, h.ext.cell hc0, by omega, ?_⟩
    rw [w64 (n := y0) (by omega) (by omega), w64 (n := y0 * 97) (by omega) (by omega), Int.tmod_eq_emod_of_nonneg (by omega)]
    obtain ⟨p, hp2⟩ : ∃ p : Nat, y0 * 97 % (l17.len : Int) = (p : Int) := Int.eq_ofNat_of_zero_le (Int.emod_nonneg _ (by omega))
    have hpl : (p : Int) < l17.len := by rw [← hp2]; exact Int.emod_lt_of_pos _ (by omega)
    rw [hp2, Int.toNat_natCast]
    have h := h.drew
    obtain ⟨z, hz⟩ : ∃ z, b[p]? = some z := ⟨_, List.getElem?_eq_getElem (by omega)⟩
    have hzr := hinb.1 z (List.mem_of_getElem? hz)
    obtain ⟨q3, hq3, hc3⟩ := h.elem0 3 rfl (nums_get hz) rfl
    refine ⟨by omega, by omega, q3, hq3, _, hc3, by omega, by omega, q, hq, y, h.ext.cell hc, by omega, by omega, q3, hq3, h.setE0 3 rfl hq3 (nums_get hz) rfl (fun w88 h n88 => ?_)⟩
    have hwr : IntKind.u8.wrap (z + y) = (z + y) % 256 := IntKind.wrap_u8 _
    rw [hwr] at h
    have h : SH w6 w88 [BI nb (readF b).1.Entry t2, rS t2 l2, bS l2, aRow l17 1 ((nums .u8 b).set p ([Ce.v (.int .u8 z)].set 0 (.v (.int .u8 ((z + y) % 256))))), BI mb e ts, rS ts l, bS l] := h
    rw [nums_set hz] at h
    have hne : (readF (b.set p ((z + y) % 256))).2 ≠ 0 := by
      rw [← hbb] at hz ⊢
      exact pack_set hmb (List.getElem?_eq_some_iff.1 hz).1 (by omega) (by rw [hz]; intro hh; have := Option.some.inj hh; omega)
    refine (s23 (SH.byAt (s := l17) h 3 rfl (inBy_set hinb.1 (by omega)) (by rw [List.length_set]; exact hinb.2))).mono ?_
    rintro _ w90 ⟨t3, l3, rfl, _, g⟩
    have h := h.seq g
    refine ⟨_, t3, _, rfl, ?_⟩
    refine h.alloc (fun w94 h e94 n94 => ?_)
    refine h.put 0 rfl rfl rfl (fun w95 h n95 => ?_)
    exact BIf.eq (fun hh => absurd hh hne) (fun _ => h.take 0)
  clear h hrd hok hbb hinb hlen hl2 hmb hm hme hms hg hby
  intro w38 h
  refine (s25 h hcb).mono ?_
  rintro _ w40 ⟨l41, x, rfl, hinx, hxl, h⟩
  have hl41 := h.len 0 rfl
  rw [nums_len] at hl41
  refine ⟨l41, rfl, (s23 (SH.byAt (s := l41) h 0 rfl hinx (by omega))).mono ?_⟩
  rintro _ w43 ⟨t2, l2, rfl, hl2, g⟩
  have h := h.seq g
  refine ⟨_, t2, _, rfl, ?_⟩
  refine h.alloc (fun w47 h e47 n47 => ?_)
  refine h.put 0 rfl rfl rfl (fun w48 h n48 => ?_)
  generalize w43.heap.size = b2 at *
  have h : SH w6 w48 [BI b2 (readF x).1.Entry t2, rS t2 l2, bS l2, rD l41 x] := h
  refine (s26 (SH.byAt (s := l41) h 3 rfl hinx (by omega))).mono ?_
  rintro _ w50 ⟨t3, l3, rfl, _, g⟩
  have h := h.seq g
  refine ⟨_, t3, _, rfl, ?_⟩
  refine h.alloc (fun w54 h e54 n54 => ?_)
  refine h.put 0 rfl rfl rfl (fun w55 h n55 => ?_)
  have h : SH w6 w55 [BI b2 (readF x).1.Entry t2, rS t2 l2, bS l2, rD l41 x] := h.drop.drop.drop
  refine BIf.ne (fun hc => absurd rfl hc) (fun _ => BIf.eq (fun hz => ?_) (fun hz => ?_))
  · obtain ⟨hio, hpk, _⟩ := read_zero hz
    have hseg := segs_each hio.segs
    have hn8 := hio.n8
    rw [← hl2, List.length_map] at hn8
    have hby2 : ∀ y, y ∈ l2 → inBy y.Data ∧ y.Data.length ≤ 1099511627776 := fun y hy => by
      have hm : y.abs ∈ (readF x).1.Segs := by rw [← hl2]; exact List.mem_map.2 ⟨y, hy, rfl⟩
      obtain ⟨a1, a2, a3, a4, a5, a6, a7, a8⟩ := hseg _ hm
      have e1 : y.abs.Data = y.Data := rfl
      rw [e1] at a7
      refine ⟨fun z hz2 => hinx z ?_, by omega⟩
      rw [← hpk]
      unfold packF bodyF
      exact List.mem_append_left _ (List.mem_append_right _ (List.mem_flatMap.2 ⟨y.abs, hm, hz2⟩))
    refine ⟨_, h.cell 0 rfl rfl, t2, h.cell 0 rfl rfl, (s21 (lentI_of h 1 2 rfl rfl (by omega) hby2)).mono ?_⟩
    have hmm : (⟨(readF x).1.Entry, l2.map RSeg.abs⟩ : IImg) = (readF x).1 := by rw [hl2]
    rw [hmm]
    have hib := (imgB_iff _).2 hio
    rintro _ w59 ⟨l60, rfl, g⟩
    rw [if_pos hib, hpk] at g
    have h := h.seq g
    refine ⟨l60, _, rfl, ?_⟩
    rw [hib]
    refine JoinW.cut1 (fun (c : Bool) w' => c = true ∧ SH w6 w' []) (BIf.t rfl ((s27b (h.rowN 4 rfl) (h.rowN 0 rfl) (by omega)).mono ?_)) ?_
    · rintro _ w66 ⟨rfl, ee⟩
      exact ⟨_, rfl, rfl, (h.to ee).take 0⟩
    rintro (c : Bool) w64_ ⟨rfl, h⟩
    exact ⟨rfl, h.ext⟩
  · have hl2e : l2 = [] := by
      rw [read_none hz] at hl2
      exact List.map_eq_nil_iff.1 hl2
    have ht2 := h.len 1 rfl
    rw [recs_len, hl2e] at ht2
    refine ⟨t2, h.cell 0 rfl rfl, ?_⟩
    refine JoinW.cut1 (fun (c : Bool) w' => c = decide (0 < x.length) ∧ w' = w55) (BIf.t (by rw [ht2]; rfl) ⟨by rw [Bool.eq_iff_iff, decide_eq_true_iff, decide_eq_true_iff]; omega, rfl⟩) ?_
    rintro (c : Bool) w71 ⟨rfl, rfl⟩
    refine JoinW.cut1 (fun (c : Bool) w' => c = true ∧ w' = w71) (BIf.dec (fun _ => ⟨rfl, rfl⟩) (fun hx0 => BIf.t (by rw [beq_iff_eq]; omega) ⟨?_, rfl⟩)) ?_
    · rw [rf1 (by omega)]; rfl
    rintro (c : Bool) w74 ⟨rfl, rfl⟩
    exact ⟨rfl, h.ext⟩
open Go.RowKit in
theorem law_calls5 {w : World} {a0 a1 : Option Addr} {len0 cap0 len1 cap1 : Nat} {bs cs : List Int} (h0 : (Go.Den.cSlice (Go.Den.cInt .u8)).is w [.slice a0 len0 cap0] bs) (h1 : (Go.Den.cSlice (Go.Den.cInt .u8)).is w [.slice a1 len1 cap1] cs) : Calls Try.prog 5 #[.slice a0 len0 cap0, .slice a1 len1 cap1] w (fun e w' => e = .returned (.bool true) ∧ Below w.heap.size w w') :=
  (walk5 (p0 := ⟨a0, len0, cap0⟩) (p1 := ⟨a1, len1, cap1⟩) (isD_mkSl (f := Dat.int .u8) h0 (fun es x hx => isD_mkInt hx)) (isD_mkSl (f := Dat.int .u8) h1 (fun es x hx => isD_mkInt hx))).mono (by rintro e w' ⟨v, rfl, rfl, he⟩; exact ⟨rfl, he.below⟩)
end Go.Proofs.Ytenhcpjlkmbedaa

/- The row of the law FnImageBack: what its walk shows is what the statement says. Conditions: none. -/
namespace Go.Proofs.Ytenhcpjlkmbedaa.fnImageBack
open Go.ChangeShapes Go.WideShapes Go.ChangeAt Go.RowKit
open Go.ChangeMaps (open_string shut_string)
set_option linter.unusedVariables false
theorem own : ownKnob Try.prog.godebug = none := by kernel_rfl
theorem laidOut : laidOutB Try.prog = true := by kernel_rfl
set_option maxRecDepth 100000 in
theorem lifted (os : Os) (started : os.Started) (H : Type) (enc : TypeId × Value → H) :
    ReturnsInHanded {} Try.checked os 5 .any (Rows.fnImageBackSpec.pre6 enc Try.prog Try.f5 Rows.fnImageBackRow.domain false) (Rows.fnImageBackSpec.post enc Try.prog Try.f5 false true false false) := by
  refine returnsInHanded_of_change_sized (C := Try.checked) own started (by kernel_rfl) Try.func5
    (ChangeSpec.witness6 (enc := enc) (C := Try.checked) false ⟨#[], #[.slice none 0 0, .slice none 0 0], []⟩ 8 (by kernel_rfl) (by kernel_rfl) (by kernel_rfl) (by kernel_rfl)) ?_
  intro W base args ds gs before hval0 hW hcnd hsz0 _
  have hsz : (DataW.weightsEach Try.prog (Try.f5.params.toList ++ Rows.fnImageBackSpec.plain.varTypes Try.prog) (ds ++ gs)).all (· ≤ reachBytes) = true := hsz0
  have hval : ∀ (j : Nat) t v, Try.f5.params[j]? = some t → args[j]? = some v → Value.okWide Try.prog W .any base t v := hval0
  have hW' := hW
  obtain ⟨p, q, hA0, hV, rfl, hfz, hnd⟩ := hW
  have hA : DataW.TrodAll enc Try.prog W 0 (fun _ => true) true Try.f5.params.toList args.toList ds p := hA0
  rw [Try.params5] at hA hval hsz
  obtain ⟨v0, vs0, d0, ds0, p0, q0, hargs, rfl, rfl, h0, r0⟩ := trodAll_cons hA
  obtain ⟨v1, vs1, d1, ds1, p1, q1, rfl, rfl, rfl, h1, r1⟩ := trodAll_cons r0
  obtain ⟨rfl, rfl, rfl⟩ := trodAll_nil r1
  obtain rfl : args = #[v0, v1] := by cases args; simp_all
  obtain ⟨rfl, rfl⟩ := trodVars_none hV
  have k0 := h0
  have lt0 : ∀ x ∈ p0, x.block < W.heap.size := by obtain ⟨m, hm⟩ := k0; exact DataW.trod_lt m _ _ _ hm
  obtain ⟨a0, len0, cap0, rfl⟩ := okWide_slice Try.underlying41 (hval 0 41 v0 rfl rfl)
  obtain ⟨x0, w0⟩ : ∃ x, (Go.Den.cSlice (Go.Den.cInt .u8)).is W [.slice a0 len0 cap0] x := by obtain ⟨fuel, hf⟩ := h0; exact ((o41).at_ enc W fuel _ _ hf).2
  have k1 := h1
  have lt1 : ∀ x ∈ p1, x.block < W.heap.size := by obtain ⟨m, hm⟩ := k1; exact DataW.trod_lt m _ _ _ hm
  obtain ⟨a1, len1, cap1, rfl⟩ := okWide_slice Try.underlying41 (hval 1 41 v1 rfl rfl)
  obtain ⟨x1, w1⟩ : ∃ x, (Go.Den.cSlice (Go.Den.cInt .u8)).is W [.slice a1 len1 cap1] x := by obtain ⟨fuel, hf⟩ := h1; exact ((o41).at_ enc W fuel _ _ hf).2
  clear hA0 hval0 hsz0 hsz
  refine (law_calls5 w0 w1).mono fun e W' ⟨he, bel⟩ => ?_
  subst he
  exact ⟨_, rfl, _, _, _, [], _, [], hW', trodAll_mk1 (shut_bool Try.underlying4 _), (trodAll_cons_mk (Below.trod laidOut (by kernel_rfl) (of_decide_eq_true (by kernel_rfl)) k0 bel lt0) (trodAll_cons_mk (Below.trod laidOut (by kernel_rfl) (of_decide_eq_true (by kernel_rfl)) k1 bel lt1) trodAll_mk0)), rfl, bel.frame _, fun h => by cases h⟩
theorem over : Rows.fnImageBackRow.holds Try.pinned (OpenSpec.ofChange Rows.fnImageBackSpec) :=
  OpenClaim.holds_of_wide 5 Try.f5 rfl rfl rfl rfl rfl rfl rfl ⟨rfl, rfl, rfl, rfl, rfl⟩ rfl rfl rfl rfl rfl (by kernel_rfl) Try.func5 (by kernel_rfl)
    (of_decide_eq_true (by kernel_rfl)) (by unfold Func.isWrapper; first | (rw [if_pos (by decide +kernel)]; kernel_rfl) | (rw [if_neg (by decide +kernel)]; exact ⟨rfl, rfl⟩))
    (fun os started H enc _ => lifted os started H enc)
theorem proved : Rows.FnImageBackSaid := over
#print axioms proved
end Go.Proofs.Ytenhcpjlkmbedaa.fnImageBack
namespace Go.Proofs.Ytenhcpjlkmbedaa
/-- The row, under a short name, for the claim. -/
theorem fnImageBack_holds : Rows.FnImageBackSaid := fnImageBack.proved
end Go.Proofs.Ytenhcpjlkmbedaa
