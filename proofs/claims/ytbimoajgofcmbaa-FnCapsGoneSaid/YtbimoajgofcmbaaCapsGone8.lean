/- Part 8 of 8: plain readings of code, rules for them, and a proof over them, joined by a program. Conditions: none. -/
import Derived.Test.YtbimoajgofcmbaaCapsGone7
import Derived.Test.YtbimoajgofcmbaaRows
import Derived.WalkKit
import Derived.ProofKit
import Derived.OpenShut
import Derived.ShutString
import Derived.ChangeOld
import Derived.Below
import Derived.Carry
import Derived.SizedLaws
/- Capabilities that go: the walk of the law. Conditions: none. -/
set_option linter.unusedVariables false
set_option linter.unusedSimpArgs false
set_option maxRecDepth 100000
namespace Go.Proofs.Ytbimoajgofcmbaa
open Go Go.Den
theorem same67 : SameAt Try.prog 67 [.int .i64, .int .i64, .int .i64, .int .i64, .int .i64] :=
  sameAt_num (by kernel_rfl) (by kernel_rfl) (by kernel_rfl) (by kernel_rfl)
theorem curb_of {bs : List Int} {w : World} {s : Sl} (h : IsD w (.sl 1 (bs.map (Dat.int .u8))) [.slice s.a s.len s.cap]) (hl : s.len ≤ 1048576) : CurB w s := by
  refine ⟨hl, fun k hk => ?_⟩
  have hlen := (isD_len h).1
  have hget : bs[k]? = some bs[k] := List.getElem?_eq_getElem (by omega)
  obtain ⟨p, es, hp, _, hc, hi⟩ := isD_elem h hget
  obtain ⟨rfl, hwf⟩ := isD_int hi
  have h0 := hc 0 _ rfl
  refine ⟨p, _, hp, h0, ?_⟩
  simp [Lit.wf, IntKind.min, IntKind.max, IntKind.signed, IntKind.bits] at hwf
  omega
open Classical in
noncomputable def keepP (d : DIpc) (top : Int) (c : DCap) : Bool := !decide (Und d top c.Id)
open Classical in
theorem keepP_t {d : DIpc} {top : Int} {c : DCap} (h : ¬ Und d top c.Id) : keepP d top c = true := by unfold keepP; rw [decide_eq_false h]; rfl
open Classical in
theorem keepP_f {d : DIpc} {top : Int} {c : DCap} (h : Und d top c.Id) : keepP d top c = false := by unfold keepP; rw [decide_eq_true h]; rfl
theorem take_mem {l : List Int} {u : Nat} {z y : Int} (hz : l[u]? = some z) : y ∈ l.take (u + 1) ↔ y ∈ l.take u ∨ z = y := by
  rw [List.take_add_one, hz]
  simp [eq_comm]
theorem goc7 {a0 : Sl} {w : World} {K : Value → World → Prop} (h : W7 a0 w K) : Calls Try.prog 7 #[.slice a0.a a0.len a0.cap] w (fun e w' => ∃ v, e = .returned v ∧ K v w') :=
  denFn_sound tt_ok mix Try.func7 (by kernel_rfl) (eq7 a0 w K ▸ h)
set_option maxHeartbeats 8000000 in
theorem walk7 {w : World} {bs : List Int} {p0 : Sl} (h0 : IsD w (.sl 1 (bs.map (Dat.int .u8))) [.slice p0.a p0.len p0.cap]) : Calls Try.prog 7 #[.slice p0.a p0.len p0.cap] w (fun e w' => ∃ v, e = .returned v ∧ (v = .bool true ∧ Ext w w')) := by
  refine goc7 ?_
  unfold W7
  refine c34.mono ?_
  rintro _ w2 ⟨rfl, rfl⟩
  refine ⟨_, rfl, BIf.dec (fun _ => ⟨rfl, Only.refl _ _⟩) (fun hbig => ?_)⟩
  have hb := curb_of h0 (by omega)
  have h := SH.start w2
  have hd0 : IpcAt w2 N0 N0 N0 D0 := ipc_at (F := []) (r := ⟨0, [], [], []⟩) (emptyS h) j_empty.1.wf
  refine (c12 hd0 (j_empty.1.wf.pw.pipes)).mono ?_
  rintro _ w5 ⟨b, rfl, hiff, e⟩
  obtain rfl : b = true := hiff.2 (j_empty.1.iok j_empty.2 (by show (0 : Int) ≤ _; omega))
  have h := h.to e
  refine ⟨_, rfl, BIf.f rfl ?_⟩
  refine (s35 h hb).mono ?_
  rintro _ w8 ⟨l9, rs, rfl, hrl, hg, h⟩
  refine ⟨l9, rfl, ?_⟩
  refine h.alloc (fun w10 h e10 n10 => ?_)
  refine h.put 0 rfl rfl rfl (fun w11 h n11 => ?_)
  have hll : l9.len = rs.length := by have := h.len 1 rfl; rw [recs_len] at this; exact this
  have h : SH w2 w11 (BI w8.heap.size 0 N0 N0 N0 :: rP N0 [] :: bP [] :: rC N0 [] :: rQ N0 [] :: bQ [] :: rO l9 rs :: bO rs :: []) := by
    have h := emptyS h
    exact (h.front (n := 5) rfl)
  refine LoopW.m1 (fun (i : Int) w' => ∃ (k : Nat) (r : RIpc) (tp tc tq : Sl), i = k ∧ k ≤ 60 ∧ J0 r.abs ∧ HasJ r.abs ∧ r.abs.Next ≤ 2 * (k : Int) ∧ SH w2 w' (BI w8.heap.size r.Next tp tc tq :: rP tp r.Ports :: bP r.Ports :: rC tc r.Caps :: rQ tq r.Pipes :: bQ r.Pipes :: rO l9 rs :: bO rs :: [])) (fun (i : Int) _ => (60 - i).toNat) ⟨0, ⟨0, [], [], []⟩, N0, N0, N0, rfl, by omega, j_empty.1, j_empty.2, by show (0 : Int) ≤ _; omega, h⟩ ?_
  clear h
  rintro (n12 : Int) w14 ⟨k, r, tp, tc, tq, rfl, hk, hj, hh, hnx, h⟩ J hJ
  refine JoinW.cut1 (fun (b : Bool) w' => b = decide (k < rs.length ∧ k < 60) ∧ w' = w14) ?_ ?_
  · refine BIf.dec (fun hlt => ⟨?_, rfl⟩) (fun hge => ⟨?_, rfl⟩)
    · rw [Bool.eq_iff_iff, decide_eq_true_iff, decide_eq_true_iff]; omega
    · symm; exact decide_eq_false (by omega)
  rintro (b : Bool) w17 ⟨rfl, rfl⟩
  refine BIf.dec (fun hlt => ?_) (fun _ => ⟨rfl, h.ext⟩)
  obtain ⟨x, hx, hxo⟩ : ∃ x, rs[k]? = some x ∧ OpR x.o := ⟨rs[k], List.getElem?_eq_getElem hlt.1, hg.wf _ (List.getElem_mem hlt.1)⟩
  have hn0 := hj.nx
  have hio : IOk r.abs := hj.iok hh (by omega)
  have hiw := hj.wf
  have hst : stepA r.abs x.o = stepI r.abs x.o := if_pos hio
  have hsj := step_j (o := x.o) hj hh (by omega) hxo.by_.rng
  have heq := eq_step (d := r.abs) (o := x.o)
  have hrv := rev_step (d := r.abs) (o := x.o)
  generalize stepI r.abs x.o = res at *
  obtain ⟨q, hq⟩ := h.rowQ 6 rfl hx
  simp only [Int.toNat_natCast]
  rw [w64 (n := (k : Int) + 1) (by omega) (by omega)]
  have h := h.drew
  refine ⟨_, h.cell 0 rfl rfl, tp, h.cell 0 rfl rfl, tc, h.cell 0 rfl rfl, tq, h.cell 0 rfl rfl, by omega, by omega, q, hq, _, h.rdR 6 rfl hq hx rfl, ?_⟩
  have hd : IpcAt _ tp tc tq r.abs := ipc_at (F := [rO l9 rs, bO rs]) h.drop hiw
  refine (c21 (top := x.o.Id) hd hiw.pw).mono ?_
  rintro _ w25 ⟨l26, rfl, g⟩
  have hle : l26.len = (belowF r.abs x.o.Id).length := by have := g.len 0 rfl; rw [nums_len] at this; exact this
  have hbl := (below_sub (d := r.abs) (top := x.o.Id)).2
  have hcf := hj.caps
  have f1 : r.Caps.length ≤ 128 := hj.caps
  have hbid : ∀ z, z ∈ belowF r.abs x.o.Id → True := fun _ _ => trivial
  obtain ⟨ids, hids⟩ : ∃ ids, ids = belowF r.abs x.o.Id := ⟨_, rfl⟩
  rw [← hids] at g hle hbl
  have h : SH w2 w25 (aRow l26 1 (nums .i64 ids) :: BI w8.heap.size r.Next tp tc tq :: rP tp r.Ports :: bP r.Ports :: rC tc r.Caps :: rQ tq r.Pipes :: bQ r.Pipes :: rO l9 rs :: bO rs :: []) := h.seq g
  refine ⟨l26, rfl, ?_⟩
  have h := h.drew
  refine JoinW.cut2 (fun (p27 p28 : Option Addr) w' => ∃ (a c : Nat) (tp2 tc2 tq2 t : Sl) (r2 : RIpc), p27 = some ⟨a, 0, none⟩ ∧ p28 = some ⟨c, 0, none⟩ ∧ r2.abs = res.1 ∧ SH w2 w' (BI a r2.Next tp2 tc2 tq2 :: BR c res.2.Code res.2.N t res.2.From :: rD t res.2.Data :: rP tp2 r2.Ports :: bP r2.Ports :: rC tc2 r2.Caps :: rQ tq2 r2.Pipes :: bQ r2.Pipes :: aRow l26 1 (nums .i64 ids) :: BI w8.heap.size r.Next tp tc tq :: rP tp r.Ports :: bP r.Ports :: rC tc r.Caps :: rQ tq r.Pipes :: bQ r.Pipes :: rO l9 rs :: bO rs :: [])) ?_ ?_
  · skip
    refine ⟨_, h.cell 1 rfl rfl, tp, h.cell 1 rfl rfl, tc, h.cell 1 rfl rfl, tq, h.cell 1 rfl rfl, ?_⟩
    refine ⟨by omega, ?_⟩
    refine ⟨by omega, ?_⟩
    refine ⟨q, hq, ?_⟩
    refine ⟨_, h.rdR 7 rfl hq hx rfl, _, h.rdR 7 rfl hq hx rfl, _, h.rdR 7 rfl hq hx rfl, _, h.rdR 7 rfl hq hx rfl, _, h.rdR 7 rfl hq hx rfl, _, h.rdR 7 rfl hq hx rfl, _, h.rdR 7 rfl hq hx rfl, x.t, h.rdR 7 rfl hq hx rfl, ?_⟩
    refine ⟨?_, ?_⟩
    · skip
      have hil : ILent _ tp tc tq r.abs := ⟨ipc_at (F := []) ((((h.dropAt 8).dropAt 7).dropAt 1).dropAt 0) hiw, hiw⟩
      have hby : ByAt _ x.t x.o.Data := SH.byAt (SH.bagOut ((((((((h.dropAt 7).dropAt 6).dropAt 5).dropAt 4).dropAt 3).dropAt 2).dropAt 1).dropAt 0) hx) 0 rfl hxo.by_.rng (by have := hxo.by_.few; omega)
      have hcall := s36 (o := x.o) hil hby (by have := hxo.by_.few; omega)
      rw [hst] at hcall
      refine hcall.mono ?_
      rintro _ w472 ⟨tp2, tc2, tq2, t2, r2, rfl, hr2, g⟩
      have h : SH w2 w472 (rD t2 res.2.Data :: rP tp2 r2.Ports :: bP r2.Ports :: rC tc2 r2.Caps :: rQ tq2 r2.Pipes :: bQ r2.Pipes :: aRow l26 1 (nums .i64 ids) :: BI w8.heap.size r.Next tp tc tq :: rP tp r.Ports :: bP r.Ports :: rC tc r.Caps :: rQ tq r.Pipes :: bQ r.Pipes :: rO l9 rs :: bO rs :: []) := h.seq g
      refine ⟨_, tp2, tc2, tq2, _, _, t2, _, rfl, ?_⟩
      refine ⟨?_, ?_⟩
      · skip
        refine h.alloc (fun w509 h ew509 nw509 => ?_)
        refine ⟨⟨_, h.rdR 14 rfl hq hx rfl, _, h.rdR 14 rfl hq hx rfl, _, h.rdR 14 rfl hq hx rfl, _, h.rdR 14 rfl hq hx rfl, _, h.rdR 14 rfl hq hx rfl, _, h.rdR 14 rfl hq hx rfl, _, h.rdR 14 rfl hq hx rfl, x.t, h.rdR 14 rfl hq hx rfl, rfl⟩, ?_⟩
        refine ⟨⟨_, h.cell 8 rfl rfl, tp, h.cell 8 rfl rfl, tc, h.cell 8 rfl rfl, tq, h.cell 8 rfl rfl, rfl⟩, ?_⟩
        refine ⟨?_, trivial⟩
        refine h.alloc (fun w522 h ew522 nw522 => ?_)
        refine ⟨⟨_, h.rdR 15 rfl hq hx rfl, _, h.rdR 15 rfl hq hx rfl, _, h.rdR 15 rfl hq hx rfl, _, h.rdR 15 rfl hq hx rfl, _, h.rdR 15 rfl hq hx rfl, _, h.rdR 15 rfl hq hx rfl, _, h.rdR 15 rfl hq hx rfl, x.t, h.rdR 15 rfl hq hx rfl, rfl⟩, ?_⟩
        refine ⟨⟨_, h.cell 9 rfl rfl, tp, h.cell 9 rfl rfl, tc, h.cell 9 rfl rfl, tq, h.cell 9 rfl rfl, rfl⟩, ?_⟩
        refine ⟨?_, trivial⟩
        refine h.put 1 rfl rfl rfl (fun w535 h nw535 => ?_)
        refine ⟨?_, trivial⟩
        refine h.put 0 rfl rfl rfl (fun w536 h nw536 => ?_)
        exact ⟨_, _, tp2, tc2, tq2, t2, r2, rfl, rfl, hr2, (h.front (n := 1) rfl)⟩
      · skip
        refine ⟨?_, trivial⟩
        refine h.alloc (fun w481 h ew481 nw481 => ?_)
        refine ⟨⟨_, h.rdR 14 rfl hq hx rfl, _, h.rdR 14 rfl hq hx rfl, _, h.rdR 14 rfl hq hx rfl, _, h.rdR 14 rfl hq hx rfl, _, h.rdR 14 rfl hq hx rfl, _, h.rdR 14 rfl hq hx rfl, _, h.rdR 14 rfl hq hx rfl, x.t, h.rdR 14 rfl hq hx rfl, rfl⟩, ?_⟩
        refine ⟨⟨_, h.cell 8 rfl rfl, tp, h.cell 8 rfl rfl, tc, h.cell 8 rfl rfl, tq, h.cell 8 rfl rfl, rfl⟩, ?_⟩
        refine ⟨?_, trivial⟩
        refine h.alloc (fun w494 h ew494 nw494 => ?_)
        refine ⟨⟨_, h.rdR 15 rfl hq hx rfl, _, h.rdR 15 rfl hq hx rfl, _, h.rdR 15 rfl hq hx rfl, _, h.rdR 15 rfl hq hx rfl, _, h.rdR 15 rfl hq hx rfl, _, h.rdR 15 rfl hq hx rfl, _, h.rdR 15 rfl hq hx rfl, x.t, h.rdR 15 rfl hq hx rfl, rfl⟩, ?_⟩
        refine ⟨⟨_, h.cell 9 rfl rfl, tp, h.cell 9 rfl rfl, tc, h.cell 9 rfl rfl, tq, h.cell 9 rfl rfl, rfl⟩, ?_⟩
        refine ⟨?_, trivial⟩
        refine h.put 0 rfl rfl rfl (fun w507 h nw507 => ?_)
        refine ⟨?_, trivial⟩
        refine h.put 1 rfl rfl rfl (fun w508 h nw508 => ?_)
        exact ⟨_, _, tp2, tc2, tq2, t2, r2, rfl, rfl, hr2, (h)⟩
    · skip
      refine ⟨?_, ?_⟩
      · skip
        refine h.alloc (fun w408 h ew408 nw408 => ?_)
        refine ⟨⟨_, h.rdR 8 rfl hq hx rfl, _, h.rdR 8 rfl hq hx rfl, _, h.rdR 8 rfl hq hx rfl, _, h.rdR 8 rfl hq hx rfl, _, h.rdR 8 rfl hq hx rfl, _, h.rdR 8 rfl hq hx rfl, _, h.rdR 8 rfl hq hx rfl, x.t, h.rdR 8 rfl hq hx rfl, rfl⟩, ?_⟩
        refine ⟨⟨_, h.cell 2 rfl rfl, tp, h.cell 2 rfl rfl, tc, h.cell 2 rfl rfl, tq, h.cell 2 rfl rfl, rfl⟩, ?_⟩
        refine ⟨?_, ?_⟩
        · skip
          have hil : ILent _ tp tc tq r.abs := ⟨ipc_at (F := []) (((((h.dropAt 9).dropAt 8).dropAt 2).dropAt 1).dropAt 0) hiw, hiw⟩
          have hby : ByAt _ x.t x.o.Data := SH.byAt (SH.bagOut (((((((((h.dropAt 8).dropAt 7).dropAt 6).dropAt 5).dropAt 4).dropAt 3).dropAt 2).dropAt 1).dropAt 0) hx) 0 rfl hxo.by_.rng (by have := hxo.by_.few; omega)
          have hcall := s36 (o := x.o) hil hby (by have := hxo.by_.few; omega)
          rw [hst] at hcall
          refine hcall.mono ?_
          rintro _ w447 ⟨tp2, tc2, tq2, t2, r2, rfl, hr2, g⟩
          have h : SH w2 w447 (rD t2 res.2.Data :: rP tp2 r2.Ports :: bP r2.Ports :: rC tc2 r2.Caps :: rQ tq2 r2.Pipes :: bQ r2.Pipes :: BI w25.drew.heap.size 0 N0 N0 N0 :: aRow l26 1 (nums .i64 ids) :: BI w8.heap.size r.Next tp tc tq :: rP tp r.Ports :: bP r.Ports :: rC tc r.Caps :: rQ tq r.Pipes :: bQ r.Pipes :: rO l9 rs :: bO rs :: []) := h.seq g
          refine ⟨_, tp2, tc2, tq2, _, _, t2, _, rfl, ?_⟩
          refine ⟨?_, trivial⟩
          refine h.alloc (fun w456 h ew456 nw456 => ?_)
          refine ⟨⟨_, h.rdR 15 rfl hq hx rfl, _, h.rdR 15 rfl hq hx rfl, _, h.rdR 15 rfl hq hx rfl, _, h.rdR 15 rfl hq hx rfl, _, h.rdR 15 rfl hq hx rfl, _, h.rdR 15 rfl hq hx rfl, _, h.rdR 15 rfl hq hx rfl, x.t, h.rdR 15 rfl hq hx rfl, rfl⟩, ?_⟩
          refine ⟨⟨_, h.cell 9 rfl rfl, tp, h.cell 9 rfl rfl, tc, h.cell 9 rfl rfl, tq, h.cell 9 rfl rfl, rfl⟩, ?_⟩
          refine ⟨?_, trivial⟩
          refine h.put 7 rfl rfl rfl (fun w469 h nw469 => ?_)
          refine ⟨?_, trivial⟩
          refine h.put 0 rfl rfl rfl (fun w470 h nw470 => ?_)
          exact ⟨_, _, tp2, tc2, tq2, t2, r2, rfl, rfl, hr2, (h.front (n := 7) rfl)⟩
        · skip
          refine ⟨?_, trivial⟩
          refine h.alloc (fun w421 h ew421 nw421 => ?_)
          refine ⟨⟨_, h.rdR 9 rfl hq hx rfl, _, h.rdR 9 rfl hq hx rfl, _, h.rdR 9 rfl hq hx rfl, _, h.rdR 9 rfl hq hx rfl, _, h.rdR 9 rfl hq hx rfl, _, h.rdR 9 rfl hq hx rfl, _, h.rdR 9 rfl hq hx rfl, x.t, h.rdR 9 rfl hq hx rfl, rfl⟩, ?_⟩
          refine ⟨⟨_, h.cell 3 rfl rfl, tp, h.cell 3 rfl rfl, tc, h.cell 3 rfl rfl, tq, h.cell 3 rfl rfl, rfl⟩, ?_⟩
          refine ⟨?_, trivial⟩
          have hil : ILent _ tp tc tq r.abs := ⟨ipc_at (F := []) ((((((h.dropAt 10).dropAt 9).dropAt 3).dropAt 2).dropAt 1).dropAt 0) hiw, hiw⟩
          have hby : ByAt _ x.t x.o.Data := SH.byAt (SH.bagOut ((((((((((h.dropAt 9).dropAt 8).dropAt 7).dropAt 6).dropAt 5).dropAt 4).dropAt 3).dropAt 2).dropAt 1).dropAt 0) hx) 0 rfl hxo.by_.rng (by have := hxo.by_.few; omega)
          have hcall := s36 (o := x.o) hil hby (by have := hxo.by_.few; omega)
          rw [hst] at hcall
          refine hcall.mono ?_
          rintro _ w435 ⟨tp2, tc2, tq2, t2, r2, rfl, hr2, g⟩
          have h : SH w2 w435 (rD t2 res.2.Data :: rP tp2 r2.Ports :: bP r2.Ports :: rC tc2 r2.Caps :: rQ tq2 r2.Pipes :: bQ r2.Pipes :: BR w408.heap.size 0 0 N0 0 :: BI w25.drew.heap.size 0 N0 N0 N0 :: aRow l26 1 (nums .i64 ids) :: BI w8.heap.size r.Next tp tc tq :: rP tp r.Ports :: bP r.Ports :: rC tc r.Caps :: rQ tq r.Pipes :: bQ r.Pipes :: rO l9 rs :: bO rs :: []) := h.seq g
          refine ⟨_, tp2, tc2, tq2, _, _, t2, _, rfl, ?_⟩
          refine ⟨?_, trivial⟩
          refine h.put 7 rfl rfl rfl (fun w444 h nw444 => ?_)
          refine ⟨?_, trivial⟩
          refine h.put 6 rfl rfl rfl (fun w445 h nw445 => ?_)
          exact ⟨_, _, tp2, tc2, tq2, t2, r2, rfl, rfl, hr2, ((h.front (n := 6) rfl).front (n := 7) rfl)⟩
      · skip
        refine ⟨?_, trivial⟩
        refine h.alloc (fun w345 h ew345 nw345 => ?_)
        refine ⟨⟨_, h.rdR 8 rfl hq hx rfl, _, h.rdR 8 rfl hq hx rfl, _, h.rdR 8 rfl hq hx rfl, _, h.rdR 8 rfl hq hx rfl, _, h.rdR 8 rfl hq hx rfl, _, h.rdR 8 rfl hq hx rfl, _, h.rdR 8 rfl hq hx rfl, x.t, h.rdR 8 rfl hq hx rfl, rfl⟩, ?_⟩
        refine ⟨⟨_, h.cell 2 rfl rfl, tp, h.cell 2 rfl rfl, tc, h.cell 2 rfl rfl, tq, h.cell 2 rfl rfl, rfl⟩, ?_⟩
        refine ⟨?_, ?_⟩
        · skip
          have hil : ILent _ tp tc tq r.abs := ⟨ipc_at (F := []) (((((h.dropAt 9).dropAt 8).dropAt 2).dropAt 1).dropAt 0) hiw, hiw⟩
          have hby : ByAt _ x.t x.o.Data := SH.byAt (SH.bagOut (((((((((h.dropAt 8).dropAt 7).dropAt 6).dropAt 5).dropAt 4).dropAt 3).dropAt 2).dropAt 1).dropAt 0) hx) 0 rfl hxo.by_.rng (by have := hxo.by_.few; omega)
          have hcall := s36 (o := x.o) hil hby (by have := hxo.by_.few; omega)
          rw [hst] at hcall
          refine hcall.mono ?_
          rintro _ w384 ⟨tp2, tc2, tq2, t2, r2, rfl, hr2, g⟩
          have h : SH w2 w384 (rD t2 res.2.Data :: rP tp2 r2.Ports :: bP r2.Ports :: rC tc2 r2.Caps :: rQ tq2 r2.Pipes :: bQ r2.Pipes :: BR w25.drew.heap.size 0 0 N0 0 :: aRow l26 1 (nums .i64 ids) :: BI w8.heap.size r.Next tp tc tq :: rP tp r.Ports :: bP r.Ports :: rC tc r.Caps :: rQ tq r.Pipes :: bQ r.Pipes :: rO l9 rs :: bO rs :: []) := h.seq g
          refine ⟨_, tp2, tc2, tq2, _, _, t2, _, rfl, ?_⟩
          refine ⟨?_, trivial⟩
          refine h.alloc (fun w393 h ew393 nw393 => ?_)
          refine ⟨⟨_, h.rdR 15 rfl hq hx rfl, _, h.rdR 15 rfl hq hx rfl, _, h.rdR 15 rfl hq hx rfl, _, h.rdR 15 rfl hq hx rfl, _, h.rdR 15 rfl hq hx rfl, _, h.rdR 15 rfl hq hx rfl, _, h.rdR 15 rfl hq hx rfl, x.t, h.rdR 15 rfl hq hx rfl, rfl⟩, ?_⟩
          refine ⟨⟨_, h.cell 9 rfl rfl, tp, h.cell 9 rfl rfl, tc, h.cell 9 rfl rfl, tq, h.cell 9 rfl rfl, rfl⟩, ?_⟩
          refine ⟨?_, trivial⟩
          refine h.put 0 rfl rfl rfl (fun w406 h nw406 => ?_)
          refine ⟨?_, trivial⟩
          refine h.put 7 rfl rfl rfl (fun w407 h nw407 => ?_)
          exact ⟨_, _, tp2, tc2, tq2, t2, r2, rfl, rfl, hr2, ((h.front (n := 7) rfl).front (n := 1) rfl)⟩
        · skip
          refine ⟨?_, trivial⟩
          refine h.alloc (fun w358 h ew358 nw358 => ?_)
          refine ⟨⟨_, h.rdR 9 rfl hq hx rfl, _, h.rdR 9 rfl hq hx rfl, _, h.rdR 9 rfl hq hx rfl, _, h.rdR 9 rfl hq hx rfl, _, h.rdR 9 rfl hq hx rfl, _, h.rdR 9 rfl hq hx rfl, _, h.rdR 9 rfl hq hx rfl, x.t, h.rdR 9 rfl hq hx rfl, rfl⟩, ?_⟩
          refine ⟨⟨_, h.cell 3 rfl rfl, tp, h.cell 3 rfl rfl, tc, h.cell 3 rfl rfl, tq, h.cell 3 rfl rfl, rfl⟩, ?_⟩
          refine ⟨?_, trivial⟩
          have hil : ILent _ tp tc tq r.abs := ⟨ipc_at (F := []) ((((((h.dropAt 10).dropAt 9).dropAt 3).dropAt 2).dropAt 1).dropAt 0) hiw, hiw⟩
          have hby : ByAt _ x.t x.o.Data := SH.byAt (SH.bagOut ((((((((((h.dropAt 9).dropAt 8).dropAt 7).dropAt 6).dropAt 5).dropAt 4).dropAt 3).dropAt 2).dropAt 1).dropAt 0) hx) 0 rfl hxo.by_.rng (by have := hxo.by_.few; omega)
          have hcall := s36 (o := x.o) hil hby (by have := hxo.by_.few; omega)
          rw [hst] at hcall
          refine hcall.mono ?_
          rintro _ w372 ⟨tp2, tc2, tq2, t2, r2, rfl, hr2, g⟩
          have h : SH w2 w372 (rD t2 res.2.Data :: rP tp2 r2.Ports :: bP r2.Ports :: rC tc2 r2.Caps :: rQ tq2 r2.Pipes :: bQ r2.Pipes :: BI w345.heap.size 0 N0 N0 N0 :: BR w25.drew.heap.size 0 0 N0 0 :: aRow l26 1 (nums .i64 ids) :: BI w8.heap.size r.Next tp tc tq :: rP tp r.Ports :: bP r.Ports :: rC tc r.Caps :: rQ tq r.Pipes :: bQ r.Pipes :: rO l9 rs :: bO rs :: []) := h.seq g
          refine ⟨_, tp2, tc2, tq2, _, _, t2, _, rfl, ?_⟩
          refine ⟨?_, trivial⟩
          refine h.put 6 rfl rfl rfl (fun w381 h nw381 => ?_)
          refine ⟨?_, trivial⟩
          refine h.put 7 rfl rfl rfl (fun w382 h nw382 => ?_)
          exact ⟨_, _, tp2, tc2, tq2, t2, r2, rfl, rfl, hr2, ((h.front (n := 7) rfl).front (n := 7) rfl)⟩
  clear h
  rintro (p27 : Option Addr) (p28 : Option Addr) w30 ⟨a, c, tp2, tc2, tq2, t, r2, rfl, rfl, hr2, h⟩
  have h := h.drew
  refine JoinW.cut1 (fun (p31 : Option Addr) w' => ∃ (c3 : Nat) (t3 : Sl), p31 = some ⟨c3, 0, none⟩ ∧ SH w2 w' (BR c3 res.2.Code res.2.N t3 res.2.From :: BI a r2.Next tp2 tc2 tq2 :: BR c res.2.Code res.2.N t res.2.From :: rD t res.2.Data :: rP tp2 r2.Ports :: bP r2.Ports :: rC tc2 r2.Caps :: rQ tq2 r2.Pipes :: bQ r2.Pipes :: aRow l26 1 (nums .i64 ids) :: BI w8.heap.size r.Next tp tc tq :: rP tp r.Ports :: bP r.Ports :: rC tc r.Caps :: rQ tq r.Pipes :: bQ r.Pipes :: rO l9 rs :: bO rs :: [])) ?_ ?_
  · skip
    refine ⟨_, h.cell 9 rfl rfl, tp, h.cell 9 rfl rfl, tc, h.cell 9 rfl rfl, tq, h.cell 9 rfl rfl, ?_⟩
    refine ⟨by omega, ?_⟩
    refine ⟨by omega, ?_⟩
    refine ⟨q, hq, ?_⟩
    refine ⟨_, h.rdR 15 rfl hq hx rfl, _, h.rdR 15 rfl hq hx rfl, _, h.rdR 15 rfl hq hx rfl, _, h.rdR 15 rfl hq hx rfl, _, h.rdR 15 rfl hq hx rfl, _, h.rdR 15 rfl hq hx rfl, _, h.rdR 15 rfl hq hx rfl, x.t, h.rdR 15 rfl hq hx rfl, ?_⟩
    refine ⟨?_, ?_⟩
    · skip
      have hil : ILent _ tp tc tq r.abs := ⟨ipc_at (F := []) ((((((((((((h.dropAt 16).dropAt 15).dropAt 9).dropAt 8).dropAt 7).dropAt 6).dropAt 5).dropAt 4).dropAt 3).dropAt 2).dropAt 1).dropAt 0) hiw, hiw⟩
      have hby : ByAt _ x.t x.o.Data := SH.byAt (SH.bagOut ((((((((((((((((h.dropAt 15).dropAt 14).dropAt 13).dropAt 12).dropAt 11).dropAt 10).dropAt 9).dropAt 8).dropAt 7).dropAt 6).dropAt 5).dropAt 4).dropAt 3).dropAt 2).dropAt 1).dropAt 0) hx) 0 rfl hxo.by_.rng (by have := hxo.by_.few; omega)
      have hcall := s37 (o := x.o) hil hby (by have := hxo.by_.few; omega)
      rw [hst] at hcall
      refine hcall.mono ?_
      rintro _ w267 ⟨tp3, tc3, tq3, t3, r3, rfl, hr3, g⟩
      have h : SH w2 w267 (rD t3 res.2.Data :: rP tp3 r3.Ports :: bP r3.Ports :: rC tc3 r3.Caps :: rQ tq3 r3.Pipes :: bQ r3.Pipes :: BI a r2.Next tp2 tc2 tq2 :: BR c res.2.Code res.2.N t res.2.From :: rD t res.2.Data :: rP tp2 r2.Ports :: bP r2.Ports :: rC tc2 r2.Caps :: rQ tq2 r2.Pipes :: bQ r2.Pipes :: aRow l26 1 (nums .i64 ids) :: BI w8.heap.size r.Next tp tc tq :: rP tp r.Ports :: bP r.Ports :: rC tc r.Caps :: rQ tq r.Pipes :: bQ r.Pipes :: rO l9 rs :: bO rs :: []) := h.seq g
      refine ⟨_, tp3, tc3, tq3, _, _, t3, _, rfl, ?_⟩
      refine ⟨?_, ?_⟩
      · skip
        refine h.alloc (fun w304 h ew304 nw304 => ?_)
        refine ⟨⟨_, h.rdR 22 rfl hq hx rfl, _, h.rdR 22 rfl hq hx rfl, _, h.rdR 22 rfl hq hx rfl, _, h.rdR 22 rfl hq hx rfl, _, h.rdR 22 rfl hq hx rfl, _, h.rdR 22 rfl hq hx rfl, _, h.rdR 22 rfl hq hx rfl, x.t, h.rdR 22 rfl hq hx rfl, rfl⟩, ?_⟩
        refine ⟨⟨_, h.cell 16 rfl rfl, tp, h.cell 16 rfl rfl, tc, h.cell 16 rfl rfl, tq, h.cell 16 rfl rfl, rfl⟩, ?_⟩
        refine ⟨?_, trivial⟩
        refine h.alloc (fun w317 h ew317 nw317 => ?_)
        refine ⟨⟨_, h.rdR 23 rfl hq hx rfl, _, h.rdR 23 rfl hq hx rfl, _, h.rdR 23 rfl hq hx rfl, _, h.rdR 23 rfl hq hx rfl, _, h.rdR 23 rfl hq hx rfl, _, h.rdR 23 rfl hq hx rfl, _, h.rdR 23 rfl hq hx rfl, x.t, h.rdR 23 rfl hq hx rfl, rfl⟩, ?_⟩
        refine ⟨⟨_, h.cell 17 rfl rfl, tp, h.cell 17 rfl rfl, tc, h.cell 17 rfl rfl, tq, h.cell 17 rfl rfl, rfl⟩, ?_⟩
        refine ⟨?_, trivial⟩
        refine h.put 1 rfl rfl rfl (fun w330 h nw330 => ?_)
        refine ⟨?_, trivial⟩
        refine h.put 0 rfl rfl rfl (fun w331 h nw331 => ?_)
        exact ⟨_, t3, rfl, (((((((h.dropAt 7).dropAt 6).dropAt 5).dropAt 4).dropAt 3).dropAt 2).dropAt 1)⟩
      · skip
        refine ⟨?_, trivial⟩
        refine h.alloc (fun w276 h ew276 nw276 => ?_)
        refine ⟨⟨_, h.rdR 22 rfl hq hx rfl, _, h.rdR 22 rfl hq hx rfl, _, h.rdR 22 rfl hq hx rfl, _, h.rdR 22 rfl hq hx rfl, _, h.rdR 22 rfl hq hx rfl, _, h.rdR 22 rfl hq hx rfl, _, h.rdR 22 rfl hq hx rfl, x.t, h.rdR 22 rfl hq hx rfl, rfl⟩, ?_⟩
        refine ⟨⟨_, h.cell 16 rfl rfl, tp, h.cell 16 rfl rfl, tc, h.cell 16 rfl rfl, tq, h.cell 16 rfl rfl, rfl⟩, ?_⟩
        refine ⟨?_, trivial⟩
        refine h.alloc (fun w289 h ew289 nw289 => ?_)
        refine ⟨⟨_, h.rdR 23 rfl hq hx rfl, _, h.rdR 23 rfl hq hx rfl, _, h.rdR 23 rfl hq hx rfl, _, h.rdR 23 rfl hq hx rfl, _, h.rdR 23 rfl hq hx rfl, _, h.rdR 23 rfl hq hx rfl, _, h.rdR 23 rfl hq hx rfl, x.t, h.rdR 23 rfl hq hx rfl, rfl⟩, ?_⟩
        refine ⟨⟨_, h.cell 17 rfl rfl, tp, h.cell 17 rfl rfl, tc, h.cell 17 rfl rfl, tq, h.cell 17 rfl rfl, rfl⟩, ?_⟩
        refine ⟨?_, trivial⟩
        refine h.put 0 rfl rfl rfl (fun w302 h nw302 => ?_)
        refine ⟨?_, trivial⟩
        refine h.put 1 rfl rfl rfl (fun w303 h nw303 => ?_)
        exact ⟨_, t3, rfl, (((((((h.dropAt 7).dropAt 6).dropAt 5).dropAt 4).dropAt 3).dropAt 2).dropAt 0)⟩
    · skip
      refine ⟨?_, ?_⟩
      · skip
        refine h.alloc (fun w203 h ew203 nw203 => ?_)
        refine ⟨⟨_, h.rdR 16 rfl hq hx rfl, _, h.rdR 16 rfl hq hx rfl, _, h.rdR 16 rfl hq hx rfl, _, h.rdR 16 rfl hq hx rfl, _, h.rdR 16 rfl hq hx rfl, _, h.rdR 16 rfl hq hx rfl, _, h.rdR 16 rfl hq hx rfl, x.t, h.rdR 16 rfl hq hx rfl, rfl⟩, ?_⟩
        refine ⟨⟨_, h.cell 10 rfl rfl, tp, h.cell 10 rfl rfl, tc, h.cell 10 rfl rfl, tq, h.cell 10 rfl rfl, rfl⟩, ?_⟩
        refine ⟨?_, ?_⟩
        · skip
          have hil : ILent _ tp tc tq r.abs := ⟨ipc_at (F := []) (((((((((((((h.dropAt 17).dropAt 16).dropAt 10).dropAt 9).dropAt 8).dropAt 7).dropAt 6).dropAt 5).dropAt 4).dropAt 3).dropAt 2).dropAt 1).dropAt 0) hiw, hiw⟩
          have hby : ByAt _ x.t x.o.Data := SH.byAt (SH.bagOut (((((((((((((((((h.dropAt 16).dropAt 15).dropAt 14).dropAt 13).dropAt 12).dropAt 11).dropAt 10).dropAt 9).dropAt 8).dropAt 7).dropAt 6).dropAt 5).dropAt 4).dropAt 3).dropAt 2).dropAt 1).dropAt 0) hx) 0 rfl hxo.by_.rng (by have := hxo.by_.few; omega)
          have hcall := s37 (o := x.o) hil hby (by have := hxo.by_.few; omega)
          rw [hst] at hcall
          refine hcall.mono ?_
          rintro _ w242 ⟨tp3, tc3, tq3, t3, r3, rfl, hr3, g⟩
          have h : SH w2 w242 (rD t3 res.2.Data :: rP tp3 r3.Ports :: bP r3.Ports :: rC tc3 r3.Caps :: rQ tq3 r3.Pipes :: bQ r3.Pipes :: BI w30.drew.heap.size 0 N0 N0 N0 :: BI a r2.Next tp2 tc2 tq2 :: BR c res.2.Code res.2.N t res.2.From :: rD t res.2.Data :: rP tp2 r2.Ports :: bP r2.Ports :: rC tc2 r2.Caps :: rQ tq2 r2.Pipes :: bQ r2.Pipes :: aRow l26 1 (nums .i64 ids) :: BI w8.heap.size r.Next tp tc tq :: rP tp r.Ports :: bP r.Ports :: rC tc r.Caps :: rQ tq r.Pipes :: bQ r.Pipes :: rO l9 rs :: bO rs :: []) := h.seq g
          refine ⟨_, tp3, tc3, tq3, _, _, t3, _, rfl, ?_⟩
          refine ⟨?_, trivial⟩
          refine h.alloc (fun w251 h ew251 nw251 => ?_)
          refine ⟨⟨_, h.rdR 23 rfl hq hx rfl, _, h.rdR 23 rfl hq hx rfl, _, h.rdR 23 rfl hq hx rfl, _, h.rdR 23 rfl hq hx rfl, _, h.rdR 23 rfl hq hx rfl, _, h.rdR 23 rfl hq hx rfl, _, h.rdR 23 rfl hq hx rfl, x.t, h.rdR 23 rfl hq hx rfl, rfl⟩, ?_⟩
          refine ⟨⟨_, h.cell 17 rfl rfl, tp, h.cell 17 rfl rfl, tc, h.cell 17 rfl rfl, tq, h.cell 17 rfl rfl, rfl⟩, ?_⟩
          refine ⟨?_, trivial⟩
          refine h.put 7 rfl rfl rfl (fun w264 h nw264 => ?_)
          refine ⟨?_, trivial⟩
          refine h.put 0 rfl rfl rfl (fun w265 h nw265 => ?_)
          exact ⟨_, t3, rfl, (((((((h.dropAt 7).dropAt 6).dropAt 5).dropAt 4).dropAt 3).dropAt 2).dropAt 1)⟩
        · skip
          refine ⟨?_, trivial⟩
          refine h.alloc (fun w216 h ew216 nw216 => ?_)
          refine ⟨⟨_, h.rdR 17 rfl hq hx rfl, _, h.rdR 17 rfl hq hx rfl, _, h.rdR 17 rfl hq hx rfl, _, h.rdR 17 rfl hq hx rfl, _, h.rdR 17 rfl hq hx rfl, _, h.rdR 17 rfl hq hx rfl, _, h.rdR 17 rfl hq hx rfl, x.t, h.rdR 17 rfl hq hx rfl, rfl⟩, ?_⟩
          refine ⟨⟨_, h.cell 11 rfl rfl, tp, h.cell 11 rfl rfl, tc, h.cell 11 rfl rfl, tq, h.cell 11 rfl rfl, rfl⟩, ?_⟩
          refine ⟨?_, trivial⟩
          have hil : ILent _ tp tc tq r.abs := ⟨ipc_at (F := []) ((((((((((((((h.dropAt 18).dropAt 17).dropAt 11).dropAt 10).dropAt 9).dropAt 8).dropAt 7).dropAt 6).dropAt 5).dropAt 4).dropAt 3).dropAt 2).dropAt 1).dropAt 0) hiw, hiw⟩
          have hby : ByAt _ x.t x.o.Data := SH.byAt (SH.bagOut ((((((((((((((((((h.dropAt 17).dropAt 16).dropAt 15).dropAt 14).dropAt 13).dropAt 12).dropAt 11).dropAt 10).dropAt 9).dropAt 8).dropAt 7).dropAt 6).dropAt 5).dropAt 4).dropAt 3).dropAt 2).dropAt 1).dropAt 0) hx) 0 rfl hxo.by_.rng (by have := hxo.by_.few; omega)
          have hcall := s37 (o := x.o) hil hby (by have := hxo.by_.few; omega)
          rw [hst] at hcall
          refine hcall.mono ?_
          rintro _ w230 ⟨tp3, tc3, tq3, t3, r3, rfl, hr3, g⟩
          have h : SH w2 w230 (rD t3 res.2.Data :: rP tp3 r3.Ports :: bP r3.Ports :: rC tc3 r3.Caps :: rQ tq3 r3.Pipes :: bQ r3.Pipes :: BR w203.heap.size 0 0 N0 0 :: BI w30.drew.heap.size 0 N0 N0 N0 :: BI a r2.Next tp2 tc2 tq2 :: BR c res.2.Code res.2.N t res.2.From :: rD t res.2.Data :: rP tp2 r2.Ports :: bP r2.Ports :: rC tc2 r2.Caps :: rQ tq2 r2.Pipes :: bQ r2.Pipes :: aRow l26 1 (nums .i64 ids) :: BI w8.heap.size r.Next tp tc tq :: rP tp r.Ports :: bP r.Ports :: rC tc r.Caps :: rQ tq r.Pipes :: bQ r.Pipes :: rO l9 rs :: bO rs :: []) := h.seq g
          refine ⟨_, tp3, tc3, tq3, _, _, t3, _, rfl, ?_⟩
          refine ⟨?_, trivial⟩
          refine h.put 7 rfl rfl rfl (fun w239 h nw239 => ?_)
          refine ⟨?_, trivial⟩
          refine h.put 6 rfl rfl rfl (fun w240 h nw240 => ?_)
          exact ⟨_, t3, rfl, (((((((h.dropAt 7).dropAt 5).dropAt 4).dropAt 3).dropAt 2).dropAt 1).dropAt 0)⟩
      · skip
        refine ⟨?_, trivial⟩
        refine h.alloc (fun w140 h ew140 nw140 => ?_)
        refine ⟨⟨_, h.rdR 16 rfl hq hx rfl, _, h.rdR 16 rfl hq hx rfl, _, h.rdR 16 rfl hq hx rfl, _, h.rdR 16 rfl hq hx rfl, _, h.rdR 16 rfl hq hx rfl, _, h.rdR 16 rfl hq hx rfl, _, h.rdR 16 rfl hq hx rfl, x.t, h.rdR 16 rfl hq hx rfl, rfl⟩, ?_⟩
        refine ⟨⟨_, h.cell 10 rfl rfl, tp, h.cell 10 rfl rfl, tc, h.cell 10 rfl rfl, tq, h.cell 10 rfl rfl, rfl⟩, ?_⟩
        refine ⟨?_, ?_⟩
        · skip
          have hil : ILent _ tp tc tq r.abs := ⟨ipc_at (F := []) (((((((((((((h.dropAt 17).dropAt 16).dropAt 10).dropAt 9).dropAt 8).dropAt 7).dropAt 6).dropAt 5).dropAt 4).dropAt 3).dropAt 2).dropAt 1).dropAt 0) hiw, hiw⟩
          have hby : ByAt _ x.t x.o.Data := SH.byAt (SH.bagOut (((((((((((((((((h.dropAt 16).dropAt 15).dropAt 14).dropAt 13).dropAt 12).dropAt 11).dropAt 10).dropAt 9).dropAt 8).dropAt 7).dropAt 6).dropAt 5).dropAt 4).dropAt 3).dropAt 2).dropAt 1).dropAt 0) hx) 0 rfl hxo.by_.rng (by have := hxo.by_.few; omega)
          have hcall := s37 (o := x.o) hil hby (by have := hxo.by_.few; omega)
          rw [hst] at hcall
          refine hcall.mono ?_
          rintro _ w179 ⟨tp3, tc3, tq3, t3, r3, rfl, hr3, g⟩
          have h : SH w2 w179 (rD t3 res.2.Data :: rP tp3 r3.Ports :: bP r3.Ports :: rC tc3 r3.Caps :: rQ tq3 r3.Pipes :: bQ r3.Pipes :: BR w30.drew.heap.size 0 0 N0 0 :: BI a r2.Next tp2 tc2 tq2 :: BR c res.2.Code res.2.N t res.2.From :: rD t res.2.Data :: rP tp2 r2.Ports :: bP r2.Ports :: rC tc2 r2.Caps :: rQ tq2 r2.Pipes :: bQ r2.Pipes :: aRow l26 1 (nums .i64 ids) :: BI w8.heap.size r.Next tp tc tq :: rP tp r.Ports :: bP r.Ports :: rC tc r.Caps :: rQ tq r.Pipes :: bQ r.Pipes :: rO l9 rs :: bO rs :: []) := h.seq g
          refine ⟨_, tp3, tc3, tq3, _, _, t3, _, rfl, ?_⟩
          refine ⟨?_, trivial⟩
          refine h.alloc (fun w188 h ew188 nw188 => ?_)
          refine ⟨⟨_, h.rdR 23 rfl hq hx rfl, _, h.rdR 23 rfl hq hx rfl, _, h.rdR 23 rfl hq hx rfl, _, h.rdR 23 rfl hq hx rfl, _, h.rdR 23 rfl hq hx rfl, _, h.rdR 23 rfl hq hx rfl, _, h.rdR 23 rfl hq hx rfl, x.t, h.rdR 23 rfl hq hx rfl, rfl⟩, ?_⟩
          refine ⟨⟨_, h.cell 17 rfl rfl, tp, h.cell 17 rfl rfl, tc, h.cell 17 rfl rfl, tq, h.cell 17 rfl rfl, rfl⟩, ?_⟩
          refine ⟨?_, trivial⟩
          refine h.put 0 rfl rfl rfl (fun w201 h nw201 => ?_)
          refine ⟨?_, trivial⟩
          refine h.put 7 rfl rfl rfl (fun w202 h nw202 => ?_)
          exact ⟨_, t3, rfl, (((((((h.dropAt 6).dropAt 5).dropAt 4).dropAt 3).dropAt 2).dropAt 1).dropAt 0)⟩
        · skip
          refine ⟨?_, trivial⟩
          refine h.alloc (fun w153 h ew153 nw153 => ?_)
          refine ⟨⟨_, h.rdR 17 rfl hq hx rfl, _, h.rdR 17 rfl hq hx rfl, _, h.rdR 17 rfl hq hx rfl, _, h.rdR 17 rfl hq hx rfl, _, h.rdR 17 rfl hq hx rfl, _, h.rdR 17 rfl hq hx rfl, _, h.rdR 17 rfl hq hx rfl, x.t, h.rdR 17 rfl hq hx rfl, rfl⟩, ?_⟩
          refine ⟨⟨_, h.cell 11 rfl rfl, tp, h.cell 11 rfl rfl, tc, h.cell 11 rfl rfl, tq, h.cell 11 rfl rfl, rfl⟩, ?_⟩
          refine ⟨?_, trivial⟩
          have hil : ILent _ tp tc tq r.abs := ⟨ipc_at (F := []) ((((((((((((((h.dropAt 18).dropAt 17).dropAt 11).dropAt 10).dropAt 9).dropAt 8).dropAt 7).dropAt 6).dropAt 5).dropAt 4).dropAt 3).dropAt 2).dropAt 1).dropAt 0) hiw, hiw⟩
          have hby : ByAt _ x.t x.o.Data := SH.byAt (SH.bagOut ((((((((((((((((((h.dropAt 17).dropAt 16).dropAt 15).dropAt 14).dropAt 13).dropAt 12).dropAt 11).dropAt 10).dropAt 9).dropAt 8).dropAt 7).dropAt 6).dropAt 5).dropAt 4).dropAt 3).dropAt 2).dropAt 1).dropAt 0) hx) 0 rfl hxo.by_.rng (by have := hxo.by_.few; omega)
          have hcall := s37 (o := x.o) hil hby (by have := hxo.by_.few; omega)
          rw [hst] at hcall
          refine hcall.mono ?_
          rintro _ w167 ⟨tp3, tc3, tq3, t3, r3, rfl, hr3, g⟩
          have h : SH w2 w167 (rD t3 res.2.Data :: rP tp3 r3.Ports :: bP r3.Ports :: rC tc3 r3.Caps :: rQ tq3 r3.Pipes :: bQ r3.Pipes :: BI w140.heap.size 0 N0 N0 N0 :: BR w30.drew.heap.size 0 0 N0 0 :: BI a r2.Next tp2 tc2 tq2 :: BR c res.2.Code res.2.N t res.2.From :: rD t res.2.Data :: rP tp2 r2.Ports :: bP r2.Ports :: rC tc2 r2.Caps :: rQ tq2 r2.Pipes :: bQ r2.Pipes :: aRow l26 1 (nums .i64 ids) :: BI w8.heap.size r.Next tp tc tq :: rP tp r.Ports :: bP r.Ports :: rC tc r.Caps :: rQ tq r.Pipes :: bQ r.Pipes :: rO l9 rs :: bO rs :: []) := h.seq g
          refine ⟨_, tp3, tc3, tq3, _, _, t3, _, rfl, ?_⟩
          refine ⟨?_, trivial⟩
          refine h.put 6 rfl rfl rfl (fun w176 h nw176 => ?_)
          refine ⟨?_, trivial⟩
          refine h.put 7 rfl rfl rfl (fun w177 h nw177 => ?_)
          exact ⟨_, t3, rfl, (((((((h.dropAt 6).dropAt 5).dropAt 4).dropAt 3).dropAt 2).dropAt 1).dropAt 0)⟩
  clear h
  rintro (p31 : Option Addr) w33 ⟨c3, t3, rfl, h⟩
  refine addrOf_mk ⟨_, h.cellP 2 rfl rfl, addrOf_mk ⟨_, h.cellP 0 rfl rfl, ?_⟩⟩
  refine BIf.f (by simp) ?_
  have h := h.drop
  refine addrOf_mk ⟨_, h.cellP 0 rfl rfl, tp2, h.cellP 0 rfl rfl, tc2, h.cellP 0 rfl rfl, tq2, h.cellP 0 rfl rfl, ?_⟩
  have hj2 : J0 r2.abs := by rw [hr2]; exact hsj.j
  have hh2 : HasJ r2.abs := by rw [hr2]; exact hsj.has
  have hn2 : r2.abs.Next ≤ r.abs.Next + 2 := by rw [hr2]; exact hsj.nx
  have hio2 : IOk r2.abs := hj2.iok hh2 (by omega)
  have hiw2 := hj2.wf
  have hd2 : ∀ {w'}, SH w2 w' (BI a r2.Next tp2 tc2 tq2 :: BR c res.2.Code res.2.N t res.2.From :: rD t res.2.Data :: rP tp2 r2.Ports :: bP r2.Ports :: rC tc2 r2.Caps :: rQ tq2 r2.Pipes :: bQ r2.Pipes :: aRow l26 1 (nums .i64 ids) :: BI w8.heap.size r.Next tp tc tq :: rP tp r.Ports :: bP r.Ports :: rC tc r.Caps :: rQ tq r.Pipes :: bQ r.Pipes :: rO l9 rs :: bO rs :: []) → IpcAt w' tp2 tc2 tq2 r2.abs := fun h => ipc_at (F := _ :: _ :: _ :: _ :: _ :: _ :: _ :: _ :: _ :: []) h.drop.drop.drop hiw2
  refine (c10 (hd2 h) hiw2.pw.pipes).mono ?_
  rintro _ w44 ⟨b, rfl, hiff2, e44⟩
  obtain rfl : b = true := hiff2.2 hio2
  have h := h.to e44
  refine ⟨_, rfl, BIf.f rfl ?_⟩
  have htcl : tc.len = r.Caps.length := by have := h.len 12 rfl; rw [recs_len] at this; exact this
  have htcl2 : tc2.len = r2.Caps.length := by have := h.len 5 rfl; rw [recs_len] at this; exact this
  have htpl : tp.len = r.Ports.length := by have := h.len 10 rfl; rw [recs_len] at this; exact this
  have htpl2 : tp2.len = r2.Ports.length := by have := h.len 3 rfl; rw [recs_len] at this; exact this
  have htql : tq.len = r.Pipes.length := by have := h.len 13 rfl; rw [recs_len] at this; exact this
  have htql2 : tq2.len = r2.Pipes.length := by have := h.len 6 rfl; rw [recs_len] at this; exact this
  refine JoinW.cut0 (fun w' => SH w2 w' (BI a r2.Next tp2 tc2 tq2 :: BR c res.2.Code res.2.N t res.2.From :: rD t res.2.Data :: rP tp2 r2.Ports :: bP r2.Ports :: rC tc2 r2.Caps :: rQ tq2 r2.Pipes :: bQ r2.Pipes :: aRow l26 1 (nums .i64 ids) :: BI w8.heap.size r.Next tp tc tq :: rP tp r.Ports :: bP r.Ports :: rC tc r.Caps :: rQ tq r.Pipes :: bQ r.Pipes :: rO l9 rs :: bO rs :: [])) ?_ ?_
  · refine ⟨by omega, by omega, q, hq, _, h.rdR 15 rfl hq hx rfl, ?_⟩
    refine JoinW.cut1 (fun (b : Bool) w' => b = decide (x.o.Kind = 3 ∧ res.2.Code = 0) ∧ w' = w44) ?_ ?_
    · refine BIf.eq (fun he => addrOf_mk ⟨_, h.cellP 1 rfl rfl, ?_, rfl⟩) (fun hn => ⟨?_, rfl⟩)
      · rw [Bool.eq_iff_iff, beq_iff_eq, decide_eq_true_iff]; exact ⟨fun hc => ⟨he, hc⟩, fun hc => hc.2⟩
      · exact (decide_eq_false (fun hc => hn hc.1)).symm
    rintro (b : Bool) w72 ⟨rfl, rfl⟩
    refine BIf.dec (fun hrk => ?_) (fun _ => h)
    have hrv := hrv hrk.1 hrk.2
    have hcaps : r2.Caps = revC r.abs x.o.Id := by
      have h1 : r2.abs.Caps = res.1.Caps := by rw [hr2]
      rw [hrv] at h1; exact h1
    have hN : res.2.N = (ids.length : Int) := by rw [hrv, hids]; exact (belowC_len hio).1.symm
    have hrl2 : (r2.Caps.length : Int) = (r.Caps.length : Int) - (ids.length : Int) := by rw [hcaps, hids]; exact rev_len hio
    have h := h.drew
    refine JoinW.cut1 (fun (b : Bool) w' => b = false ∧ SH w2 w' (BI a r2.Next tp2 tc2 tq2 :: BR c res.2.Code res.2.N t res.2.From :: rD t res.2.Data :: rP tp2 r2.Ports :: bP r2.Ports :: rC tc2 r2.Caps :: rQ tq2 r2.Pipes :: bQ r2.Pipes :: aRow l26 1 (nums .i64 ids) :: BI w8.heap.size r.Next tp tc tq :: rP tp r.Ports :: bP r.Ports :: rC tc r.Caps :: rQ tq r.Pipes :: bQ r.Pipes :: rO l9 rs :: bO rs :: [])) ?_ ?_
    · refine addrOf_mk ⟨_, h.cellP 1 rfl rfl, ?_⟩
      refine BIf.f (by rw [hN, hle]; simp) ?_
      refine addrOf_mk ⟨_, h.cellP 0 rfl rfl, tp2, h.cellP 0 rfl rfl, tc2, h.cellP 0 rfl rfl, tq2, h.cellP 0 rfl rfl, by omega, by omega, q, hq, _, h.rdR 15 rfl hq hx rfl, ?_⟩
      refine (c21 (top := x.o.Id) (hd2 h) hiw2.pw).mono ?_
      rintro _ w120 ⟨l121, rfl, g⟩
      have h121 : l121.len = 0 := by
        have h1 := g.len 0 rfl
        rw [below_rev (d := r.abs) (t := r2.abs) hcaps, nums_len] at h1
        exact h1
      have h := (h.seq g).drop
      refine ⟨l121, rfl, BIf.f (by rw [h121]; rfl) ?_⟩
      refine addrOf_mk ⟨tc2, h.cellP 0 rfl rfl, tc, h.cell 9 rfl rfl, ?_, h⟩
      rw [w64 (by omega) (by omega)]
      rw [bne_eq_false_iff_eq]
      omega
    clear h
    rintro (b : Bool) w75 ⟨rfl, h⟩
    refine BIf.f rfl ?_
    refine LoopW.m2 (fun (i j : Int) w' => ∃ m : Nat, j = m ∧ m ≤ r.Caps.length ∧ i = (((r.Caps.take m).filter (keepP r.abs x.o.Id)).length : Nat) ∧ SH w2 w' (BI a r2.Next tp2 tc2 tq2 :: BR c res.2.Code res.2.N t res.2.From :: rD t res.2.Data :: rP tp2 r2.Ports :: bP r2.Ports :: rC tc2 r2.Caps :: rQ tq2 r2.Pipes :: bQ r2.Pipes :: aRow l26 1 (nums .i64 ids) :: BI w8.heap.size r.Next tp tc tq :: rP tp r.Ports :: bP r.Ports :: rC tc r.Caps :: rQ tq r.Pipes :: bQ r.Pipes :: rO l9 rs :: bO rs :: [])) (fun _ (j : Int) _ => ((r.Caps.length : Int) - j).toNat) ⟨0, rfl, by omega, rfl, h⟩ ?_
    clear h
    rintro (n76 : Int) (n77 : Int) w79 ⟨m, rfl, hm, rfl, h⟩ J2 hJ2
    refine ⟨tc, h.cell 9 rfl rfl, ?_⟩
    refine BIf.dec (fun hlt2 => ?_) (fun _ => h)
    obtain ⟨y, hy⟩ : ∃ y, r.Caps[m]? = some y := ⟨_, List.getElem?_eq_getElem (by omega)⟩
    have hym := List.mem_of_getElem? hy
    obtain ⟨q4, hq4⟩ := h.rowQ 12 rfl hy
    have hfl := filter_len (p := keepP r.abs x.o.Id) (l := r.Caps) (k := m)
    simp only [Int.toNat_natCast]
    rw [w64 (n := (m : Int) + 1) (by omega) (by omega)]
    refine LoopW.m2 (fun (g : Bool) (j : Int) w' => ∃ u : Nat, j = u ∧ u ≤ ids.length ∧ g = decide (y.Id ∈ ids.take u) ∧ SH w2 w' (BI a r2.Next tp2 tc2 tq2 :: BR c res.2.Code res.2.N t res.2.From :: rD t res.2.Data :: rP tp2 r2.Ports :: bP r2.Ports :: rC tc2 r2.Caps :: rQ tq2 r2.Pipes :: bQ r2.Pipes :: aRow l26 1 (nums .i64 ids) :: BI w8.heap.size r.Next tp tc tq :: rP tp r.Ports :: bP r.Ports :: rC tc r.Caps :: rQ tq r.Pipes :: bQ r.Pipes :: rO l9 rs :: bO rs :: [])) (fun _ (j : Int) _ => ((ids.length : Int) - j).toNat) ⟨0, rfl, by omega, by simp, h⟩ ?_
    clear h
    rintro (g : Bool) (n82 : Int) w84 ⟨u, rfl, hu, rfl, h⟩ J3 hJ3
    refine BIf.dec (fun hlt3 => ?_) (fun hge3 => ?_)
    · obtain ⟨z, hz⟩ : ∃ z, ids[u]? = some z := ⟨_, List.getElem?_eq_getElem (by omega)⟩
      have htm := take_mem (y := y.Id) hz
      rw [w64 (n := (u : Int) + 1) (by omega) (by omega)]
      refine BIf.dec (fun hin => ?_) (fun hnin => ?_)
      · refine hJ3 _ _ _ ⟨u + 1, by omega, by omega, ?_, h.drew⟩ (by omega)
        exact (decide_eq_true (htm.2 (.inl hin))).symm
      · have h := h.drew
        obtain ⟨q3, hq3, hz3⟩ := h.elem0 8 rfl (nums_get hz) rfl
        simp only [Int.toNat_natCast]
        refine ⟨by omega, by omega, q3, hq3, _, hz3, tc, h.cell 9 rfl rfl, by omega, by omega, q4, hq4, _, h.rdR 12 rfl hq4 hy rfl, ?_⟩
        refine hJ3 _ _ _ ⟨u + 1, by omega, by omega, ?_, h⟩ (by omega)
        rw [Bool.eq_iff_iff, beq_iff_eq, decide_eq_true_iff, htm]
        exact ⟨fun hh => .inr hh, fun hh => hh.resolve_left hnin⟩
    · have hue : u = ids.length := by omega
      rw [hue, List.take_length]
      have hmem : y.Id ∈ ids ↔ Und r.abs x.o.Id y.Id := by rw [hids]; exact mem_below hio hym
      have hsn := filter_snoc (p := keepP r.abs x.o.Id) hy
      refine BIf.of (fun hn => ?_) (fun hn => ?_)
      · have hnu : ¬ Und r.abs x.o.Id y.Id := fun hu2 => by
          rw [decide_eq_true (hmem.2 hu2)] at hn; cases hn
        have hkeep : r2.Caps[((r.Caps.take m).filter (keepP r.abs x.o.Id)).length]? = some y := by rw [hcaps]; exact keep_at hy hnu
        have hkl := (List.getElem?_eq_some_iff.1 hkeep).1
        obtain ⟨q5, hq5⟩ := h.rowQ 5 rfl hkeep
        rw [if_pos (keepP_t hnu)] at hsn
        have h := h.drew
        refine JoinW.cut1 (fun (b : Bool) w' => b = false ∧ SH w2 w' (BI a r2.Next tp2 tc2 tq2 :: BR c res.2.Code res.2.N t res.2.From :: rD t res.2.Data :: rP tp2 r2.Ports :: bP r2.Ports :: rC tc2 r2.Caps :: rQ tq2 r2.Pipes :: bQ r2.Pipes :: aRow l26 1 (nums .i64 ids) :: BI w8.heap.size r.Next tp tc tq :: rP tp r.Ports :: bP r.Ports :: rC tc r.Caps :: rQ tq r.Pipes :: bQ r.Pipes :: rO l9 rs :: bO rs :: [])) ?_ ?_
        · refine addrOf_mk ⟨tc2, h.cellP 0 rfl rfl, ?_⟩
          refine BIf.f (decide_eq_false (by omega)) ?_
          simp only [Int.toNat_natCast]
          refine addrOf_mk ⟨tc2, h.cellP 0 rfl rfl, by omega, by omega, q5, hq5, _, h.rdR 5 rfl hq5 hkeep rfl, _, h.rdR 5 rfl hq5 hkeep rfl, _, h.rdR 5 rfl hq5 hkeep rfl, _, h.rdR 5 rfl hq5 hkeep rfl, _, h.rdR 5 rfl hq5 hkeep rfl, tc, h.cell 9 rfl rfl, by omega, by omega, q4, hq4, _, h.rdR 12 rfl hq4 hy rfl, _, h.rdR 12 rfl hq4 hy rfl, _, h.rdR 12 rfl hq4 hy rfl, _, h.rdR 12 rfl hq4 hy rfl, _, h.rdR 12 rfl hq4 hy rfl, same67, ?_, h⟩
          simp
        clear h
        rintro (b : Bool) w92 ⟨rfl, h⟩
        refine BIf.f rfl ?_
        rw [w64 (by omega) (by omega)]
        refine hJ2 _ _ _ ⟨m + 1, by omega, by omega, ?_, h⟩ (by omega)
        rw [hsn, List.length_append]; simp
      · have hu2 : Und r.abs x.o.Id y.Id := by
          apply Classical.byContradiction
          intro hnu
          rw [decide_eq_false (fun hh => hnu (hmem.1 hh))] at hn; cases hn
        rw [if_neg (by rw [keepP_f hu2]; decide), List.append_nil] at hsn
        refine hJ2 _ _ _ ⟨m + 1, by omega, by omega, ?_, h⟩ (by omega)
        rw [hsn]
  clear h
  rintro w47 h
  have hlens : res.2.Code ≠ 0 → r2.Caps.length = r.Caps.length ∧ r2.Ports.length = r.Ports.length ∧ r2.Pipes.length = r.Pipes.length := fun hc => by
    have h1 : r2.abs = r.abs := by rw [hr2]; exact heq hc
    have h2 : r2.abs.Caps = r.abs.Caps := by rw [h1]
    have h3 : r2.abs.Ports.length = r.abs.Ports.length := by rw [h1]
    have h4 : r2.abs.Pipes.length = r.abs.Pipes.length := by rw [h1]
    refine ⟨by have h5 : r2.Caps = r.Caps := h2; rw [h5], ?_, ?_⟩
    · have h5 : (r2.Ports.map RPort.abs).length = (r.Ports.map RPort.abs).length := h3
      rwa [List.length_map, List.length_map] at h5
    · have h5 : (r2.Pipes.map RPipe.abs).length = (r.Pipes.map RPipe.abs).length := h4
      rwa [List.length_map, List.length_map] at h5
  have f1 : r.Caps.length ≤ 128 := hj.caps
  have f2 : r.Ports.length ≤ 32 := by have := hj.ports; have h5 : (r.Ports.map RPort.abs).length ≤ 32 := this; rwa [List.length_map] at h5
  have f3 : r.Pipes.length ≤ 32 := by have := hj.pipes; have h5 : (r.Pipes.map RPipe.abs).length ≤ 32 := this; rwa [List.length_map] at h5
  refine addrOf_mk ⟨_, h.cellP 1 rfl rfl, ?_⟩
  refine JoinW.cut1 (fun (b : Bool) w' => b = false ∧ w' = w47) ?_ ?_
  · refine BIf.ne (fun hc => ?_) (fun _ => ⟨rfl, rfl⟩)
    obtain ⟨g1, g2, g3⟩ := hlens hc
    refine addrOf_mk ⟨tc2, h.cellP 0 rfl rfl, addrOf_mk ⟨tp2, h.cellP 0 rfl rfl, addrOf_mk ⟨tq2, h.cellP 0 rfl rfl, tc, h.cell 9 rfl rfl, tp, h.cell 9 rfl rfl, tq, h.cell 9 rfl rfl, ?_, rfl⟩⟩⟩
    rw [htcl, htcl2, htpl, htpl2, htql, htql2, g1, g2, g3]
    simp
  rintro (b : Bool) w52 ⟨rfl, rfl⟩
  refine BIf.f rfl ?_
  refine addrOf_mk ⟨_, h.cellP 0 rfl rfl, tp2, h.cellP 0 rfl rfl, tc2, h.cellP 0 rfl rfl, tq2, h.cellP 0 rfl rfl, ?_⟩
  refine h.put 9 rfl rfl rfl (fun w58 h n58 => ?_)
  refine hJ _ _ ⟨k + 1, r2, tp2, tc2, tq2, by omega, by omega, hj2, hh2, by omega, ?_⟩ (by omega)
  exact ((((((((((h.dropAt 14).dropAt 13).dropAt 12).dropAt 11).dropAt 10).dropAt 8).dropAt 2).dropAt 1).dropAt 0).front (n := 5) rfl)
open Go.RowKit in
theorem law_calls7 {w : World} {a0 : Option Addr} {len0 cap0 : Nat} {bs : List Int} (h0 : (cSlice (cInt .u8)).is w [.slice a0 len0 cap0] bs) : Calls Try.prog 7 #[.slice a0 len0 cap0] w (fun e w' => e = .returned (.bool true) ∧ Below w.heap.size w w') :=
  (walk7 (p0 := ⟨a0, len0, cap0⟩) (isD_mkSl (f := Dat.int .u8) h0 (fun es x hx => isD_mkInt hx))).mono (by rintro e w' ⟨v, rfl, rfl, he⟩; exact ⟨rfl, he.below⟩)
end Go.Proofs.Ytbimoajgofcmbaa

/- The row of the law FnCapsGone: what its walk shows is what the statement says. Conditions: none. -/
namespace Go.Proofs.Ytbimoajgofcmbaa.fnCapsGone
open Go.ChangeShapes Go.WideShapes Go.ChangeAt Go.RowKit
open Go.ChangeMaps (open_string shut_string)
set_option linter.unusedVariables false
theorem own : ownKnob Try.prog.godebug = none := by kernel_rfl
theorem laidOut : laidOutB Try.prog = true := by kernel_rfl
set_option maxRecDepth 100000 in
theorem lifted (os : Os) (started : os.Started) (H : Type) (enc : TypeId × Value → H) :
    ReturnsInHanded {} Try.checked os 7 .any (Rows.fnCapsGoneSpec.pre6 enc Try.prog Try.f7 Rows.fnCapsGoneRow.domain false) (Rows.fnCapsGoneSpec.post enc Try.prog Try.f7 false true false false) := by
  refine returnsInHanded_of_change_sized (C := Try.checked) own started (by kernel_rfl) Try.func7
    (ChangeSpec.witness6 (enc := enc) (C := Try.checked) false ⟨#[], #[.slice none 0 0], []⟩ 8 (by kernel_rfl) (by kernel_rfl) (by kernel_rfl) (by kernel_rfl)) ?_
  intro W base args ds gs before hval0 hW hcnd hsz0 _
  have hsz : (DataW.weightsEach Try.prog (Try.f7.params.toList ++ Rows.fnCapsGoneSpec.plain.varTypes Try.prog) (ds ++ gs)).all (· ≤ reachBytes) = true := hsz0
  have hval : ∀ (j : Nat) t v, Try.f7.params[j]? = some t → args[j]? = some v → Value.okWide Try.prog W .any base t v := hval0
  have hW' := hW
  obtain ⟨p, q, hA0, hV, rfl, hfz, hnd⟩ := hW
  have hA : DataW.TrodAll enc Try.prog W 0 (fun _ => true) true Try.f7.params.toList args.toList ds p := hA0
  rw [Try.params7] at hA hval hsz
  obtain ⟨v0, vs0, d0, ds0, p0, q0, hargs, rfl, rfl, h0, r0⟩ := trodAll_cons hA
  obtain ⟨rfl, rfl, rfl⟩ := trodAll_nil r0
  obtain rfl : args = #[v0] := by cases args; simp_all
  obtain ⟨rfl, rfl⟩ := trodVars_none hV
  have k0 := h0
  have lt0 : ∀ x ∈ p0, x.block < W.heap.size := by obtain ⟨m, hm⟩ := k0; exact DataW.trod_lt m _ _ _ hm
  obtain ⟨a0, len0, cap0, rfl⟩ := okWide_slice Try.underlying57 (hval 0 57 v0 rfl rfl)
  obtain ⟨x0, w0⟩ : ∃ x, (Go.Den.cSlice (Go.Den.cInt .u8)).is W [.slice a0 len0 cap0] x := by obtain ⟨fuel, hf⟩ := h0; exact ((o57).at_ enc W fuel _ _ hf).2
  clear hA0 hval0 hsz0 hsz
  refine (law_calls7 w0).mono fun e W' ⟨he, bel⟩ => ?_
  subst he
  exact ⟨_, rfl, _, _, _, [], _, [], hW', trodAll_mk1 (shut_bool Try.underlying4 _), (trodAll_cons_mk (Below.trod laidOut (by kernel_rfl) (of_decide_eq_true (by kernel_rfl)) k0 bel lt0) trodAll_mk0), rfl, bel.frame _, fun h => by cases h⟩
theorem over : Rows.fnCapsGoneRow.holds Try.pinned (OpenSpec.ofChange Rows.fnCapsGoneSpec) :=
  OpenClaim.holds_of_wide 7 Try.f7 rfl rfl rfl rfl rfl rfl rfl ⟨rfl, rfl, rfl, rfl, rfl⟩ rfl rfl rfl rfl rfl (by kernel_rfl) Try.func7 (by kernel_rfl)
    (of_decide_eq_true (by kernel_rfl)) (by unfold Func.isWrapper; first | (rw [if_pos (by decide +kernel)]; kernel_rfl) | (rw [if_neg (by decide +kernel)]; exact ⟨rfl, rfl⟩))
    (fun os started H enc _ => lifted os started H enc)
theorem proved : Rows.FnCapsGoneSaid := over
#print axioms proved
end Go.Proofs.Ytbimoajgofcmbaa.fnCapsGone
namespace Go.Proofs.Ytbimoajgofcmbaa
/-- The row, under a short name, for the claim. -/
theorem fnCapsGone_holds : Rows.FnCapsGoneSaid := fnCapsGone.proved
end Go.Proofs.Ytbimoajgofcmbaa
