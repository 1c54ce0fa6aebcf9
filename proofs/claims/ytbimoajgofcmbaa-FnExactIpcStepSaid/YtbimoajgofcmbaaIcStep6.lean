/- Part 6 of 7: plain readings of code, rules for them, and a proof over them, joined by a program. Conditions: none. -/
import Derived.Test.YtbimoajgofcmbaaIcStep5
set_option linter.unusedVariables false
set_option linter.unusedSimpArgs false
set_option linter.unusedSectionVars false
namespace Go.Proofs.Ytbimoajgofcmbaa
open Go Go.Den
theorem wf_setQ {d : DIpc} {k : Nat} {p : DPort} {q : List DMsg} (h : IWf d) (hq : ∀ m, m ∈ q → Byts m.Data) (hl : q.length ≤ 1048576) : IWf (setQ d k p q) := by
  refine ⟨fun x hx m hm => ?_, h.pipes, ⟨h.pw.pipes⟩, ⟨h.few.1, by show (d.Ports.set k _).length ≤ _; rw [List.length_set]; exact h.few.2.1, h.few.2.2⟩, fun x hx => ?_⟩
  · rcases List.mem_or_eq_of_mem_set hx with hx | rfl
    · exact h.msgs x hx m hm
    · exact hq m hm
  · rcases List.mem_or_eq_of_mem_set hx with hx | rfl
    · exact h.queues x hx
    · exact hl
set_option maxHeartbeats 2000000 in
theorem s118 {w0 w : World} {F : List Asr} {tp tc tq td : Sl} {r : RIpc} {o : DIpcOp} {c : DCap} {k0 : Nat} (h : SH w0 w (sP tp tc tq r ++ F)) (hw : IWf r.abs) (hi : IOk r.abs) (c2 : r.abs.Caps[k0]? = some c) :
    CallW Try.prog 118 #[iV r.Next tp tc tq, .agg ⟨opV o td⟩, .agg ⟨c.cells⟩] w (KS w0 F (recvI r.abs o c)) := by
  refine go118 (a0_0 := r.Next) (a0_1 := tp) (a0_2 := tc) (a0_3 := tq) (a1_0 := o.Kind) (a1_1 := o.Holder) (a1_2 := o.Id) (a1_3 := o.To) (a1_4 := o.Rights) (a1_5 := o.Cap) (a1_6 := o.N) (a1_7 := td) (a2_0 := c.Id) (a2_1 := c.Holder) (a2_2 := c.Port) (a2_3 := c.Rights) (a2_4 := c.Parent) ?_
  unfold W118; (try delta qn ql qb qi qS qI qP qQ qR qU qA qC H118_1 H118_0 H118_2 H118_3 H118_4)
  have h : SH w0 w (rP tp r.Ports :: bP r.Ports :: rC tc r.Caps :: rQ tq r.Pipes :: bQ r.Pipes :: F) := h
  have hnx : 0 ≤ r.Next ∧ r.Next ≤ 1099511627776 := hi.next
  have hfc : r.Caps.length ≤ 128 := hi.caps
  have hfp : r.Ports.length ≤ 32 := by rw [← abs_ports]; exact hi.ports
  have htp := h.len 0 rfl
  have hcl := h.len 2 rfl
  rw [recs_len] at hcl htp
  refine h.alloc (fun w1 h e1 n1 => ?_)
  refine h.alloc (fun w2 h e2 n2 => ?_)
  refine h.alloc (fun w3 h e3 n3 => ?_)
  refine h.alloc (fun w4 h e4 n4 => ?_)
  refine h.alloc (fun w5 h e5 n5 => ?_)
  have h : SH w0 w5 (BR w4.heap.size 0 0 N0 0 :: BI w3.heap.size 0 N0 N0 N0 :: BC w2.heap.size c :: BO w1.heap.size o td :: BI w.heap.size r.Next tp tc tq :: rP tp r.Ports :: bP r.Ports :: rC tc r.Caps :: rQ tq r.Pipes :: bQ r.Pipes :: F) := h
  generalize w4.heap.size = rb at *
  generalize w3.heap.size = ib at *
  generalize w2.heap.size = cb at *
  generalize w1.heap.size = ob at *
  generalize w.heap.size = b at *
  refine ⟨_, h.cell 2 rfl rfl, c87.mono ?_⟩
  rintro _ w8 ⟨rfl, rfl⟩
  refine ⟨_, rfl, ?_⟩
  refine BIf.of (fun hx => errS (M := [_, _]) (by unfold recvI; rw [if_pos (by simpa using hx)]) h) (fun hx => ?_)
  have ha2 : ¬ amongB 2 c.Rights = false := by simpa using hx
  have hat : IpcAt w8 tp tc tq r.abs := ipc_at (F := F) (SH.drop (SH.drop (SH.drop (SH.drop (SH.drop h))))) hw
  refine ⟨_, h.cell 4 rfl rfl, tp, h.cell 4 rfl rfl, tc, h.cell 4 rfl rfl, tq, h.cell 4 rfl rfl, _, h.cell 2 rfl rfl, (c85 hat).mono ?_⟩
  rintro _ w40 ⟨rfl, e40⟩
  have h := h.to e40
  refine ⟨_, rfl, ?_⟩
  rcases portIx_cases r.abs c.Port with ⟨e1, e2, e3⟩ | ⟨kp, P, e1, e2, e3, e4⟩
  · have := (hi.cap k0 c c2).port
    omega
  obtain ⟨x, hx, rfl⟩ := map_get e2
  have hx : r.Ports[kp]? = some x := hx
  have hlk : kp < r.Ports.length := (List.getElem?_eq_some_iff.1 hx).1
  have hq8 : x.Q.length ≤ 8 := by have := (hi.port kp x.abs e2).few; have e : x.abs.Queue.length = x.Q.length := List.length_map ..; omega
  obtain ⟨q, hq⟩ := h.rowQ 5 rfl hx
  rw [e1]
  simp only [Int.toNat_natCast]
  refine ⟨tp, h.cell 4 rfl rfl, by omega, by omega, q, hq, x.q, h.rdR 5 rfl hq hx rfl, ?_⟩
  have g : SH w0 w40 (rM x.q x.Q :: bM x.Q :: bP (r.Ports.eraseIdx kp) :: BR rb 0 0 N0 0 :: BI ib 0 N0 N0 N0 :: BC cb c :: BO ob o td :: BI b r.Next tp tc tq :: rP tp r.Ports :: rC tc r.Caps :: rQ tq r.Pipes :: bQ r.Pipes :: F) := SH.allOut (As := [rM x.q x.Q, bM x.Q]) (((((((((h.fro 5 rfl).fro 5 rfl).fro 5 rfl).fro 5 rfl).fro 5 rfl).fro 5 rfl).fro 6 rfl)).bagOut hx)
  have hql := g.len 0 rfl
  have hqc := g.lenCap 0 rfl
  rw [recs_len] at hql
  have hqa : x.abs.Queue = x.Q.map RMsg.abs := rfl
  refine BIf.eq (fun h0 => errS (M := [_, _]) (by
    have : x.Q = [] := List.eq_nil_of_length_eq_zero (by omega)
    unfold recvI; rw [if_neg ha2, e3]; dsimp only; rw [hqa, this]; rfl) h) (fun h0 => ?_)
  clear h
  obtain ⟨m, rest, hQ⟩ : ∃ m rest, x.Q = m :: rest := by
    cases hxq : x.Q with
    | nil => rw [hxq] at hql; simp at hql; omega
    | cons m rest => exact ⟨m, rest, rfl⟩
  have hm0 : x.Q[0]? = some m := by rw [hQ]; rfl
  have hmok := (hi.port kp x.abs e2).msgs m.abs (List.mem_map.2 ⟨m, by rw [hQ]; simp, rfl⟩)
  have hmcap : 0 ≤ m.Cap := hmok.2.2.2.1
  have hmby := hw.msgs x.abs (List.mem_of_getElem? e2) m.abs (List.mem_map.2 ⟨m, by rw [hQ]; simp, rfl⟩)
  have hmbl : m.Data.length ≤ 1048576 := hmby.few
  obtain ⟨qm, hqm⟩ := g.rowQ 0 rfl hm0
  refine ⟨tp, g.cell 7 rfl rfl, by omega, by omega, q, hq, x.q, g.rdR 8 rfl hq hx rfl, by omega, by omega, qm, hqm, _, g.rdR 0 rfl hqm hm0 rfl, m.D, g.rdR 0 rfl hqm hm0 rfl, _, g.rdR 0 rfl hqm hm0 rfl, ?_⟩
  refine g.alloc (fun w76 g e76 n76 => ?_)
  refine g.put 0 rfl rfl rfl (fun w77 g n77 => ?_)
  generalize w40.heap.size = mb at *
  have g : SH w0 w77 (aB mb (m.cells.map Ce.v) :: rM x.q x.Q :: bM x.Q :: bP (r.Ports.eraseIdx kp) :: BR rb 0 0 N0 0 :: BI ib 0 N0 N0 N0 :: BC cb c :: BO ob o td :: BI b r.Next tp tc tq :: rP tp r.Ports :: rC tc r.Caps :: rQ tq r.Pipes :: bQ r.Pipes :: F) := g
  have g := g.drew
  refine ⟨tp, g.cell 8 rfl rfl, tp, g.cell 8 rfl rfl, by omega, by omega, q, hq, x.q, g.rdR 9 rfl hq hx rfl, by omega, by omega, ?_⟩
  refine g.alloc (fun w82 g e82 n82 => ?_)
  refine ⟨⟨x.q, g.rdR 10 rfl hq hx rfl, rfl⟩, ⟨tp, g.cell 9 rfl rfl, rfl⟩, ⟨tp, g.cell 9 rfl rfl, rfl⟩, ?_⟩
  have hsuf := RowAt.suf (f := RMsg.cells) (z := 3) (i := 1) (fun _ => rfl) (g.rowR 2 rfl) hql hqc (by omega)
  refine SH.appendR (f := RMsg.cells) (l := []) (us := x.Q.drop 1) (g.drop.nil (some ⟨w77.drew.heap.size, 0, none⟩) 3) hsuf (by simp; omega) (fun _ => rfl) rfl rfl (by decide) (by show (_ + _) * 40 ≤ _; simp; omega) plain_msg (fun q2 w87 g hq2l _ => ?_)
  refine ⟨⟨tp, g.cell 9 rfl rfl, rfl⟩, by omega, by omega, q, hq, ?_⟩
  have hdr : x.Q.drop 1 = rest := by rw [hQ]; rfl
  have g : SH w0 w87 (rM q2 rest :: aB mb (m.cells.map Ce.v) :: rM x.q x.Q :: bM x.Q :: bP (r.Ports.eraseIdx kp) :: BR rb 0 0 N0 0 :: BI ib 0 N0 N0 N0 :: BC cb c :: BO ob o td :: BI b r.Next tp tc tq :: rP tp (r.Ports.set kp x) :: rC tc r.Caps :: rQ tq r.Pipes :: bQ r.Pipes :: F) := by rw [← set_at hx, ← hdr]; exact g
  refine g.setR 10 (⟨x.Id, q2, rest⟩ : RPort) rfl hq hlk (by show 1 < 2; omega) rfl (fun w90 g n90 => ?_)
  have g : SH w0 w90 (rM q2 rest :: aB mb (m.cells.map Ce.v) :: rM x.q x.Q :: bM x.Q :: bP (r.Ports.eraseIdx kp) :: BR rb 0 0 N0 0 :: BI ib 0 N0 N0 N0 :: BC cb c :: BO ob o td :: BI b r.Next tp tc tq :: rP tp (r.Ports.set kp ⟨x.Id, q2, rest⟩) :: rC tc r.Caps :: rQ tq r.Pipes :: bQ r.Pipes :: F) := g
  rw [hQ] at g
  have g := SH.bagUn ((((g.dropAt 2).fro 1 rfl).fro 1 rfl).fro 2 rfl)
  have g : SH w0 w90 (rD m.D m.Data :: bM rest :: rM q2 rest :: aB mb (m.cells.map Ce.v) :: bP (r.Ports.eraseIdx kp) :: BR rb 0 0 N0 0 :: BI ib 0 N0 N0 N0 :: BC cb c :: BO ob o td :: BI b r.Next tp tc tq :: rP tp (r.Ports.set kp ⟨x.Id, q2, rest⟩) :: rC tc r.Caps :: rQ tq r.Pipes :: bQ r.Pipes :: F) := g
  have g := SH.bagIn (f := portA) (y := (⟨x.Id, q2, rest⟩ : RPort)) hx (SH.allIn (As := [rM q2 rest, bM rest]) (((((g.fro 3 rfl).fro 1 rfl).fro 4 rfl).fro 3 rfl).fro 4 rfl))
  have g := (((((((((g.fro 0 rfl).fro 8 rfl).fro 8 rfl).fro 8 rfl).fro 8 rfl).fro 8 rfl).fro 8 rfl).fro 8 rfl).fro 8 rfl)
  have hrr : ∃ rr : RIpc, rr = ⟨r.Next, r.Ports.set kp ⟨x.Id, q2, rest⟩, r.Caps, r.Pipes⟩ := ⟨_, rfl⟩
  have habs : (⟨r.Next, r.Ports.set kp ⟨x.Id, q2, rest⟩, r.Caps, r.Pipes⟩ : RIpc).abs = setQ r.abs kp x.abs (rest.map RMsg.abs) := by
    unfold RIpc.abs setQ
    rw [List.map_set]
    rfl
  have hw2 : IWf (⟨r.Next, r.Ports.set kp ⟨x.Id, q2, rest⟩, r.Caps, r.Pipes⟩ : RIpc).abs := by
    rw [habs]
    refine wf_setQ hw (fun y hy => hw.msgs x.abs (List.mem_of_getElem? e2) y ?_) ?_
    · rw [hqa, hQ]; exact List.mem_cons_of_mem _ hy
    · rw [List.length_map]; rw [hQ] at hq8; simp at hq8; omega
  have hres : recvI r.abs o c = (match capOf r.abs m.abs.Cap with
        | none => (setQ r.abs kp x.abs (rest.map RMsg.abs), (⟨0, 0, m.abs.Data, m.abs.From⟩ : DIpcRes))
        | some x2 => if 0 < m.abs.Cap ∧ r.abs.Caps.length < 128 then (addCap (setQ r.abs kp x.abs (rest.map RMsg.abs)) o.Holder x2.Port x2.Rights m.abs.Cap, ⟨0, r.abs.Next + 1, m.abs.Data, m.abs.From⟩) else (setQ r.abs kp x.abs (rest.map RMsg.abs), ⟨0, 0, m.abs.Data, m.abs.From⟩)) := by
    unfold recvI; rw [if_neg ha2, e3]; dsimp only; rw [hqa, hQ, e1, Int.toNat_natCast]; rfl
  rw [← habs] at hres
  generalize hps : r.Ports.set kp ⟨x.Id, q2, rest⟩ = ps at *
  have hpl : ps.length = r.Ports.length := by rw [← hps, List.length_set]
  have g : SH w0 w90 (rD m.D m.Data :: aB mb (m.cells.map Ce.v) :: BR rb 0 0 N0 0 :: BI ib 0 N0 N0 N0 :: BC cb c :: BO ob o td :: BI b r.Next tp tc tq :: rP tp ps :: bP ps :: rC tc r.Caps :: rQ tq r.Pipes :: bQ r.Pipes :: F) := g
  have g := g.drew
  refine JoinW.cut1 (fun (p : Option Addr) w' => ∃ (ab : Nat) (t : Sl), p = some ⟨ab, 0, none⟩ ∧ SH w0 w' (BR ab 0 0 t m.From :: rD t m.Data :: rD m.D m.Data :: aB mb (m.cells.map Ce.v) :: BR rb 0 0 N0 0 :: BI ib 0 N0 N0 N0 :: BC cb c :: BO ob o td :: BI b r.Next tp tc tq :: rP tp ps :: bP ps :: rC tc r.Caps :: rQ tq r.Pipes :: bQ r.Pipes :: F)) ?_ ?_
  · refine ⟨m.D, g.cell 1 rfl rfl, _, g.cell 1 rfl rfl, ?_, ?_, trivial⟩
    · refine g.alloc (fun w170 g e170 n170 => ?_)
      refine ⟨⟨_, g.cell 2 rfl rfl, rfl⟩, ⟨m.D, g.cell 2 rfl rfl, rfl⟩, ?_, ?_, trivial⟩
      · refine SH.appendN (k := .u8) (m := []) (us := m.Data) (g.drop.nil (some ⟨w90.drew.heap.size, 0, none⟩) 1) (g.rowN 1 rfl) rfl rfl (by decide) (by show (_ + _) * 1 ≤ _; simp; omega) (fun t180 w181 g ht180 _ => ?_)
        refine ⟨⟨_, g.cell 2 rfl rfl, rfl⟩, ?_, trivial⟩
        refine g.alloc (fun w183 g e183 n183 => ?_)
        refine ⟨⟨_, g.cell 3 rfl rfl, rfl⟩, ⟨m.D, g.cell 3 rfl rfl, rfl⟩, ?_, trivial⟩
        refine g.put 0 rfl rfl rfl (fun w186 g n186 => ?_)
        exact ⟨_, t180, rfl, g⟩
      · refine g.alloc (fun w173 g e173 n173 => ?_)
        refine ⟨⟨_, g.cell 3 rfl rfl, rfl⟩, ⟨m.D, g.cell 3 rfl rfl, rfl⟩, ?_, trivial⟩
        refine SH.appendN (k := .u8) (m := []) (us := m.Data) ((g.dropAt 1).nil (some ⟨w90.drew.heap.size, 0, none⟩) 1) (g.rowN 2 rfl) rfl rfl (by decide) (by show (_ + _) * 1 ≤ _; simp; omega) (fun t176 w177 g ht176 _ => ?_)
        refine ⟨⟨_, g.cell 3 rfl rfl, rfl⟩, ?_, trivial⟩
        refine g.put 1 rfl rfl rfl (fun w179 g n179 => ?_)
        exact ⟨_, t176, rfl, g.p1⟩
    · refine g.alloc (fun w160 g e160 n160 => ?_)
      refine ⟨⟨_, g.cell 2 rfl rfl, rfl⟩, ⟨m.D, g.cell 2 rfl rfl, rfl⟩, ?_, trivial⟩
      refine g.alloc (fun w163 g e163 n163 => ?_)
      refine ⟨⟨_, g.cell 3 rfl rfl, rfl⟩, ⟨m.D, g.cell 3 rfl rfl, rfl⟩, ?_, trivial⟩
      refine SH.appendN (k := .u8) (m := []) (us := m.Data) (g.drop.nil (some ⟨w160.heap.size, 0, none⟩) 1) (g.rowN 2 rfl) rfl rfl (by decide) (by show (_ + _) * 1 ≤ _; simp; omega) (fun t166 w167 g ht166 _ => ?_)
      refine ⟨⟨_, g.cell 3 rfl rfl, rfl⟩, ?_, trivial⟩
      refine g.put 1 rfl rfl rfl (fun w169 g n169 => ?_)
      exact ⟨_, t166, rfl, g.p1⟩
  clear g
  rintro (p : Option Addr) w93 ⟨ab, t, rfl, h⟩
  have hat2 : IpcAt w93 tp tc tq (⟨r.Next, ps, r.Caps, r.Pipes⟩ : RIpc).abs := ipc_at (F := F) (r := ⟨r.Next, ps, r.Caps, r.Pipes⟩) (h.drop.drop.drop.drop.drop.drop.drop.drop.drop) hw2
  refine ⟨_, h.cell 8 rfl rfl, tp, h.cell 8 rfl rfl, tc, h.cell 8 rfl rfl, tq, h.cell 8 rfl rfl, _, h.cell 3 rfl rfl, (c86 hat2).mono ?_⟩
  rintro _ w100 ⟨rfl, e100⟩
  have h := h.to e100
  have hcx : capIx (⟨r.Next, ps, r.Caps, r.Pipes⟩ : RIpc).abs m.Cap = capIx r.abs m.Cap := rfl
  rw [hcx]
  refine ⟨_, rfl, ?_⟩
  refine JoinW.cut0 (fun w' => ∃ (tc2 : Sl) (n : Int) (rr : RIpc), rr.abs = (recvI r.abs o c).1 ∧ (recvI r.abs o c).2 = ⟨0, n, m.Data, m.From⟩ ∧ rr.Ports = ps ∧ rr.Pipes = r.Pipes ∧ SH w0 w' (BR ab 0 n t m.From :: rD t m.Data :: rD m.D m.Data :: aB mb (m.cells.map Ce.v) :: BR rb 0 0 N0 0 :: BI ib 0 N0 N0 N0 :: BC cb c :: BO ob o td :: BI b rr.Next tp tc2 tq :: rP tp ps :: bP ps :: rC tc2 rr.Caps :: rQ tq r.Pipes :: bQ r.Pipes :: F)) ?_ ?_
  · refine ⟨_, h.cell 3 rfl rfl, ?_⟩
    refine JoinW.cut1 (fun (y : Bool) w' => y = (decide (0 < m.Cap) && decide (0 ≤ capIx r.abs m.Cap)) ∧ w' = w100) (BIf.dec (fun hz => ⟨?_, rfl⟩) (fun hz => ⟨?_, rfl⟩)) ?_
    · rw [Bool.eq_iff_iff]; simp; omega
    · rw [Bool.eq_iff_iff]; simp; omega
    rintro (y : Bool) w131 ⟨rfl, rfl⟩
    refine JoinW.cut1 (fun (y : Bool) w' => y = (decide (0 < m.Cap) && decide (0 ≤ capIx r.abs m.Cap) && decide (r.Caps.length < 128)) ∧ w' = w131) (BIf.of (fun hy => ⟨tc, h.cell 8 rfl rfl, by rw [hy, Bool.true_and, Bool.eq_iff_iff]; simp; omega, rfl⟩) (fun hy => ⟨by rw [hy]; rfl, rfl⟩)) ?_
    rintro (y : Bool) w134 ⟨rfl, rfl⟩
    rcases capIx_cases r.abs m.Cap with ⟨f1, f2, f3⟩ | ⟨k2, c', f1, f2, f3, f4⟩
    · refine BIf.f (by rw [f1]; simp) ?_
      have f2 : capOf r.abs m.abs.Cap = none := f2
      rw [f2] at hres
      exact ⟨tc, 0, ⟨r.Next, ps, r.Caps, r.Pipes⟩, by rw [hres], by rw [hres]; rfl, rfl, rfl, h⟩
    · have f2 : r.Caps[k2]? = some c' := f2
      have hl2 : k2 < r.Caps.length := (List.getElem?_eq_some_iff.1 f2).1
      have f3 : capOf r.abs m.abs.Cap = some c' := f3
      rw [f3] at hres
      rw [f1]
      by_cases hgo : 0 < m.Cap ∧ r.Caps.length < 128
      · refine BIf.t (by simp [hgo.1, hgo.2]) ?_
        have hres : recvI r.abs o c = (addCap (⟨r.Next, ps, r.Caps, r.Pipes⟩ : RIpc).abs o.Holder c'.Port c'.Rights m.Cap, ⟨0, r.Next + 1, m.Data, m.From⟩) := by rw [hres]; exact if_pos hgo
        have h := h.drew
        obtain ⟨q', hq'⟩ := h.rowQ 11 rfl f2
        simp only [Int.toNat_natCast]
        refine ⟨_, h.cell 8 rfl rfl, tp, h.cell 8 rfl rfl, tc, h.cell 8 rfl rfl, tq, h.cell 8 rfl rfl, _, h.cell 7 rfl rfl, tc, h.cell 8 rfl rfl, by omega, by omega, q', hq', _, h.rdR 11 rfl hq' f2 rfl, tc, h.cell 8 rfl rfl, by omega, by omega, q', hq', _, h.rdR 11 rfl hq' f2 rfl, _, h.cell 3 rfl rfl, ?_⟩
        refine (s96 ((((((((((((h.fro 10 rfl).fro 10 rfl).fro 10 rfl).fro 10 rfl).fro 10 rfl).fro 10 rfl).fro 10 rfl).fro 10 rfl).fro 10 rfl).fro 10 rfl).fro 10 rfl).fro 11 rfl) (by omega) (by omega) (by omega)).mono ?_
        rintro _ w148 ⟨tc2, rfl, h⟩
        refine ⟨_, tp, tc2, tq, rfl, ?_⟩
        refine h.put 9 rfl rfl rfl (fun w153 h n153 => ?_)
        refine ⟨_, h.cell 9 rfl rfl, ?_⟩
        refine h.setVP (b := ab) 1 rfl rfl (fun w156 h n156 => ?_)
        refine ⟨tc2, r.Next + 1, ⟨r.Next + 1, ps, r.Caps ++ [⟨r.Next + 1, o.Holder, c'.Port, c'.Rights, m.Cap⟩], r.Pipes⟩, by rw [hres]; rfl, by rw [hres], rfl, rfl, ?_⟩
        exact ((((((((((((h.fro 0 rfl).fro 11 rfl).fro 11 rfl).fro 11 rfl).fro 11 rfl).fro 11 rfl).fro 11 rfl).fro 11 rfl).fro 11 rfl).fro 11 rfl).fro 11 rfl).fro 11 rfl)
      · refine BIf.f (by rcases Decidable.not_and_iff_or_not.1 hgo with hh | hh <;> simp [hh]) ?_
        have hres : recvI r.abs o c = ((⟨r.Next, ps, r.Caps, r.Pipes⟩ : RIpc).abs, ⟨0, 0, m.Data, m.From⟩) := by rw [hres]; exact if_neg hgo
        exact ⟨tc, 0, ⟨r.Next, ps, r.Caps, r.Pipes⟩, by rw [hres], by rw [hres], rfl, rfl, h⟩
  clear h hres
  rintro w103 ⟨tc2, n, ⟨nx, ps2, cs2, qs2⟩, hr1, hr2, hp, hq2, h⟩
  have hp : ps2 = ps := hp
  have hq2 : qs2 = r.Pipes := hq2
  subst hp hq2
  have h := h.drew
  refine ⟨_, h.cell 8 rfl rfl, tp, h.cell 8 rfl rfl, tc2, h.cell 8 rfl rfl, tq, h.cell 8 rfl rfl, _, h.cellP 0 rfl rfl, _, h.cellP 0 rfl rfl, t, h.cellP 0 rfl rfl, _, h.cellP 0 rfl rfl, ?_⟩
  refine h.put 5 rfl rfl rfl (fun w113 h n113 => ?_)
  refine ⟨⟨_, h.cellP 0 rfl rfl, _, h.cellP 0 rfl rfl, t, h.cellP 0 rfl rfl, _, h.cellP 0 rfl rfl, rfl⟩, ?_⟩
  refine h.put 4 rfl rfl rfl (fun w119 h n119 => ?_)
  refine ⟨_, h.cell 5 rfl rfl, tp, h.cell 5 rfl rfl, tc2, h.cell 5 rfl rfl, tq, h.cell 5 rfl rfl, _, h.cell 4 rfl rfl, _, h.cell 4 rfl rfl, t, h.cell 4 rfl rfl, _, h.cell 4 rfl rfl, ?_⟩
  have h := ((((((((h.dropAt 8).dropAt 7).dropAt 6).dropAt 5).dropAt 4).dropAt 3).dropAt 2).dropAt 0)
  refine ⟨tp, tc2, tq, t, ⟨nx, ps2, cs2, r.Pipes⟩, by rw [hr2], hr1, ?_⟩
  rw [hr2]
  exact h
end Go.Proofs.Ytbimoajgofcmbaa

namespace Go.Proofs.Ytbimoajgofcmbaa
open Go Go.Den
def withP (d : DIpc) (o : DIpcOp) : IRes := match pipeOf d o.Id with
  | none => (d, resE 5)
  | some p => pipeI d o (pipeIx d o.Id).toNat p
abbrev BP (b : Nat) (p : RPipe) : Asr := aB b (p.cells.map Ce.v)
set_option maxHeartbeats 4000000 in
theorem s99 {w0 w : World} {F : List Asr} {tp tc tq td : Sl} {r : RIpc} {o : DIpcOp} (h : SH w0 w (sP tp tc tq r ++ F)) (hw : IWf r.abs) (hi : IOk r.abs) (hb : ByAt w0 td o.Data) (hbs : o.Data.length ≤ 1048576) :
    CallW Try.prog 99 #[iV r.Next tp tc tq, .agg ⟨opV o td⟩] w (KS w0 F (withP r.abs o)) := by
  refine go99 (a0_0 := r.Next) (a0_1 := tp) (a0_2 := tc) (a0_3 := tq) (a1_0 := o.Kind) (a1_1 := o.Holder) (a1_2 := o.Id) (a1_3 := o.To) (a1_4 := o.Rights) (a1_5 := o.Cap) (a1_6 := o.N) (a1_7 := td) ?_
  unfold W99; (try delta qn ql qb qi qS qI qP qQ qR qU qA qC H99_1 H99_0 H99_2 H99_3 H99_4 H99_5)
  have h : SH w0 w (rP tp r.Ports :: bP r.Ports :: rC tc r.Caps :: rQ tq r.Pipes :: bQ r.Pipes :: F) := h
  have hfq : r.Pipes.length ≤ 32 := by rw [← abs_pipes]; exact hi.pipes
  have hdl := hb.len
  have htq := h.len 3 rfl
  rw [recs_len] at htq
  refine h.alloc (fun w1 h e1 n1 => ?_)
  refine h.alloc (fun w2 h e2 n2 => ?_)
  refine h.alloc (fun w3 h e3 n3 => ?_)
  refine h.alloc (fun w4 h e4 n4 => ?_)
  have h : SH w0 w4 (BR w3.heap.size 0 0 N0 0 :: BI w2.heap.size 0 N0 N0 N0 :: BO w1.heap.size o td :: BI w.heap.size r.Next tp tc tq :: rP tp r.Ports :: bP r.Ports :: rC tc r.Caps :: rQ tq r.Pipes :: bQ r.Pipes :: F) := h
  generalize w3.heap.size = rb at *
  generalize w2.heap.size = ib at *
  generalize w1.heap.size = ob at *
  generalize w.heap.size = b at *
  have hat : IpcAt w4 tp tc tq r.abs := ipc_at (F := F) (h.drop.drop.drop.drop) hw
  refine ⟨_, h.cell 3 rfl rfl, tp, h.cell 3 rfl rfl, tc, h.cell 3 rfl rfl, tq, h.cell 3 rfl rfl, _, h.cell 2 rfl rfl, (c88 hat).mono ?_⟩
  rintro _ w11 ⟨rfl, e11⟩
  have h := h.to e11
  refine ⟨_, rfl, ?_⟩
  rcases pipeIx_cases r.abs o.Id with ⟨e1, e2, e3⟩ | ⟨kp, P, e1, e2, e3, e4⟩
  · rw [e1]
    exact BIf.t rfl (errS (M := [_]) (by unfold withP; rw [e2]) h)
  obtain ⟨p0, hx, rfl⟩ := map_get e2
  have hx : r.Pipes[kp]? = some p0 := hx
  have hax : r.abs.Pipes[kp]? = some p0.abs := e2
  have hlk : kp < r.Pipes.length := (List.getElem?_eq_some_iff.1 hx).1
  have hpo := hi.pipe kp p0.abs hax
  have hpr : 0 ≤ p0.R ∧ p0.R ≤ 64 := hpo.r
  have hpw : 0 ≤ p0.W ∧ p0.W ≤ 64 := hpo.w
  have hpd : p0.Data.length ≤ 512 := hpo.few
  have hst : withP r.abs o = pipeI r.abs o kp p0.abs := by unfold withP; rw [e3, e1]; rfl
  obtain ⟨q, hq⟩ := h.rowQ 7 rfl hx
  rw [e1]
  refine BIf.f (by simp) ?_
  simp only [Int.toNat_natCast]
  refine ⟨tq, h.cell 3 rfl rfl, by omega, by omega, q, hq, _, h.rdR 7 rfl hq hx rfl, _, h.rdR 7 rfl hq hx rfl, _, h.rdR 7 rfl hq hx rfl, p0.D, h.rdR 7 rfl hq hx rfl, ?_⟩
  refine h.alloc (fun w43 h e43 n43 => ?_)
  refine h.put 0 rfl rfl rfl (fun w44 h n44 => ?_)
  generalize w11.heap.size = pb at *
  have h : SH w0 w44 (BP pb p0 :: BR rb 0 0 N0 0 :: BI ib 0 N0 N0 N0 :: BO ob o td :: BI b r.Next tp tc tq :: rP tp r.Ports :: bP r.Ports :: rC tc r.Caps :: rQ tq r.Pipes :: bQ r.Pipes :: F) := h
  refine ⟨_, h.cell 3 rfl rfl, ?_⟩
  refine BIf.eq (fun k9 => ?_) (fun k9 => ?_)
  · -- ends
    have hst : withP r.abs o = endsI r.abs o kp p0.abs := by rw [hst]; exact if_pos k9
    refine ⟨_, h.cell 3 rfl rfl, _, h.cell 0 rfl rfl, ?_⟩
    rw [w64 (n := 0 - p0.R) (by omega) (by omega)]
    refine JoinW.cut1 (fun (x : Bool) w' => x = decide (o.To < -p0.R ∨ 64 - p0.R < o.To) ∧ w' = w44) (BIf.dec (fun hx => ⟨(decide_eq_true (by omega)).symm, rfl⟩) (fun hx => ⟨_, h.cell 3 rfl rfl, _, h.cell 0 rfl rfl, by rw [w64 (n := 64 - p0.R) (by omega) (by omega), Bool.eq_iff_iff, decide_eq_true_iff, decide_eq_true_iff]; omega, rfl⟩)) ?_
    rintro (x : Bool) w50 ⟨rfl, rfl⟩
    refine JoinW.cut1 (fun (x : Bool) w' => x = decide (o.To < -p0.R ∨ 64 - p0.R < o.To ∨ o.N < -p0.W) ∧ w' = w50) (BIf.dec (fun hx => ⟨(decide_eq_true (by omega)).symm, rfl⟩) (fun hx => ⟨_, h.cell 3 rfl rfl, _, h.cell 0 rfl rfl, by rw [w64 (n := 0 - p0.W) (by omega) (by omega), Bool.eq_iff_iff, decide_eq_true_iff, decide_eq_true_iff]; omega, rfl⟩)) ?_
    rintro (x : Bool) w53 ⟨rfl, rfl⟩
    refine JoinW.cut1 (fun (x : Bool) w' => x = decide (o.To < -p0.R ∨ 64 - p0.R < o.To ∨ o.N < -p0.W ∨ 64 - p0.W < o.N) ∧ w' = w53) (BIf.dec (fun hx => ⟨(decide_eq_true (by omega)).symm, rfl⟩) (fun hx => ⟨_, h.cell 3 rfl rfl, _, h.cell 0 rfl rfl, by rw [w64 (n := 64 - p0.W) (by omega) (by omega), Bool.eq_iff_iff, decide_eq_true_iff, decide_eq_true_iff]; omega, rfl⟩)) ?_
    rintro (x : Bool) w56 ⟨rfl, rfl⟩
    refine BIf.dec (fun hbd => errS (M := [_]) (by rw [hst]; unfold endsI; exact if_pos hbd) h.drop) (fun hbd => ?_)
    refine ⟨tq, h.cell 4 rfl rfl, _, h.cell 0 rfl rfl, _, h.cell 3 rfl rfl, by omega, by omega, q, hq, ?_⟩
    rw [w64 (n := p0.R + o.To) (by omega) (by omega)]
    rw [set_at hx] at h
    refine h.setR 8 (⟨p0.Id, p0.R + o.To, p0.W, p0.D, p0.Data⟩ : RPipe) rfl hq hlk (by show 1 < 4; omega) rfl (fun w85 h n85 => ?_)
    refine ⟨tq, h.cell 4 rfl rfl, _, h.cell 0 rfl rfl, _, h.cell 3 rfl rfl, by omega, by omega, q, hq, ?_⟩
    rw [w64 (n := p0.W + o.N) (by omega) (by omega)]
    refine h.setR 8 (⟨p0.Id, p0.R + o.To, p0.W + o.N, p0.D, p0.Data⟩ : RPipe) rfl hq hlk (by show 2 < 4; omega) rfl (fun w90 h n90 => ?_)
    have h : SH w0 w90 (BP pb p0 :: BR rb 0 0 N0 0 :: BI ib 0 N0 N0 N0 :: BO ob o td :: BI b r.Next tp tc tq :: rP tp r.Ports :: bP r.Ports :: rC tc r.Caps :: rQ tq (r.Pipes.set kp ⟨p0.Id, p0.R + o.To, p0.W + o.N, p0.D, p0.Data⟩) :: bQ (r.Pipes.set kp p0) :: F) := h
    rw [← set_at hx] at h
    have hx3 : (r.Pipes.set kp ⟨p0.Id, p0.R + o.To, p0.W + o.N, p0.D, p0.Data⟩)[kp]? = some ⟨p0.Id, p0.R + o.To, p0.W + o.N, p0.D, p0.Data⟩ := List.getElem?_set_self hlk
    have hpl2 : (r.Pipes.set kp (⟨p0.Id, p0.R + o.To, p0.W + o.N, p0.D, p0.Data⟩ : RPipe)).length = r.Pipes.length := List.length_set ..
    refine JoinW.cut0 (fun w' => ∃ (tq2 : Sl) (qs2 : List RPipe), (⟨r.Next, r.Ports, r.Caps, qs2⟩ : RIpc).abs = (withP r.abs o).1 ∧ (withP r.abs o).2 = resN 0 ∧ SH w0 w' (BP pb p0 :: BR rb 0 0 N0 0 :: BI ib 0 N0 N0 N0 :: BO ob o td :: BI b r.Next tp tc tq2 :: rP tp r.Ports :: bP r.Ports :: rC tc r.Caps :: rQ tq2 qs2 :: bQ qs2 :: F)) ?_ ?_
    · have h := h.drew
      refine ⟨tq, h.cell 4 rfl rfl, by omega, by omega, q, hq, _, h.rdR 8 rfl hq hx3 rfl, tq, h.cell 4 rfl rfl, by omega, by omega, q, hq, _, h.rdR 8 rfl hq hx3 rfl, ?_⟩
      show BIf (IntKind.i64.wrap (p0.R + o.To + (p0.W + o.N)) == 0) _ _
      rw [w64 (n := p0.R + o.To + (p0.W + o.N)) (by omega) (by omega)]
      refine BIf.eq (fun hz => ?_) (fun hz => ?_)
      · have hres : withP r.abs o = (⟨r.Next, r.abs.Ports, r.Caps, r.abs.Pipes.eraseIdx kp⟩, resN 0) := by rw [hst]; unfold endsI; exact (if_neg hbd).trans (if_pos hz)
        have h := h.drew
        have hlc := h.lenCap 8 rfl
        have hll := h.len 8 rfl
        rw [recs_len] at hll
        have hn1 : IntKind.i64.wrap ((kp : Int) + 1) = ((kp + 1 : Nat) : Int) := by rw [w64 (by omega) (by omega)]; omega
        rw [hn1]
        simp only [Int.toNat_natCast]
        refine ⟨tq, h.cell 4 rfl rfl, by omega, by omega, tq, h.cell 4 rfl rfl, by omega, by omega, ?_⟩
        refine h.alloc (fun w115 h e115 n115 => ?_)
        refine ⟨⟨tq, h.cell 5 rfl rfl, rfl⟩, ⟨tq, h.cell 5 rfl rfl, rfl⟩, ?_⟩
        have hpre := RowAt.pre (f := RPipe.cells) (z := 4) (i := kp) (fun _ => rfl) (h.rowR 9 rfl) (by omega)
        refine SH.appendR (f := RPipe.cells) (l := []) (us := (r.Pipes.set kp ⟨p0.Id, p0.R + o.To, p0.W + o.N, p0.D, p0.Data⟩).take kp) (h.drop.nil (some ⟨w90.drew.drew.heap.size, 0, none⟩) 4) hpre (by simp; omega) (fun _ => rfl) rfl rfl (by decide) (by show (_ + _) * 48 ≤ _; simp; omega) plain_pipe (fun t118 w119 h ht118 _ => ?_)
        refine ⟨⟨tq, h.cell 5 rfl rfl, rfl⟩, ?_⟩
        have hsuf := RowAt.suf (f := RPipe.cells) (z := 4) (i := kp + 1) (fun _ => rfl) (h.rowR 9 rfl) hll hlc (by omega)
        refine SH.appendR (f := RPipe.cells) (us := (r.Pipes.set kp ⟨p0.Id, p0.R + o.To, p0.W + o.N, p0.D, p0.Data⟩).drop (kp + 1)) h hsuf (by simp; omega) (fun _ => rfl) rfl rfl (by decide) (by show (_ + _) * 48 ≤ _; simp; omega) plain_pipe (fun t121 w122 h ht121 _ => ?_)
        refine h.setV 5 rfl rfl (fun w123 h n123 => ?_)
        have hel : ([] ++ (r.Pipes.set kp (⟨p0.Id, p0.R + o.To, p0.W + o.N, p0.D, p0.Data⟩ : RPipe)).take kp) ++ (r.Pipes.set kp (⟨p0.Id, p0.R + o.To, p0.W + o.N, p0.D, p0.Data⟩ : RPipe)).drop (kp + 1) = r.Pipes.eraseIdx kp := by
          rw [List.nil_append, List.take_set_of_le (Nat.le_refl _), List.drop_set_of_lt (by omega), List.eraseIdx_eq_take_drop_succ]
        rw [hel] at h
        have h := SH.bagErase (i := kp) (((((((((((h.dropAt 9).fro 0 rfl).fro 8 rfl).fro 8 rfl).fro 8 rfl).fro 8 rfl).fro 8 rfl).fro 8 rfl).fro 8 rfl).fro 8 rfl).fro 9 rfl)
        refine ⟨t121, r.Pipes.eraseIdx kp, ?_, by rw [hres], ((((((((((h.fro 0 rfl).fro 9 rfl).fro 9 rfl).fro 9 rfl).fro 9 rfl).fro 9 rfl).fro 9 rfl).fro 9 rfl).fro 9 rfl).fro 9 rfl)⟩
        rw [hres]
        unfold RIpc.abs
        dsimp only
        rw [map_erase]
      · have hres : withP r.abs o = (setP r.abs kp ⟨p0.Id, p0.R + o.To, p0.W + o.N, p0.Data⟩, resN 0) := by rw [hst]; unfold endsI; exact (if_neg hbd).trans (if_neg hz)
        have h1 := SH.bagOut (f := pipeA) ((((((((((h.fro 8 rfl).fro 8 rfl).fro 8 rfl).fro 8 rfl).fro 8 rfl).fro 8 rfl).fro 8 rfl).fro 8 rfl).fro 8 rfl).fro 9 rfl) hx
        have h1 : SH w0 w90.drew (pipeA ⟨p0.Id, p0.R + o.To, p0.W + o.N, p0.D, p0.Data⟩ :: aBag pipeA (r.Pipes.eraseIdx kp) :: _) := h1
        have h := SH.bagIn (f := pipeA) hx h1
        refine ⟨tq, _, ?_, by rw [hres], ((((((((((h.fro 0 rfl).fro 9 rfl).fro 9 rfl).fro 9 rfl).fro 9 rfl).fro 9 rfl).fro 9 rfl).fro 9 rfl).fro 9 rfl).fro 9 rfl)⟩
        rw [hres]
        unfold RIpc.abs setP
        rw [List.map_set]
        rfl
    clear h hx3
    rintro w92 ⟨tq2, qs2, hr1, hr2, h⟩
    refine ⟨_, h.cell 4 rfl rfl, tp, h.cell 4 rfl rfl, tc, h.cell 4 rfl rfl, tq2, h.cell 4 rfl rfl, ?_⟩
    refine h.put 2 rfl rfl rfl (fun w97 h n97 => ?_)
    refine h.put 1 rfl rfl rfl (fun w98 h n98 => ?_)
    refine ⟨_, h.cell 2 rfl rfl, tp, h.cell 2 rfl rfl, tc, h.cell 2 rfl rfl, tq2, h.cell 2 rfl rfl, _, h.cell 1 rfl rfl, _, h.cell 1 rfl rfl, N0, h.cell 1 rfl rfl, _, h.cell 1 rfl rfl, ?_⟩
    have h := ((((((h.dropAt 4).dropAt 3).dropAt 2).dropAt 1).dropAt 0)).nil none 1
    refine ⟨tp, tc, tq2, N0, ⟨r.Next, r.Ports, r.Caps, qs2⟩, by rw [hr2]; rfl, hr1, ?_⟩
    rw [hr2]
    exact h
  have g : SH w0 w44 (rD p0.D p0.Data :: bQ (r.Pipes.eraseIdx kp) :: BP pb p0 :: BR rb 0 0 N0 0 :: BI ib 0 N0 N0 N0 :: BO ob o td :: BI b r.Next tp tc tq :: rP tp r.Ports :: bP r.Ports :: rC tc r.Caps :: rQ tq r.Pipes :: F) := SH.bagOut (f := pipeA) ((((((((((h.fro 8 rfl).fro 8 rfl).fro 8 rfl).fro 8 rfl).fro 8 rfl).fro 8 rfl).fro 8 rfl).fro 8 rfl).fro 8 rfl).fro 9 rfl) hx
  have hdl2 := g.len 0 rfl
  have hdc := g.lenCap 0 rfl
  rw [nums_len] at hdl2
  have hdd : p0.abs.Data.length = p0.Data.length := rfl
  refine BIf.eq (fun k10 => ?_) (fun k10 => ?_)
  · -- bytes written
    have hst : withP r.abs o = writeI r.abs o kp p0.abs := by rw [hst]; exact (if_neg k9).trans (if_pos k10)
    refine ⟨_, h.cell 0 rfl rfl, ?_⟩
    refine BIf.eq (fun hr0 => errS (M := [_]) (by rw [hst]; unfold writeI; exact if_pos hr0) h.drop) (fun hr0 => ?_)
    refine ⟨td, h.cell 3 rfl rfl, ?_⟩
    have hnl : wlen o p0.abs ≤ o.Data.length ∧ wlen o p0.abs ≤ 512 := by unfold wlen; omega
    refine JoinW.cut1 (fun (n : Int) w' => n = ((wlen o p0.abs : Nat) : Int) ∧ w' = w44) ?_ ?_
    · refine ⟨p0.D, h.cell 0 rfl rfl, ?_⟩
      rw [w64 (n := 512 - (p0.D.len : Int)) (by omega) (by omega)]
      refine BIf.dec (fun hgt => ⟨p0.D, h.cell 0 rfl rfl, ?_, rfl⟩) (fun hgt => ⟨?_, rfl⟩)
      · rw [w64 (n := 512 - (p0.D.len : Int)) (by omega) (by omega)]; unfold wlen; omega
      · unfold wlen; omega
    rintro (n : Int) w158 ⟨rfl, rfl⟩
    refine JoinW.cut1 (fun (x : Bool) w' => x = decide (wlen o p0.abs = 0 ∧ 0 < o.Data.length) ∧ w' = w158) (BIf.eq (fun hz => ⟨td, h.cell 3 rfl rfl, by rw [Bool.eq_iff_iff, decide_eq_true_iff, decide_eq_true_iff]; omega, rfl⟩) (fun hz => ⟨(decide_eq_false (by omega)).symm, rfl⟩)) ?_
    rintro (x : Bool) w161 ⟨rfl, rfl⟩
    refine BIf.dec (fun hag => errS (M := [_]) (by rw [hst]; unfold writeI; exact (if_neg hr0).trans (if_pos hag)) h.drop) (fun hag => ?_)
    have hres : withP r.abs o = (setP r.abs kp ⟨p0.Id, p0.R, p0.W, p0.Data ++ o.Data.take (wlen o p0.abs)⟩, resN (wlen o p0.abs : Nat)) := by rw [hst]; unfold writeI; exact (if_neg hr0).trans (if_neg hag)
    rw [hres]
    clear h hres hag hst
    generalize wlen o p0.abs = n at *
    have g := g.drew
    have hcl := hb.cap
    simp only [Int.toNat_natCast]
    refine ⟨tq, g.cell 6 rfl rfl, p0.D, g.cell 2 rfl rfl, td, g.cell 5 rfl rfl, by omega, by omega, ?_⟩
    refine g.alloc (fun w189 g e189 n189 => ?_)
    refine ⟨⟨td, g.cell 6 rfl rfl, rfl⟩, ⟨p0.D, g.cell 3 rfl rfl, rfl⟩, ⟨tq, g.cell 7 rfl rfl, rfl⟩, ?_⟩
    refine SH.appendN (k := .u8) (m := []) (us := p0.Data) (g.drop.nil (some ⟨w161.drew.heap.size, 0, none⟩) 1) (g.rowN 1 rfl) rfl rfl (by decide) (by show (_ + _) * 1 ≤ _; simp; omega) (fun t193 w194 g ht193 _ => ?_)
    refine ⟨⟨td, g.cell 6 rfl rfl, rfl⟩, ⟨tq, g.cell 7 rfl rfl, rfl⟩, ?_⟩
    refine SH.appendN (k := .u8) (us := o.Data.take n) g (rowN_pre (hb.ext g.ext).row hnl.1) rfl rfl (by decide) (by show (_ + _) * 1 ≤ _; simp; omega) (fun t197 w198 g ht197 _ => ?_)
    refine ⟨⟨tq, g.cell 7 rfl rfl, rfl⟩, by omega, by omega, q, hq, ?_⟩
    have g : SH w0 w198 (rD t197 (p0.Data ++ o.Data.take n) :: rD p0.D p0.Data :: bQ (r.Pipes.eraseIdx kp) :: BP pb p0 :: BR rb 0 0 N0 0 :: BI ib 0 N0 N0 N0 :: BO ob o td :: BI b r.Next tp tc tq :: rP tp r.Ports :: bP r.Ports :: rC tc r.Caps :: rQ tq (r.Pipes.set kp p0) :: F) := by rw [← set_at hx]; exact g
    refine g.setR 11 (⟨p0.Id, p0.R, p0.W, t197, p0.Data ++ o.Data.take n⟩ : RPipe) rfl hq hlk (by show 3 < 4; omega) rfl (fun w201 g n201 => ?_)
    refine ⟨_, g.cell 7 rfl rfl, tp, g.cell 7 rfl rfl, tc, g.cell 7 rfl rfl, tq, g.cell 7 rfl rfl, ?_⟩
    refine g.put 5 rfl rfl rfl (fun w206 g n206 => ?_)
    refine g.put 4 rfl rfl rfl (fun w207 g n207 => ?_)
    refine ⟨_, g.cell 5 rfl rfl, tp, g.cell 5 rfl rfl, tc, g.cell 5 rfl rfl, tq, g.cell 5 rfl rfl, _, g.cell 4 rfl rfl, _, g.cell 4 rfl rfl, N0, g.cell 4 rfl rfl, _, g.cell 4 rfl rfl, ?_⟩
    have g : SH w0 w207 (rD t197 (p0.Data ++ o.Data.take n) :: rD p0.D p0.Data :: bQ (r.Pipes.eraseIdx kp) :: BP pb p0 :: BR rb 0 (n : Nat) N0 0 :: BI ib r.Next tp tc tq :: BO ob o td :: BI b r.Next tp tc tq :: rP tp r.Ports :: bP r.Ports :: rC tc r.Caps :: rQ tq (r.Pipes.set kp ⟨p0.Id, p0.R, p0.W, t197, p0.Data ++ o.Data.take n⟩) :: F) := g
    have g := SH.bagIn (f := pipeA) (y := (⟨p0.Id, p0.R, p0.W, t197, p0.Data ++ o.Data.take n⟩ : RPipe)) hx ((((((g.dropAt 7).dropAt 6).dropAt 5).dropAt 4).dropAt 3).dropAt 1)
    have g := ((((((g.fro 0 rfl).fro 4 rfl).fro 4 rfl).fro 4 rfl).fro 4 rfl)).nil none 1
    refine ⟨tp, tc, tq, N0, ⟨r.Next, r.Ports, r.Caps, r.Pipes.set kp ⟨p0.Id, p0.R, p0.W, t197, p0.Data ++ o.Data.take n⟩⟩, rfl, ?_, ?_⟩
    · unfold RIpc.abs setP
      rw [List.map_set]
      rfl
    · exact g
  have hst : withP r.abs o = readI r.abs o kp p0.abs := by rw [hst]; exact (if_neg k9).trans (if_neg k10)
  refine ⟨_, h.cell 3 rfl rfl, ?_⟩
  refine JoinW.cut1 (fun (x : Bool) w' => x = decide (o.N < 0 ∨ 1024 < o.N) ∧ w' = w44) (BIf.dec (fun hx => ⟨(decide_eq_true (.inl hx)).symm, rfl⟩) (fun hx => ⟨_, h.cell 3 rfl rfl, by rw [Bool.eq_iff_iff, decide_eq_true_iff, decide_eq_true_iff]; omega, rfl⟩)) ?_
  rintro (x : Bool) w222 ⟨rfl, rfl⟩
  refine BIf.dec (fun hbd => errS (M := [_]) (by rw [hst]; unfold readI; exact if_pos hbd) h.drop) (fun hbd => ?_)
  refine ⟨p0.D, h.cell 0 rfl rfl, ?_⟩
  refine JoinW.cut1 (fun (x : Bool) w' => x = decide (p0.Data.length = 0 ∧ 0 < p0.W) ∧ w' = w222) (BIf.eq (fun hz => ⟨_, h.cell 0 rfl rfl, by rw [Bool.eq_iff_iff, decide_eq_true_iff, decide_eq_true_iff]; omega, rfl⟩) (fun hz => ⟨(decide_eq_false (by omega)).symm, rfl⟩)) ?_
  rintro (x : Bool) w250 ⟨rfl, rfl⟩
  refine JoinW.cut1 (fun (x : Bool) w' => x = decide (p0.Data.length = 0 ∧ 0 < p0.W ∧ 0 < o.N) ∧ w' = w250) (BIf.dec (fun hz => ⟨_, h.cell 3 rfl rfl, by rw [Bool.eq_iff_iff, decide_eq_true_iff, decide_eq_true_iff]; omega, rfl⟩) (fun hz => ⟨(decide_eq_false (by omega)).symm, rfl⟩)) ?_
  rintro (x : Bool) w253 ⟨rfl, rfl⟩
  refine BIf.dec (fun hag => errS (M := [_]) (by rw [hst]; unfold readI; exact (if_neg hbd).trans (if_pos hag)) h.drop) (fun hag => ?_)
  have hres : withP r.abs o = (setP r.abs kp ⟨p0.Id, p0.R, p0.W, p0.Data.drop (rlen o p0.abs)⟩, ⟨0, 0, p0.Data.take (rlen o p0.abs), 0⟩) := by rw [hst]; unfold readI; exact (if_neg hbd).trans (if_neg hag)
  rw [hres]
  have hnl : rlen o p0.abs ≤ p0.Data.length := by unfold rlen; omega
  refine ⟨_, h.cell 3 rfl rfl, ?_⟩
  refine JoinW.cut1 (fun (n : Int) w' => n = ((rlen o p0.abs : Nat) : Int) ∧ w' = w253) ?_ ?_
  · refine ⟨p0.D, h.cell 0 rfl rfl, ?_⟩
    refine BIf.dec (fun hgt => ⟨p0.D, h.cell 0 rfl rfl, ?_, rfl⟩) (fun hgt => ⟨?_, rfl⟩)
    · unfold rlen; omega
    · unfold rlen; omega
  rintro (n : Int) w281 ⟨rfl, rfl⟩
  clear h hres hag hst
  generalize rlen o p0.abs = n at *
  have g := g.drew
  simp only [Int.toNat_natCast]
  refine ⟨tq, g.cell 6 rfl rfl, p0.D, g.cell 2 rfl rfl, by omega, by omega, ?_⟩
  refine g.alloc (fun w284 g e284 n284 => ?_)
  refine ⟨⟨p0.D, g.cell 3 rfl rfl, rfl⟩, ⟨tq, g.cell 7 rfl rfl, rfl⟩, ?_⟩
  refine SH.appendN (k := .u8) (m := []) (us := p0.Data.drop n) (g.drop.nil (some ⟨w281.drew.heap.size, 0, none⟩) 1) (rowN_suf (g.rowN 1 rfl) hdl2 hdc hnl) rfl rfl (by decide) (by show (_ + _) * 1 ≤ _; simp; omega) (fun t287 w288 g ht287 _ => ?_)
  refine ⟨⟨tq, g.cell 7 rfl rfl, rfl⟩, by omega, by omega, q, hq, ?_⟩
  have g : SH w0 w288 (rD t287 (p0.Data.drop n) :: rD p0.D p0.Data :: bQ (r.Pipes.eraseIdx kp) :: BP pb p0 :: BR rb 0 0 N0 0 :: BI ib 0 N0 N0 N0 :: BO ob o td :: BI b r.Next tp tc tq :: rP tp r.Ports :: bP r.Ports :: rC tc r.Caps :: rQ tq (r.Pipes.set kp p0) :: F) := by rw [← set_at hx]; exact g
  refine g.setR 11 (⟨p0.Id, p0.R, p0.W, t287, p0.Data.drop n⟩ : RPipe) rfl hq hlk (by show 3 < 4; omega) rfl (fun w291 g n291 => ?_)
  have g := g.drew
  refine ⟨_, g.cell 7 rfl rfl, tp, g.cell 7 rfl rfl, tc, g.cell 7 rfl rfl, tq, g.cell 7 rfl rfl, p0.D, g.cell 3 rfl rfl, by omega, by omega, ?_⟩
  refine g.alloc (fun w297 g e297 n297 => ?_)
  refine ⟨⟨p0.D, g.cell 4 rfl rfl, rfl⟩, ⟨_, g.cell 8 rfl rfl, tp, g.cell 8 rfl rfl, tc, g.cell 8 rfl rfl, tq, g.cell 8 rfl rfl, rfl⟩, ?_⟩
  refine SH.appendN (k := .u8) (m := []) (us := p0.Data.take n) (g.drop.nil (some ⟨w291.drew.heap.size, 0, none⟩) 1) (rowN_pre (g.rowN 2 rfl) hnl) rfl rfl (by decide) (by show (_ + _) * 1 ≤ _; simp; omega) (fun t303 w304 g ht303 _ => ?_)
  refine ⟨⟨_, g.cell 8 rfl rfl, tp, g.cell 8 rfl rfl, tc, g.cell 8 rfl rfl, tq, g.cell 8 rfl rfl, rfl⟩, ?_⟩
  refine g.put 6 rfl rfl rfl (fun w309 g n309 => ?_)
  refine g.put 5 rfl rfl rfl (fun w310 g n310 => ?_)
  refine ⟨_, g.cell 6 rfl rfl, tp, g.cell 6 rfl rfl, tc, g.cell 6 rfl rfl, tq, g.cell 6 rfl rfl, _, g.cell 5 rfl rfl, _, g.cell 5 rfl rfl, t303, g.cell 5 rfl rfl, _, g.cell 5 rfl rfl, ?_⟩
  have g : SH w0 w310 (rD t303 (p0.Data.take n) :: rD t287 (p0.Data.drop n) :: rD p0.D p0.Data :: bQ (r.Pipes.eraseIdx kp) :: BP pb p0 :: BR rb 0 0 t303 0 :: BI ib r.Next tp tc tq :: BO ob o td :: BI b r.Next tp tc tq :: rP tp r.Ports :: bP r.Ports :: rC tc r.Caps :: rQ tq (r.Pipes.set kp ⟨p0.Id, p0.R, p0.W, t287, p0.Data.drop n⟩) :: F) := g
  have g := SH.bagIn (f := pipeA) (y := (⟨p0.Id, p0.R, p0.W, t287, p0.Data.drop n⟩ : RPipe)) hx (((((((((g.dropAt 8).dropAt 7).dropAt 6).dropAt 5).dropAt 4).dropAt 2).fro 0 rfl).fro 2 rfl).fro 2 rfl)
  refine ⟨tp, tc, tq, t303, ⟨r.Next, r.Ports, r.Caps, r.Pipes.set kp ⟨p0.Id, p0.R, p0.W, t287, p0.Data.drop n⟩⟩, rfl, ?_, ?_⟩
  · unfold RIpc.abs setP
    rw [List.map_set]
    rfl
  · exact ((((((g.fro 0 rfl).fro 5 rfl).fro 5 rfl).fro 5 rfl).fro 5 rfl).fro 5 rfl)
end Go.Proofs.Ytbimoajgofcmbaa

namespace Go.Proofs.Ytbimoajgofcmbaa
open Go Go.Den
noncomputable def withC (d : DIpc) (o : DIpcOp) : IRes := match capOf d o.Id with
  | none => (d, resE 5)
  | some c => if c.Holder ≠ o.Holder then (d, resE 5) else capI d o c
set_option maxHeartbeats 4000000 in
theorem s100 {w0 w : World} {F : List Asr} {tp tc tq td : Sl} {r : RIpc} {o : DIpcOp} (h : SH w0 w (sP tp tc tq r ++ F)) (hw : IWf r.abs) (hi : IOk r.abs) (hb : ByAt w0 td o.Data) (hbs : o.Data.length ≤ 1048576) :
    CallW Try.prog 100 #[iV r.Next tp tc tq, .agg ⟨opV o td⟩] w (KS w0 F (withC r.abs o)) := by
  refine go100 (a0_0 := r.Next) (a0_1 := tp) (a0_2 := tc) (a0_3 := tq) (a1_0 := o.Kind) (a1_1 := o.Holder) (a1_2 := o.Id) (a1_3 := o.To) (a1_4 := o.Rights) (a1_5 := o.Cap) (a1_6 := o.N) (a1_7 := td) ?_
  unfold W100; (try delta qn ql qb qi qS qI qP qQ qR qU qA qC H100_1 H100_0 H100_2)
  have h : SH w0 w (rP tp r.Ports :: bP r.Ports :: rC tc r.Caps :: rQ tq r.Pipes :: bQ r.Pipes :: F) := h
  have hnx : 0 ≤ r.Next ∧ r.Next ≤ 1099511627776 := hi.next
  have hfc : r.Caps.length ≤ 128 := hi.caps
  have hfp : r.Ports.length ≤ 32 := by rw [← abs_ports]; exact hi.ports
  have hcl := h.len 2 rfl
  rw [recs_len] at hcl
  refine h.alloc (fun w1 h e1 n1 => ?_)
  refine h.alloc (fun w2 h e2 n2 => ?_)
  refine h.alloc (fun w3 h e3 n3 => ?_)
  refine h.alloc (fun w4 h e4 n4 => ?_)
  have h : SH w0 w4 (BR w3.heap.size 0 0 N0 0 :: BI w2.heap.size 0 N0 N0 N0 :: BO w1.heap.size o td :: BI w.heap.size r.Next tp tc tq :: rP tp r.Ports :: bP r.Ports :: rC tc r.Caps :: rQ tq r.Pipes :: bQ r.Pipes :: F) := h
  generalize w3.heap.size = rb at *
  generalize w2.heap.size = ib at *
  generalize w1.heap.size = ob at *
  generalize w.heap.size = b at *
  have hat : IpcAt w4 tp tc tq r.abs := ipc_at (F := F) (h.drop.drop.drop.drop) hw
  refine ⟨_, h.cell 3 rfl rfl, tp, h.cell 3 rfl rfl, tc, h.cell 3 rfl rfl, tq, h.cell 3 rfl rfl, _, h.cell 2 rfl rfl, (c86 hat).mono ?_⟩
  rintro _ w11 ⟨rfl, e11⟩
  have h := h.to e11
  refine ⟨_, rfl, ?_⟩
  rcases capIx_cases r.abs o.Id with ⟨e1, e2, e3⟩ | ⟨k0, c, e1, e2, e3, e4⟩
  · rw [e1]
    have h := h.drew
    refine JoinW.cut1 (fun (x : Bool) w' => x = true ∧ w' = w11.drew) (BIf.t rfl ⟨rfl, rfl⟩) ?_
    rintro (x : Bool) w15 ⟨rfl, rfl⟩
    exact BIf.t rfl (errS (M := [_]) (by unfold withC; rw [e2]) h)
  have e2' : r.Caps[k0]? = some c := e2
  have hlk : k0 < r.Caps.length := (List.getElem?_eq_some_iff.1 e2').1
  have h := h.drew
  obtain ⟨q, hq⟩ := h.rowQ 6 rfl e2'
  rw [e1]
  simp only [Int.toNat_natCast]
  refine JoinW.cut1 (fun (x : Bool) w' => x = (c.Holder != o.Holder) ∧ w' = w11.drew) (BIf.f (by simp) ⟨tc, h.cell 3 rfl rfl, by omega, by omega, q, hq, _, h.rdR 6 rfl hq e2' rfl, _, h.cell 2 rfl rfl, rfl, rfl⟩) ?_
  rintro (x : Bool) w15 ⟨rfl, rfl⟩
  refine BIf.ne (fun hh => errS (M := [_]) (by unfold withC; rw [e3]; exact if_pos hh) h) (fun hh => ?_)
  have hst : withC r.abs o = capI r.abs o c := by unfold withC; rw [e3]; exact if_neg (fun hn => hn hh)
  refine ⟨_, h.cell 2 rfl rfl, ?_⟩
  refine BIf.eq (fun k2 => ?_) (fun k2 => ?_)
  · have h := h.drew
    rw [hst, cap_2 k2]
    refine ⟨_, h.cell 3 rfl rfl, tp, h.cell 3 rfl rfl, tc, h.cell 3 rfl rfl, tq, h.cell 3 rfl rfl, _, h.cell 2 rfl rfl, _, h.cell 2 rfl rfl, _, h.cell 2 rfl rfl, _, h.cell 2 rfl rfl, _, h.cell 2 rfl rfl, _, h.cell 2 rfl rfl, _, h.cell 2 rfl rfl, td, h.cell 2 rfl rfl, tc, h.cell 3 rfl rfl, by omega, by omega, q, hq, _, h.rdR 6 rfl hq e2' rfl, _, h.rdR 6 rfl hq e2' rfl, _, h.rdR 6 rfl hq e2' rfl, _, h.rdR 6 rfl hq e2' rfl, _, h.rdR 6 rfl hq e2' rfl, ?_⟩
    exact retS (X := [BO ob o td, BI b r.Next tp tc tq]) (s115 (r := r) (o := o) (c := c) (((((((((h.fro 3 rfl).fro 3 rfl).fro 3 rfl).fro 3 rfl).fro 8 rfl).fro 8 rfl).fro 8 rfl).fro 8 rfl).fro 8 rfl) (by omega) (by omega))
  refine BIf.eq (fun k3 => ?_) (fun k3 => ?_)
  · rw [hst, cap_3 k3]
    refine ⟨_, h.cell 3 rfl rfl, tp, h.cell 3 rfl rfl, tc, h.cell 3 rfl rfl, tq, h.cell 3 rfl rfl, _, h.cell 2 rfl rfl, ?_⟩
    exact retS (X := [BO ob o td, BI b r.Next tp tc tq]) (s116 (r := r) (((((((((h.fro 3 rfl).fro 3 rfl).fro 3 rfl).fro 3 rfl).fro 8 rfl).fro 8 rfl).fro 8 rfl).fro 8 rfl).fro 8 rfl) hw hi)
  refine BIf.eq (fun k4 => ?_) (fun k4 => ?_)
  · rw [hst, cap_4 k4]
    refine ⟨_, h.cell 3 rfl rfl, tp, h.cell 3 rfl rfl, tc, h.cell 3 rfl rfl, tq, h.cell 3 rfl rfl, _, h.cell 2 rfl rfl, ?_⟩
    refine (s97 (((((((((h.fro 3 rfl).fro 3 rfl).fro 3 rfl).fro 3 rfl).fro 8 rfl).fro 8 rfl).fro 8 rfl).fro 8 rfl).fro 8 rfl) hw e1 e2').mono ?_
    rintro _ w111 ⟨tc2, rfl, h⟩
    refine ⟨_, tp, tc2, tq, rfl, ?_⟩
    have hdl : (dropC r.Caps o.Id c.Parent).length ≤ 128 := by
      unfold dropC; rw [List.length_map]
      have := List.length_filter_le (fun x : DCap => x.Id != o.Id) r.Caps; omega
    refine (s98 h (by omega) (by omega)).mono ?_
    rintro _ w117 ⟨tp2, rfl, h⟩
    refine ⟨_, tp2, tc2, tq, rfl, ?_⟩
    refine h.put 6 rfl rfl rfl (fun w122 h n122 => ?_)
    refine h.put 5 rfl rfl rfl (fun w123 h n123 => ?_)
    refine ⟨_, h.cell 6 rfl rfl, tp2, h.cell 6 rfl rfl, tc2, h.cell 6 rfl rfl, tq, h.cell 6 rfl rfl, _, h.cell 5 rfl rfl, _, h.cell 5 rfl rfl, N0, h.cell 5 rfl rfl, _, h.cell 5 rfl rfl, ?_⟩
    have h := (((((h.dropAt 8).dropAt 7).dropAt 6).dropAt 5)).nil none 1
    exact ⟨tp2, tc2, tq, N0, dropR r o.Id c.Parent, rfl, drop_abs e3, h⟩
  refine BIf.eq (fun k5 => ?_) (fun k5 => ?_)
  · have h := h.drew
    rw [hst, cap_5 k5]
    refine ⟨_, h.cell 3 rfl rfl, tp, h.cell 3 rfl rfl, tc, h.cell 3 rfl rfl, tq, h.cell 3 rfl rfl, _, h.cell 2 rfl rfl, _, h.cell 2 rfl rfl, _, h.cell 2 rfl rfl, _, h.cell 2 rfl rfl, _, h.cell 2 rfl rfl, _, h.cell 2 rfl rfl, _, h.cell 2 rfl rfl, td, h.cell 2 rfl rfl, tc, h.cell 3 rfl rfl, by omega, by omega, q, hq, _, h.rdR 6 rfl hq e2' rfl, _, h.rdR 6 rfl hq e2' rfl, _, h.rdR 6 rfl hq e2' rfl, _, h.rdR 6 rfl hq e2' rfl, _, h.rdR 6 rfl hq e2' rfl, ?_⟩
    exact retS (X := [BO ob o td, BI b r.Next tp tc tq]) (s117 (r := r) (o := o) (c := c) (((((((((h.fro 3 rfl).fro 3 rfl).fro 3 rfl).fro 3 rfl).fro 8 rfl).fro 8 rfl).fro 8 rfl).fro 8 rfl).fro 8 rfl) hw hi hb hbs e2)
  have h := h.drew
  have hcr : capI r.abs o c = recvI r.abs o c := by unfold capI; rw [if_neg k2, if_neg k3, if_neg k4, if_neg k5]
  rw [hst, hcr]
  refine ⟨_, h.cell 3 rfl rfl, tp, h.cell 3 rfl rfl, tc, h.cell 3 rfl rfl, tq, h.cell 3 rfl rfl, _, h.cell 2 rfl rfl, _, h.cell 2 rfl rfl, _, h.cell 2 rfl rfl, _, h.cell 2 rfl rfl, _, h.cell 2 rfl rfl, _, h.cell 2 rfl rfl, _, h.cell 2 rfl rfl, td, h.cell 2 rfl rfl, tc, h.cell 3 rfl rfl, by omega, by omega, q, hq, _, h.rdR 6 rfl hq e2' rfl, _, h.rdR 6 rfl hq e2' rfl, _, h.rdR 6 rfl hq e2' rfl, _, h.rdR 6 rfl hq e2' rfl, _, h.rdR 6 rfl hq e2' rfl, ?_⟩
  exact retS (X := [BO ob o td, BI b r.Next tp tc tq]) (s118 (r := r) (o := o) (c := c) (td := td) (((((((((h.fro 3 rfl).fro 3 rfl).fro 3 rfl).fro 3 rfl).fro 8 rfl).fro 8 rfl).fro 8 rfl).fro 8 rfl).fro 8 rfl) hw hi e2)
end Go.Proofs.Ytbimoajgofcmbaa

namespace Go.Proofs.Ytbimoajgofcmbaa
open Go Go.Den
theorem step_wp {d : DIpc} {o : DIpcOp} (h : ¬ BadO o) (k : 9 ≤ o.Kind) : stepI d o = withP d o := by unfold stepI withP; rw [if_neg h, if_neg (by omega), if_neg (by omega), if_neg (by omega), if_pos k] <;> rfl
theorem step_wc {d : DIpc} {o : DIpcOp} (h : ¬ BadO o) (k : 2 ≤ o.Kind ∧ o.Kind ≤ 6) : stepI d o = withC d o := by unfold stepI withC; rw [if_neg h, if_neg (by omega), if_neg (by omega), if_neg (by omega), if_neg (by omega)] <;> rfl
def idsF (cs : List DCap) (hl : Int) : List Int := (cs.filter (fun c => c.Holder == hl)).map DCap.Id
theorem nd_fil {cs : List DCap} {k : Nat} {c : DCap} (hnd : (cs.map DCap.Id).Nodup) (hk : cs[k]? = some c) : cs.filter (fun x => x.Id != c.Id) = cs.take k ++ cs.drop (k + 1) := by
  have hlt := (List.getElem?_eq_some_iff.1 hk).1
  have he : cs[k] = c := (List.getElem?_eq_some_iff.1 hk).2
  have huniq : ∀ (j : Nat) (y : DCap), cs[j]? = some y → y.Id = c.Id → j = k := fun j y hj hy =>
    nd_get hnd (x := c.Id) (by rw [List.getElem?_map, hj]; simp [hy]) (by rw [List.getElem?_map, hk]; rfl)
  have e : cs = cs.take k ++ c :: cs.drop (k + 1) := by rw [← he, List.getElem_cons_drop hlt, List.take_append_drop]
  conv => lhs; rw [e]
  rw [List.filter_append, List.filter_cons_of_neg (by simp)]
  congr 1
  · refine List.filter_eq_self.2 (fun y hy => ?_)
    obtain ⟨j, hj⟩ := List.getElem?_of_mem hy
    have hjk : j < k := by have := (List.getElem?_eq_some_iff.1 hj).1; simp at this; omega
    rw [List.getElem?_take_of_lt hjk] at hj
    have hne : y.Id ≠ c.Id := fun h => by have := huniq j y hj h; omega
    simpa using hne
  · refine List.filter_eq_self.2 (fun y hy => ?_)
    obtain ⟨j, hj⟩ := List.getElem?_of_mem hy
    rw [List.getElem?_drop] at hj
    have hne : y.Id ≠ c.Id := fun h => by have := huniq _ y hj h; omega
    simpa using hne
theorem dropC_nd {cs : List DCap} {id up : Int} (hnd : (cs.map DCap.Id).Nodup) : ((dropC cs id up).map DCap.Id).Nodup := by
  have e : (dropC cs id up).map DCap.Id = (cs.filter (fun x => x.Id != id)).map DCap.Id := by
    unfold dropC
    rw [List.map_map]
    refine List.map_congr_left (fun x _ => ?_)
    exact re_id _ _ _
  rw [e]
  exact hnd.sublist ((List.filter_sublist).map _)
theorem re_holder (id up : Int) (x : DCap) : (reCap id up x).Holder = x.Holder := by unfold reCap; split <;> rfl
theorem idsF_drop {cs : List DCap} {id up hl : Int} : idsF (dropC cs id up) hl = ((cs.filter (fun x => x.Id != id)).filter (fun c => c.Holder == hl)).map DCap.Id := by
  unfold idsF dropC
  rw [List.filter_map, List.map_map]
  have e1 : (fun c : DCap => c.Holder == hl) ∘ reCap id up = fun c => c.Holder == hl := by
    funext x
    show ((reCap id up x).Holder == hl) = _
    rw [re_holder]
  rw [e1]
  refine List.map_congr_left (fun x _ => ?_)
  exact re_id _ _ _
theorem ids_drop {cs : List DCap} {k : Nat} {c : DCap} {up hl : Int} (hnd : (cs.map DCap.Id).Nodup) (hk : cs[k]? = some c) (hh : c.Holder = hl) (hpre : ∀ x, x ∈ cs.take k → x.Holder ≠ hl) : idsF cs hl = c.Id :: idsF (dropC cs c.Id up) hl := by
  have hlt := (List.getElem?_eq_some_iff.1 hk).1
  have he : cs[k] = c := (List.getElem?_eq_some_iff.1 hk).2
  have e : cs = cs.take k ++ c :: cs.drop (k + 1) := by rw [← he, List.getElem_cons_drop hlt, List.take_append_drop]
  have hno : (cs.take k).filter (fun c => c.Holder == hl) = [] := List.filter_eq_nil_iff.2 (fun x hx => by simpa using hpre x hx)
  rw [idsF_drop, nd_fil hnd hk, List.filter_append, hno, List.nil_append]
  unfold idsF
  conv => lhs; rw [e]
  rw [List.filter_append, hno, List.nil_append, List.filter_cons_of_pos (by simpa using hh)]
  rfl
theorem dropC_take {cs : List DCap} {k : Nat} {c : DCap} {up hl : Int} (hnd : (cs.map DCap.Id).Nodup) (hk : cs[k]? = some c) (hpre : ∀ x, x ∈ cs.take k → x.Holder ≠ hl) : ∀ x, x ∈ (dropC cs c.Id up).take k → x.Holder ≠ hl := by
  have hlt := (List.getElem?_eq_some_iff.1 hk).1
  intro x hx
  unfold dropC at hx
  rw [nd_fil hnd hk, ← List.map_take, List.take_append_of_le_length (by simp; omega), List.take_take, Nat.min_self] at hx
  obtain ⟨y, hy, rfl⟩ := List.mem_map.1 hx
  rw [re_holder]
  exact hpre y hy
theorem dropC_len {cs : List DCap} {k : Nat} {c : DCap} {up : Int} (hnd : (cs.map DCap.Id).Nodup) (hk : cs[k]? = some c) : (dropC cs c.Id up).length + 1 = cs.length := by
  have hlt := (List.getElem?_eq_some_iff.1 hk).1
  unfold dropC
  rw [List.length_map, nd_fil hnd hk, List.length_append, List.length_take, List.length_drop]
  omega
theorem nd_ix {d : DIpc} {k : Nat} {c : DCap} (hnd : (d.Caps.map DCap.Id).Nodup) (hk : d.Caps[k]? = some c) : capIx d c.Id = k ∧ capOf d c.Id = some c := by
  rcases capIx_cases d c.Id with ⟨_, _, e3⟩ | ⟨k', c', e1, e2, e3, e4⟩
  · exact absurd rfl (e3 c (List.mem_of_getElem? hk))
  · have hkk : k' = k := nd_get hnd (x := c.Id) (by rw [List.getElem?_map, e2]; simp [e4]) (by rw [List.getElem?_map, hk]; rfl)
    subst hkk
    rw [hk] at e2
    cases e2
    exact ⟨e1, e3⟩
theorem wf_caps {r : RIpc} {cs : List DCap} (h : IWf r.abs) (hl : cs.length ≤ 1048576) : IWf (⟨r.Next, r.Ports, cs, r.Pipes⟩ : RIpc).abs :=
  ⟨h.msgs, h.pipes, ⟨h.pw.pipes⟩, ⟨hl, h.few.2.1, h.few.2.2⟩, h.queues⟩
set_option maxHeartbeats 4000000 in
theorem s67 {w0 w : World} {F : List Asr} {tp tc tq td : Sl} {r : RIpc} {o : DIpcOp} (h : SH w0 w (sP tp tc tq r ++ F)) (hw : IWf r.abs) (hi : IOk r.abs) (hb : ByAt w0 td o.Data) (hbs : o.Data.length ≤ 1048576) :
    CallW Try.prog 67 #[iV r.Next tp tc tq, .agg ⟨opV o td⟩] w (KS w0 F (stepI r.abs o)) := by
  refine go67 (a0_0 := r.Next) (a0_1 := tp) (a0_2 := tc) (a0_3 := tq) (a1_0 := o.Kind) (a1_1 := o.Holder) (a1_2 := o.Id) (a1_3 := o.To) (a1_4 := o.Rights) (a1_5 := o.Cap) (a1_6 := o.N) (a1_7 := td) ?_
  unfold W67; (try delta qn ql qb qi qS qI qP qQ qR qU qA qC H67_1 H67_0 H67_2 H67_4 H67_3 H67_5)
  have h : SH w0 w (rP tp r.Ports :: bP r.Ports :: rC tc r.Caps :: rQ tq r.Pipes :: bQ r.Pipes :: F) := h
  have hnx : 0 ≤ r.Next ∧ r.Next ≤ 1099511627776 := hi.next
  have hfc : r.Caps.length ≤ 128 := hi.caps
  have hfp : r.Ports.length ≤ 32 := by rw [← abs_ports]; exact hi.ports
  have hfq : r.Pipes.length ≤ 32 := by rw [← abs_pipes]; exact hi.pipes
  have htp := h.len 0 rfl
  have hcl := h.len 2 rfl
  have htq := h.len 3 rfl
  rw [recs_len] at hcl htp htq
  refine h.alloc (fun w1 h e1 n1 => ?_)
  refine h.alloc (fun w2 h e2 n2 => ?_)
  refine h.alloc (fun w3 h e3 n3 => ?_)
  refine h.alloc (fun w4 h e4 n4 => ?_)
  have h : SH w0 w4 (BR w3.heap.size 0 0 N0 0 :: BI w2.heap.size 0 N0 N0 N0 :: BO w1.heap.size o td :: BI w.heap.size r.Next tp tc tq :: rP tp r.Ports :: bP r.Ports :: rC tc r.Caps :: rQ tq r.Pipes :: bQ r.Pipes :: F) := h
  generalize w3.heap.size = rb at *
  generalize w2.heap.size = ib at *
  generalize w1.heap.size = ob at *
  generalize w.heap.size = b at *
  refine ⟨_, h.cell 2 rfl rfl, c84.mono ?_⟩
  rintro _ w7 ⟨rfl, rfl⟩
  refine ⟨_, rfl, ?_⟩
  refine JoinW.cut1 (fun (x : Bool) w' => x = decide (o.Holder < 0 ∨ 64 ≤ o.Holder ∨ o.Kind < 1) ∧ w' = w7) (BIf.of (fun hx => ⟨?_, rfl⟩) (fun hx => ⟨_, h.cell 2 rfl rfl, ?_, rfl⟩)) ?_
  · rw [Bool.eq_iff_iff]; simp at hx ⊢; omega
  · rw [Bool.eq_iff_iff]; simp at hx ⊢; omega
  rintro (x : Bool) w11 ⟨rfl, rfl⟩
  refine JoinW.cut1 (fun (x : Bool) w' => x = decide (BadO o) ∧ w' = w11) (BIf.dec (fun hx => ⟨(decide_eq_true (by unfold BadO; omega)).symm, rfl⟩) (fun hx => ⟨_, h.cell 2 rfl rfl, by rw [Bool.eq_iff_iff, decide_eq_true_iff, decide_eq_true_iff]; unfold BadO; omega, rfl⟩)) ?_
  rintro (x : Bool) w14 ⟨rfl, rfl⟩
  refine BIf.dec (fun hbad => errS (M := [_]) (step_bad hbad) h) (fun hbad => ?_)
  have hbad2 := hbad
  unfold BadO at hbad2
  refine ⟨_, h.cell 2 rfl rfl, ?_⟩
  refine BIf.eq (fun k1 => ?_) (fun k1 => ?_)
  · -- a new port
    refine ⟨tp, h.cell 3 rfl rfl, ?_⟩
    refine JoinW.cut1 (fun (x : Bool) w' => x = decide (32 ≤ r.Ports.length ∨ 128 ≤ r.Caps.length) ∧ w' = w14) (BIf.dec (fun e => ⟨(decide_eq_true (.inl (by omega))).symm, rfl⟩) (fun e => ⟨tc, h.cell 3 rfl rfl, by rw [Bool.eq_iff_iff, decide_eq_true_iff, decide_eq_true_iff]; omega, rfl⟩)) ?_
    rintro (x : Bool) w43 ⟨rfl, rfl⟩
    have hst := step_1 (d := r.abs) hbad k1
    refine BIf.dec (fun hfull => errS (M := [_]) (by rw [hst]; unfold newPort; rw [if_pos (by rw [abs_ports]; exact hfull)]) h) (fun hfull => ?_)
    have hres : stepI r.abs o = (⟨r.Next + 2, r.abs.Ports ++ [⟨r.Next + 1, []⟩], r.Caps ++ [⟨r.Next + 2, o.Holder, r.Next + 1, 7, 0⟩], r.abs.Pipes⟩, resN (r.Next + 2)) := by rw [hst]; unfold newPort; rw [if_neg (by rw [abs_ports]; exact hfull)]; rfl
    rw [hres]
    refine ⟨_, h.cell 3 rfl rfl, ?_⟩
    dsimp only; rw [w64 (n := r.Next + 1) (by omega) (by omega)]
    refine h.setV 3 rfl rfl (fun w69 h n69 => ?_)
    refine ⟨tp, h.cell 3 rfl rfl, _, h.cell 3 rfl rfl, ?_⟩
    refine h.alloc (fun w72 h e72 n72 => ?_)
    refine LetW_iff.2 (SH.appendR1 (f := RPort.cells) (x := ⟨r.Next + 1, ⟨some ⟨w69.heap.size, 0, none⟩, 0, 0⟩, []⟩) ((((((h.dropAt 0).fro 3 rfl).fro 3 rfl).fro 3 rfl).fro 3 rfl).fro 4 rfl) rfl rfl rfl (by decide) (by show (_ + _) * 32 ≤ _; omega) (plain_port _) (fun tp2 w75 h htp2 _ => ?_))
    refine h.setV 4 rfl rfl (fun w76 h n76 => ?_)
    have h : SH w0 w76 (rP tp2 (r.Ports ++ [⟨r.Next + 1, ⟨some ⟨w69.heap.size, 0, none⟩, 0, 0⟩, []⟩]) :: BR rb 0 0 N0 0 :: BI ib 0 N0 N0 N0 :: BO ob o td :: BI b (r.Next + 1) tp2 tc tq :: bP r.Ports :: rC tc r.Caps :: rQ tq r.Pipes :: bQ r.Pipes :: F) := h
    refine ⟨_, h.cell 4 rfl rfl, tp2, h.cell 4 rfl rfl, tc, h.cell 4 rfl rfl, tq, h.cell 4 rfl rfl, _, h.cell 3 rfl rfl, _, h.cell 4 rfl rfl, ?_⟩
    refine (s96 (((((((h.fro 5 rfl).fro 5 rfl).fro 5 rfl).fro 5 rfl).fro 5 rfl).fro 5 rfl).fro 6 rfl) (by omega) (by omega) (by omega)).mono ?_
    rintro _ w84 ⟨tc2, rfl, h⟩
    refine ⟨_, tp2, tc2, tq, rfl, ?_⟩
    refine h.put 5 rfl rfl rfl (fun w89 h n89 => ?_)
    have h := h.drew
    refine ⟨_, h.cell 5 rfl rfl, tp2, h.cell 5 rfl rfl, tc2, h.cell 5 rfl rfl, tq, h.cell 5 rfl rfl, _, h.cell 5 rfl rfl, ?_⟩
    refine h.put 3 rfl rfl rfl (fun w95 h n95 => ?_)
    refine ⟨⟨_, h.cell 5 rfl rfl, rfl⟩, ?_⟩
    refine h.put 2 rfl rfl rfl (fun w97 h n97 => ?_)
    refine ⟨_, h.cell 3 rfl rfl, tp2, h.cell 3 rfl rfl, tc2, h.cell 3 rfl rfl, tq, h.cell 3 rfl rfl, _, h.cell 2 rfl rfl, _, h.cell 2 rfl rfl, N0, h.cell 2 rfl rfl, _, h.cell 2 rfl rfl, ?_⟩
    have h := (((((((((h.dropAt 5).dropAt 4).dropAt 3).dropAt 2).fro 0 rfl).fro 1 rfl).fro 2 rfl)).bagNil msgA).nil (some ⟨w69.heap.size, 0, none⟩) 3
    have h := SH.bagSnoc (f := portA) (x := (⟨r.Next + 1, ⟨some ⟨w69.heap.size, 0, none⟩, 0, 0⟩, []⟩ : RPort)) (SH.allIn (As := [rM ⟨some ⟨w69.heap.size, 0, none⟩, 0, 0⟩ [], bM []]) h)
    have h := (((h.fro 0 rfl).fro 1 rfl)).nil none 1
    have e : r.Next + 1 + 1 = r.Next + 2 := by omega
    rw [e] at h
    refine ⟨tp2, tc2, tq, N0, ⟨r.Next + 2, r.Ports ++ [⟨r.Next + 1, ⟨some ⟨w69.heap.size, 0, none⟩, 0, 0⟩, []⟩], r.Caps ++ [⟨r.Next + 2, o.Holder, r.Next + 1, 7, 0⟩], r.Pipes⟩, ?_, ?_, ?_⟩
    · rw [e]; rfl
    · unfold RIpc.abs
      rw [List.map_append]
      rfl
    · exact h
  refine BIf.eq (fun k7 => ?_) (fun k7 => ?_)
  · -- a holder gone
    have hst : stepI r.abs o = goneI r.abs o := step_7 hbad k7
    have hnd : (r.Caps.map DCap.Id).Nodup := by
      rw [List.nodup_iff_pairwise_ne, List.pairwise_map]
      refine List.pairwise_iff_getElem.2 (fun i j hi2 hj hij => ?_)
      have := (cap_mono hi (List.getElem?_eq_getElem (l := r.abs.Caps) hi2) (List.getElem?_eq_getElem (l := r.abs.Caps) hj)).1.2 hij
      exact fun he => absurd this (by have : (r.abs.Caps[i]).Id = (r.abs.Caps[j]).Id := he; omega)
    refine LoopW.m2 (fun (n : Int) (i : Int) w' => ∃ (tc2 : Sl) (cs : List DCap) (k m : Nat), i = k ∧ n = m ∧ k ≤ cs.length ∧ cs.length + m = r.Caps.length ∧ (cs.map DCap.Id).Nodup ∧ (∀ x, x ∈ cs.take k → x.Holder ≠ o.Holder) ∧ m + (idsF cs o.Holder).length = (idsOf r.abs o.Holder).length ∧ (idsF cs o.Holder).foldl dropF (⟨r.Next, r.Ports, cs, r.Pipes⟩ : RIpc).abs = (idsOf r.abs o.Holder).foldl dropF r.abs ∧
      SH w0 w' (BR rb 0 0 N0 0 :: BI ib 0 N0 N0 N0 :: BO ob o td :: BI b r.Next tp tc2 tq :: rP tp r.Ports :: bP r.Ports :: rC tc2 cs :: rQ tq r.Pipes :: bQ r.Pipes :: F)) (fun (n : Int) (i : Int) _ => ((r.Caps.length : Int) - n - i).toNat) ⟨tc, r.Caps, 0, 0, rfl, rfl, by omega, by omega, hnd, by simp, by rw [Nat.zero_add]; rfl, rfl, h⟩ ?_
    clear h
    rintro (n : Int) (i : Int) wl ⟨tc2, cs, k, m, rfl, rfl, hk, hcm, hnd2, hpre, hids, hfold, h⟩ J hJ
    have hcl2 := h.len 6 rfl
    rw [recs_len] at hcl2
    refine ⟨tc2, h.cell 3 rfl rfl, BIf.dec (fun hlt => ?_) (fun hge => ?_)⟩
    · have hget : cs[k]? = some cs[k] := List.getElem?_eq_getElem (by omega)
      generalize cs[k] = y at *
      have h := h.drew
      obtain ⟨q, hq⟩ := h.rowQ 6 rfl hget
      simp only [Int.toNat_natCast]
      refine ⟨tc2, h.cell 3 rfl rfl, by omega, by omega, q, hq, _, h.rdR 6 rfl hq hget rfl, _, h.cell 2 rfl rfl, ?_⟩
      refine BIf.eq (fun he => ?_) (fun he => ?_)
      · have h := h.drew
        refine ⟨_, h.cell 3 rfl rfl, tp, h.cell 3 rfl rfl, tc2, h.cell 3 rfl rfl, tq, h.cell 3 rfl rfl, tc2, h.cell 3 rfl rfl, by omega, by omega, q, hq, _, h.rdR 6 rfl hq hget rfl, ?_⟩
        have hix := nd_ix (d := (⟨r.Next, r.Ports, cs, r.Pipes⟩ : RIpc).abs) hnd2 hget
        refine (s97 (r := ⟨r.Next, r.Ports, cs, r.Pipes⟩) (((((((((h.fro 3 rfl).fro 3 rfl).fro 3 rfl).fro 3 rfl).fro 8 rfl).fro 8 rfl).fro 8 rfl).fro 8 rfl).fro 8 rfl) (wf_caps hw (by omega)) hix.1 hget).mono ?_
        rintro _ w124 ⟨tc3, rfl, h⟩
        refine ⟨_, tp, tc3, tq, rfl, ?_⟩
        refine h.put 8 rfl rfl rfl (fun w129 h n129 => ?_)
        rw [w64 (n := (m : Int) + 1) (by omega) (by omega)]
        have hdl := dropC_len (up := y.Parent) hnd2 hget
        have hid := ids_drop (up := y.Parent) hnd2 hget he hpre
        refine hJ _ _ _ ⟨tc3, dropC cs y.Id y.Parent, k, m + 1, rfl, by omega, by omega, by omega, dropC_nd hnd2, dropC_take hnd2 hget hpre, ?_, ?_, (((((((((h.fro 4 rfl).fro 4 rfl).fro 4 rfl).fro 4 rfl).fro 4 rfl).fro 8 rfl).fro 8 rfl).fro 8 rfl).fro 8 rfl)⟩ (by omega)
        · rw [hid, List.length_cons] at hids; omega
        · rw [← hfold, hid, List.foldl_cons]
          congr 1
          have : dropF (⟨r.Next, r.Ports, cs, r.Pipes⟩ : RIpc).abs y.Id = ⟨r.Next, r.Ports.map RPort.abs, dropC cs y.Id y.Parent, r.Pipes.map RPipe.abs⟩ := by
            unfold dropF
            rw [hix.2]
            rfl
          exact this.symm
      · rw [w64 (n := (k : Int) + 1) (by omega) (by omega)]
        refine hJ _ _ _ ⟨tc2, cs, k + 1, m, by omega, rfl, by omega, hcm, hnd2, fun x hx => ?_, hids, hfold, h⟩ (by omega)
        rw [take_snoc' hget] at hx
        rcases List.mem_append.1 hx with hx | hx
        · exact hpre x hx
        · rw [List.mem_singleton.1 hx]; exact he
    · have hke : k = cs.length := by omega
      rw [hke, List.take_length] at hpre
      have hnil : idsF cs o.Holder = [] := by
        unfold idsF
        rw [List.filter_eq_nil_iff.2 (fun x hx => by simpa using hpre x hx)]
        rfl
      rw [hnil] at hids hfold
      refine ⟨_, h.cell 3 rfl rfl, tp, h.cell 3 rfl rfl, tc2, h.cell 3 rfl rfl, tq, h.cell 3 rfl rfl, ?_⟩
      refine (s98 (((((((h.fro 3 rfl).fro 3 rfl).fro 3 rfl).fro 3 rfl).fro 6 rfl).fro 6 rfl).fro 6 rfl) (by omega) (by omega)).mono ?_
      rintro _ w135 ⟨tp2, rfl, h⟩
      refine ⟨_, tp2, tc2, tq, rfl, ?_⟩
      refine h.put 4 rfl rfl rfl (fun w140 h n140 => ?_)
      refine h.put 3 rfl rfl rfl (fun w141 h n141 => ?_)
      refine ⟨_, h.cell 4 rfl rfl, tp2, h.cell 4 rfl rfl, tc2, h.cell 4 rfl rfl, tq, h.cell 4 rfl rfl, _, h.cell 3 rfl rfl, _, h.cell 3 rfl rfl, N0, h.cell 3 rfl rfl, _, h.cell 3 rfl rfl, ?_⟩
      have h := (((((h.dropAt 6).dropAt 5).dropAt 4).dropAt 3)).nil none 1
      have hfold : (⟨r.Next, r.Ports, cs, r.Pipes⟩ : RIpc).abs = (idsOf r.abs o.Holder).foldl dropF r.abs := hfold
      have hm : m = (idsOf r.abs o.Holder).length := by simpa using hids
      have hres : stepI r.abs o = (cleanF (⟨r.Next, r.Ports, cs, r.Pipes⟩ : RIpc).abs, resN (m : Int)) := by rw [hst]; unfold goneI; rw [← hfold, hm]
      rw [hres]
      refine ⟨tp2, tc2, tq, N0, ⟨r.Next, r.Ports.filter (hasR cs), cs, r.Pipes⟩, rfl, ?_, h⟩
      unfold cleanF RIpc.abs
      dsimp only
      rw [filter_abs]
  refine BIf.eq (fun k8 => ?_) (fun k8 => ?_)
  · -- a new pipe
    have hst := step_8 (d := r.abs) hbad k8
    refine ⟨tq, h.cell 3 rfl rfl, BIf.dec (fun hfull => errS (M := [_]) (by rw [hst]; unfold newPipe; rw [if_pos (by rw [abs_pipes]; omega)]) h) (fun hfull => ?_)⟩
    have hres : stepI r.abs o = (⟨r.Next + 1, r.abs.Ports, r.Caps, r.abs.Pipes ++ [⟨r.Next + 1, 1, 1, []⟩]⟩, resN (r.Next + 1)) := by rw [hst]; unfold newPipe; rw [if_neg (by rw [abs_pipes]; omega)]; rfl
    rw [hres]
    refine ⟨_, h.cell 3 rfl rfl, ?_⟩
    dsimp only; rw [w64 (n := r.Next + 1) (by omega) (by omega)]
    refine h.setV 3 rfl rfl (fun w176 h n176 => ?_)
    refine ⟨tq, h.cell 3 rfl rfl, _, h.cell 3 rfl rfl, ?_⟩
    refine LetW_iff.2 (SH.appendR1 (f := RPipe.cells) (x := ⟨r.Next + 1, 1, 1, N0, []⟩) ((((((((h.fro 6 rfl).fro 6 rfl).fro 6 rfl).fro 6 rfl).fro 6 rfl).fro 6 rfl).fro 6 rfl).fro 7 rfl) rfl rfl rfl (by decide) (by show (_ + _) * 48 ≤ _; omega) (plain_pipe _) (fun tq2 w181 h htq2 _ => ?_))
    refine h.setV 4 rfl rfl (fun w182 h n182 => ?_)
    have h : SH w0 w182 (rQ tq2 (r.Pipes ++ [⟨r.Next + 1, 1, 1, N0, []⟩]) :: BR rb 0 0 N0 0 :: BI ib 0 N0 N0 N0 :: BO ob o td :: BI b (r.Next + 1) tp tc tq2 :: rP tp r.Ports :: bP r.Ports :: rC tc r.Caps :: bQ r.Pipes :: F) := h
    have h := h.drew
    refine ⟨_, h.cell 4 rfl rfl, tp, h.cell 4 rfl rfl, tc, h.cell 4 rfl rfl, tq2, h.cell 4 rfl rfl, _, h.cell 4 rfl rfl, ?_⟩
    refine h.put 2 rfl rfl rfl (fun w188 h n188 => ?_)
    refine ⟨⟨_, h.cell 4 rfl rfl, rfl⟩, ?_⟩
    refine h.put 1 rfl rfl rfl (fun w190 h n190 => ?_)
    refine ⟨_, h.cell 2 rfl rfl, tp, h.cell 2 rfl rfl, tc, h.cell 2 rfl rfl, tq2, h.cell 2 rfl rfl, _, h.cell 1 rfl rfl, _, h.cell 1 rfl rfl, N0, h.cell 1 rfl rfl, _, h.cell 1 rfl rfl, ?_⟩
    have h := ((((((((((h.dropAt 4).dropAt 3).dropAt 2).dropAt 1).fro 0 rfl).fro 3 rfl).fro 3 rfl).fro 3 rfl).fro 4 rfl)).nil none 1
    have h := SH.bagSnoc (f := pipeA) (x := (⟨r.Next + 1, 1, 1, N0, []⟩ : RPipe)) h
    have h := ((((((h.fro 0 rfl).fro 4 rfl).fro 4 rfl).fro 4 rfl).fro 4 rfl)).nil none 1
    refine ⟨tp, tc, tq2, N0, ⟨r.Next + 1, r.Ports, r.Caps, r.Pipes ++ [⟨r.Next + 1, 1, 1, N0, []⟩]⟩, rfl, ?_, ?_⟩
    · unfold RIpc.abs
      rw [List.map_append]
      rfl
    · exact h
  refine JoinW.cut1 (fun (x : Bool) w' => x = decide (9 ≤ o.Kind) ∧ w' = w14) (BIf.eq (fun e => ⟨by rw [Bool.eq_iff_iff]; simp; omega, rfl⟩) (fun e => BIf.eq (fun e2 => ⟨by rw [Bool.eq_iff_iff]; simp; omega, rfl⟩) (fun e2 => ⟨by rw [Bool.eq_iff_iff]; simp; omega, rfl⟩))) ?_
  rintro (x : Bool) w201 ⟨rfl, rfl⟩
  refine BIf.dec (fun h9 => ?_) (fun h9 => ?_)
  · rw [step_wp hbad h9]
    refine ⟨_, h.cell 3 rfl rfl, tp, h.cell 3 rfl rfl, tc, h.cell 3 rfl rfl, tq, h.cell 3 rfl rfl, _, h.cell 2 rfl rfl, _, h.cell 2 rfl rfl, _, h.cell 2 rfl rfl, _, h.cell 2 rfl rfl, _, h.cell 2 rfl rfl, _, h.cell 2 rfl rfl, _, h.cell 2 rfl rfl, td, h.cell 2 rfl rfl, ?_⟩
    exact retS (X := [BO ob o td, BI b r.Next tp tc tq]) (s99 (r := r) (o := o) (((((((((h.fro 3 rfl).fro 3 rfl).fro 3 rfl).fro 3 rfl).fro 8 rfl).fro 8 rfl).fro 8 rfl).fro 8 rfl).fro 8 rfl) hw hi hb hbs)
  · rw [step_wc hbad (by omega)]
    refine ⟨_, h.cell 3 rfl rfl, tp, h.cell 3 rfl rfl, tc, h.cell 3 rfl rfl, tq, h.cell 3 rfl rfl, _, h.cell 2 rfl rfl, _, h.cell 2 rfl rfl, _, h.cell 2 rfl rfl, _, h.cell 2 rfl rfl, _, h.cell 2 rfl rfl, _, h.cell 2 rfl rfl, _, h.cell 2 rfl rfl, td, h.cell 2 rfl rfl, ?_⟩
    exact retS (X := [BO ob o td, BI b r.Next tp tc tq]) (s100 (r := r) (o := o) (((((((((h.fro 3 rfl).fro 3 rfl).fro 3 rfl).fro 3 rfl).fro 8 rfl).fro 8 rfl).fro 8 rfl).fro 8 rfl).fro 8 rfl) hw hi hb hbs)
end Go.Proofs.Ytbimoajgofcmbaa

namespace Go.Proofs.Ytbimoajgofcmbaa
open Go Go.Den
structure CapJ (d : DIpc) (c : DCap) : Prop where
  id1 : 1 ≤ c.Id
  idN : c.Id ≤ d.Next
  hold : 0 ≤ c.Holder ∧ c.Holder < 64
  r1 : 1 ≤ c.Rights
  r7 : c.Rights ≤ 7
  port : ∃ p, p ∈ d.Ports ∧ p.Id = c.Port
  par : c.Parent = 0 ∨ ∃ p, p ∈ d.Caps ∧ p.Id = c.Parent ∧ p.Id < c.Id ∧ p.Port = c.Port ∧ amongB c.Rights p.Rights = true
structure MsgJ (d : DIpc) (m : DMsg) : Prop where
  ok : MsgOk d m
  rng : ∀ x, x ∈ m.Data → 0 ≤ x ∧ x ≤ 255
structure PortJ (d : DIpc) (p : DPort) : Prop where
  id1 : 1 ≤ p.Id
  idN : p.Id ≤ d.Next
  few : p.Queue.length ≤ 8
  noCap : ∀ c, c ∈ d.Caps → c.Id ≠ p.Id
  noPipe : ∀ c, c ∈ d.Pipes → c.Id ≠ p.Id
  msgs : ∀ m, m ∈ p.Queue → MsgJ d m
structure PipeJ (d : DIpc) (p : DPipe) : Prop where
  id1 : 1 ≤ p.Id
  idN : p.Id ≤ d.Next
  noCap : ∀ c, c ∈ d.Caps → c.Id ≠ p.Id
  few : p.Data.length ≤ 512
  r : 0 ≤ p.Readers ∧ p.Readers ≤ 64
  w : 0 ≤ p.Writers ∧ p.Writers ≤ 64
  pos : 0 < p.Readers + p.Writers
  rng : ∀ x, x ∈ p.Data → 0 ≤ x ∧ x ≤ 255
structure J0 (d : DIpc) : Prop where
  nx : 0 ≤ d.Next
  caps : d.Caps.length ≤ 128
  ports : d.Ports.length ≤ 32
  pipes : d.Pipes.length ≤ 32
  cs : d.Caps.Pairwise (fun a b => a.Id < b.Id)
  ps : d.Ports.Pairwise (fun a b => a.Id < b.Id)
  qs : d.Pipes.Pairwise (fun a b => a.Id < b.Id)
  cap : ∀ c, c ∈ d.Caps → CapJ d c
  port : ∀ p, p ∈ d.Ports → PortJ d p
  pipe : ∀ p, p ∈ d.Pipes → PipeJ d p
def HasJ (d : DIpc) : Prop := ∀ p, p ∈ d.Ports → hasCap d.Caps p = true
theorem pw_sorted {α : Type} {f : α → Int} {l : List α} (h : l.Pairwise (fun a b => f a < f b)) {i : Nat} {x z : α} (hx : l[i]? = some x) (hi : 0 < i) (hz : l[i - 1]? = some z) : f z < f x := by
  obtain ⟨h1, e1⟩ := List.getElem?_eq_some_iff.1 hx
  obtain ⟨h2, e2⟩ := List.getElem?_eq_some_iff.1 hz
  have := List.pairwise_iff_getElem.1 h (i - 1) i h2 h1 (by omega)
  rw [e1, e2] at this
  exact this
theorem pw_uniq {α : Type} {f : α → Int} {l : List α} (h : l.Pairwise (fun a b => f a < f b)) {x y : α} (hx : x ∈ l) (hy : y ∈ l) (he : f x = f y) : x = y := by
  obtain ⟨i, hi⟩ := List.getElem?_of_mem hx
  obtain ⟨j, hj⟩ := List.getElem?_of_mem hy
  obtain ⟨h1, e1⟩ := List.getElem?_eq_some_iff.1 hi
  obtain ⟨h2, e2⟩ := List.getElem?_eq_some_iff.1 hj
  have hp := List.pairwise_iff_getElem.1 h
  rcases Nat.lt_trichotomy i j with hlt | hee | hlt
  · have := hp i j h1 h2 hlt; rw [e1, e2] at this; omega
  · subst hee; rw [← e1, ← e2]
  · have := hp j i h2 h1 hlt; rw [e1, e2] at this; omega
theorem J0.iok {d : DIpc} (h : J0 d) (hh : HasJ d) (hn : d.Next ≤ 1099511627776) : IOk d := by
  refine ⟨⟨h.nx, hn⟩, h.caps, h.ports, h.pipes, fun i c hc => ?_, fun i p hp => ?_, fun i p hp => ?_⟩
  · have hm := List.mem_of_getElem? hc
    have hj := h.cap c hm
    refine ⟨hj.id1, hj.idN, fun z hi hz => pw_sorted h.cs hc hi hz, hj.hold, hj.r1, hj.r7, ?_, ?_⟩
    · obtain ⟨p, hp, he⟩ := hj.port
      rcases portIx_cases d c.Port with ⟨_, _, e3⟩ | ⟨k, _, e1, _⟩
      · exact absurd he (e3 p hp)
      · omega
    · rcases hj.par with h0 | ⟨p, hp, h1, h2, h3, h4⟩
      · exact .inl h0
      · rcases capIx_cases d c.Parent with ⟨_, _, e3⟩ | ⟨k, p', e1, e2, _, e4⟩
        · exact absurd h1 (e3 p hp)
        · have : p' = p := pw_uniq h.cs (List.mem_of_getElem? e2) hp (by rw [e4, h1])
          subst this
          exact .inr ⟨k, p', e1, e2, by omega, h3, h4⟩
  · have hm := List.mem_of_getElem? hp
    have hj := h.port p hm
    refine ⟨hj.id1, hj.idN, fun z hi hz => pw_sorted h.ps hp hi hz, hj.few, ?_, ?_, fun m hm => (hj.msgs m hm).ok, ?_⟩
    · rcases capIx_cases d p.Id with ⟨e1, _, _⟩ | ⟨k, c, _, e2, _, e4⟩
      · omega
      · exact absurd e4 (hj.noCap c (List.mem_of_getElem? e2))
    · rcases pipeIx_cases d p.Id with ⟨e1, _, _⟩ | ⟨k, c, _, e2, _, e4⟩
      · omega
      · exact absurd e4 (hj.noPipe c (List.mem_of_getElem? e2))
    · obtain ⟨c, hc, he⟩ := List.any_eq_true.1 (hh p hm)
      exact ⟨c, hc, by simpa using he⟩
  · have hm := List.mem_of_getElem? hp
    have hj := h.pipe p hm
    refine ⟨hj.id1, hj.idN, fun z hi hz => pw_sorted h.qs hp hi hz, ?_, hj.few, hj.r, hj.w, hj.pos⟩
    rcases capIx_cases d p.Id with ⟨e1, _, _⟩ | ⟨k, c, _, e2, _, e4⟩
    · omega
    · exact absurd e4 (hj.noCap c (List.mem_of_getElem? e2))
theorem j_empty : J0 ⟨0, [], [], []⟩ ∧ HasJ ⟨0, [], [], []⟩ :=
  ⟨⟨by decide, by decide, by decide, by decide, List.Pairwise.nil, List.Pairwise.nil, List.Pairwise.nil, fun c hc => by simp at hc, fun c hc => by simp at hc, fun c hc => by simp at hc⟩, fun p hp => by simp at hp⟩
end Go.Proofs.Ytbimoajgofcmbaa

namespace Go.Proofs.Ytbimoajgofcmbaa
open Go Go.Den
theorem am_refl_fin : ∀ y : Fin 8, amongB ((y.val : Nat) : Int) ((y.val : Nat) : Int) = true := by decide
theorem am_refl {y : Int} (h1 : 1 ≤ y) (h2 : y ≤ 7) : amongB y y = true := by
  have := am_refl_fin ⟨y.toNat, by omega⟩; simp only at this; rwa [show ((y.toNat : Nat) : Int) = y by omega] at this
set_option maxRecDepth 20000 in
theorem am_trans_fin : ∀ x y z : Fin 8, amongB ((x.val : Nat) : Int) ((y.val : Nat) : Int) = true → amongB ((y.val : Nat) : Int) ((z.val : Nat) : Int) = true → amongB ((x.val : Nat) : Int) ((z.val : Nat) : Int) = true := by decide
theorem am_trans {x y z : Int} (h1 : 1 ≤ x) (h2 : x ≤ 7) (h3 : 1 ≤ y) (h4 : y ≤ 7) (h5 : 1 ≤ z) (h6 : z ≤ 7) (ha : amongB x y = true) (hb : amongB y z = true) : amongB x z = true := by
  have := am_trans_fin ⟨x.toNat, by omega⟩ ⟨y.toNat, by omega⟩ ⟨z.toNat, by omega⟩
  simp only at this
  rw [show ((x.toNat : Nat) : Int) = x by omega, show ((y.toNat : Nat) : Int) = y by omega, show ((z.toNat : Nat) : Int) = z by omega] at this
  exact this ha hb
theorem MsgJ.up {d d' : DIpc} {m : DMsg} (h : MsgJ d m) (hn : d.Next ≤ d'.Next) : MsgJ d' m := by
  obtain ⟨⟨a, b, c, e, f⟩, g⟩ := h
  exact ⟨⟨a, b, c, e, by omega⟩, g⟩
theorem pw_snoc {α : Type} {f : α → Int} {l : List α} {x : α} (h : l.Pairwise (fun a b => f a < f b)) (hx : ∀ y, y ∈ l → f y < f x) : (l ++ [x]).Pairwise (fun a b => f a < f b) := by
  rw [List.pairwise_append]
  exact ⟨h, by simp, fun a ha b hb => by rw [List.mem_singleton.1 hb]; exact hx a ha⟩
theorem j_capSnoc {d : DIpc} {hl p r par : Int} (h : J0 d) (hf : d.Caps.length < 128) (h0 : 0 ≤ hl ∧ hl < 64) (r1 : 1 ≤ r) (r7 : r ≤ 7) (hp : ∃ x, x ∈ d.Ports ∧ x.Id = p)
    (hpar : par = 0 ∨ ∃ c, c ∈ d.Caps ∧ c.Id = par ∧ c.Port = p ∧ amongB r c.Rights = true) : J0 (addCap d hl p r par) := by
  have hnx := h.nx
  refine ⟨by show 0 ≤ d.Next + 1; omega, by show List.length (_ ++ _) ≤ _; rw [List.length_append]; simp; omega, h.ports, h.pipes, pw_snoc h.cs (fun y hy => by have := (h.cap y hy).idN; show y.Id < d.Next + 1; omega), h.ps, h.qs, fun c hc => ?_, fun q hq => ?_, fun q hq => ?_⟩
  · rcases List.mem_append.1 hc with hc | hc
    · have hj := h.cap c hc
      refine ⟨hj.id1, by have := hj.idN; show c.Id ≤ d.Next + 1; omega, hj.hold, hj.r1, hj.r7, hj.port, ?_⟩
      rcases hj.par with h1 | ⟨x, hx, h2⟩
      · exact .inl h1
      · exact .inr ⟨x, List.mem_append_left _ hx, h2⟩
    · rw [List.mem_singleton.1 hc]
      refine ⟨by show 1 ≤ d.Next + 1; omega, Int.le_refl _, h0, r1, r7, hp, ?_⟩
      rcases hpar with h1 | ⟨x, hx, h2, h3, h4⟩
      · exact .inl h1
      · exact .inr ⟨x, List.mem_append_left _ hx, h2, by have := (h.cap x hx).idN; show x.Id < d.Next + 1; omega, h3, h4⟩
  · have hj := h.port q hq
    refine ⟨hj.id1, by have := hj.idN; show q.Id ≤ d.Next + 1; omega, hj.few, fun c hc => ?_, hj.noPipe, fun m hm => (hj.msgs m hm).up (by show d.Next ≤ d.Next + 1; omega)⟩
    rcases List.mem_append.1 hc with hc | hc
    · exact hj.noCap c hc
    · rw [List.mem_singleton.1 hc]; have := hj.idN; show d.Next + 1 ≠ q.Id; omega
  · have hj := h.pipe q hq
    refine ⟨hj.id1, by have := hj.idN; show q.Id ≤ d.Next + 1; omega, fun c hc => ?_, hj.few, hj.r, hj.w, hj.pos, hj.rng⟩
    rcases List.mem_append.1 hc with hc | hc
    · exact hj.noCap c hc
    · rw [List.mem_singleton.1 hc]; have := hj.idN; show d.Next + 1 ≠ q.Id; omega
theorem has_app {cs : List DCap} {x : DCap} {p : DPort} (h : hasCap cs p = true) : hasCap (cs ++ [x]) p = true := by
  unfold hasCap at h ⊢
  rw [List.any_append, h]; rfl
theorem j_portSnoc {d : DIpc} (h : J0 d) (hf : d.Ports.length < 32) : J0 ⟨d.Next + 1, d.Ports ++ [⟨d.Next + 1, []⟩], d.Caps, d.Pipes⟩ := by
  have hnx := h.nx
  refine ⟨by show 0 ≤ d.Next + 1; omega, h.caps, by show List.length (_ ++ _) ≤ _; rw [List.length_append]; simp; omega, h.pipes, h.cs, pw_snoc h.ps (fun y hy => by have := (h.port y hy).idN; show y.Id < d.Next + 1; omega), h.qs, fun c hc => ?_, fun q hq => ?_, fun q hq => ?_⟩
  · have hj := h.cap c hc
    obtain ⟨x, hx, he⟩ := hj.port
    exact ⟨hj.id1, by have := hj.idN; show c.Id ≤ d.Next + 1; omega, hj.hold, hj.r1, hj.r7, ⟨x, List.mem_append_left _ hx, he⟩, hj.par⟩
  · rcases List.mem_append.1 hq with hq | hq
    · have hj := h.port q hq
      exact ⟨hj.id1, by have := hj.idN; show q.Id ≤ d.Next + 1; omega, hj.few, hj.noCap, hj.noPipe, fun m hm => (hj.msgs m hm).up (by show d.Next ≤ d.Next + 1; omega)⟩
    · rw [List.mem_singleton.1 hq]
      exact ⟨by show 1 ≤ d.Next + 1; omega, Int.le_refl _, by simp, fun c hc => by have := (h.cap c hc).idN; show c.Id ≠ d.Next + 1; omega, fun c hc => by have := (h.pipe c hc).idN; show c.Id ≠ d.Next + 1; omega, fun m hm => by simp at hm⟩
  · have hj := h.pipe q hq
    exact ⟨hj.id1, by have := hj.idN; show q.Id ≤ d.Next + 1; omega, hj.noCap, hj.few, hj.r, hj.w, hj.pos, hj.rng⟩
theorem j_pipeSnoc {d : DIpc} (h : J0 d) (hf : d.Pipes.length < 32) : J0 ⟨d.Next + 1, d.Ports, d.Caps, d.Pipes ++ [⟨d.Next + 1, 1, 1, []⟩]⟩ := by
  have hnx := h.nx
  refine ⟨by show 0 ≤ d.Next + 1; omega, h.caps, h.ports, by show List.length (_ ++ _) ≤ _; rw [List.length_append]; simp; omega, h.cs, h.ps, pw_snoc h.qs (fun y hy => by have := (h.pipe y hy).idN; show y.Id < d.Next + 1; omega), fun c hc => ?_, fun q hq => ?_, fun q hq => ?_⟩
  · have hj := h.cap c hc
    exact ⟨hj.id1, by have := hj.idN; show c.Id ≤ d.Next + 1; omega, hj.hold, hj.r1, hj.r7, hj.port, hj.par⟩
  · have hj := h.port q hq
    refine ⟨hj.id1, by have := hj.idN; show q.Id ≤ d.Next + 1; omega, hj.few, hj.noCap, fun c hc => ?_, fun m hm => (hj.msgs m hm).up (by show d.Next ≤ d.Next + 1; omega)⟩
    rcases List.mem_append.1 hc with hc | hc
    · exact hj.noPipe c hc
    · rw [List.mem_singleton.1 hc]; have := hj.idN; show d.Next + 1 ≠ q.Id; omega
  · rcases List.mem_append.1 hq with hq | hq
    · have hj := h.pipe q hq
      exact ⟨hj.id1, by have := hj.idN; show q.Id ≤ d.Next + 1; omega, hj.noCap, hj.few, hj.r, hj.w, hj.pos, hj.rng⟩
    · rw [List.mem_singleton.1 hq]
      exact ⟨by show 1 ≤ d.Next + 1; omega, Int.le_refl _, fun c hc => by have := (h.cap c hc).idN; show c.Id ≠ d.Next + 1; omega, by simp, by show (0 : Int) ≤ 1 ∧ (1 : Int) ≤ 64; omega, by show (0 : Int) ≤ 1 ∧ (1 : Int) ≤ 64; omega, by show (0 : Int) < 1 + 1; omega, fun x hx => by simp at hx⟩
theorem map_set_id {α β : Type} {f : α → β} {l : List α} {k : Nat} {x y : α} (hx : l[k]? = some x) (he : f y = f x) : (l.set k y).map f = l.map f := by
  rw [List.map_set, he, ← List.map_set, ← set_at hx]
theorem pw_ids {α : Type} {f : α → Int} {l m : List α} (h : l.Pairwise (fun a b => f a < f b)) (he : m.map f = l.map f) : m.Pairwise (fun a b => f a < f b) := by
  rw [← List.pairwise_map (f := f) (R := fun a b => a < b)] at h ⊢
  rw [he]; exact h
theorem j_setQ {d : DIpc} {k : Nat} {p : DPort} {q : List DMsg} (h : J0 d) (hk : d.Ports[k]? = some p) (hq : q.length ≤ 8) (hm : ∀ m, m ∈ q → MsgJ d m) : J0 (setQ d k p q) := by
  have hids : (d.Ports.set k ⟨p.Id, q⟩).map DPort.Id = d.Ports.map DPort.Id := map_set_id hk rfl
  have hpm := List.mem_of_getElem? hk
  refine ⟨h.nx, h.caps, by show (d.Ports.set k _).length ≤ _; rw [List.length_set]; exact h.ports, h.pipes, h.cs, pw_ids h.ps hids, h.qs, fun c hc => ?_, fun x hx => ?_, fun x hx => h.pipe x hx |> fun hj => ⟨hj.id1, hj.idN, hj.noCap, hj.few, hj.r, hj.w, hj.pos, hj.rng⟩⟩
  · have hj := h.cap c hc
    refine ⟨hj.id1, hj.idN, hj.hold, hj.r1, hj.r7, ?_, hj.par⟩
    obtain ⟨x, hx, he⟩ := hj.port
    have : c.Port ∈ (d.Ports.set k ⟨p.Id, q⟩).map DPort.Id := by rw [hids]; exact List.mem_map.2 ⟨x, hx, he⟩
    obtain ⟨y, hy, hye⟩ := List.mem_map.1 this
    exact ⟨y, hy, hye⟩
  · rcases List.mem_or_eq_of_mem_set hx with hx | rfl
    · have hj := h.port x hx
      exact ⟨hj.id1, hj.idN, hj.few, hj.noCap, hj.noPipe, fun m hm2 => (hj.msgs m hm2).up (Int.le_refl _)⟩
    · have hj := h.port p hpm
      exact ⟨hj.id1, hj.idN, hq, hj.noCap, hj.noPipe, fun m hm2 => (hm m hm2).up (Int.le_refl _)⟩
theorem has_setQ {d : DIpc} {k : Nat} {p : DPort} {q : List DMsg} (h : HasJ d) (hk : d.Ports[k]? = some p) : HasJ (setQ d k p q) := fun x hx => by
  rcases List.mem_or_eq_of_mem_set hx with hx | rfl
  · exact h x hx
  · exact h p (List.mem_of_getElem? hk)
theorem j_setP {d : DIpc} {k : Nat} {p p' : DPipe} (h : J0 d) (hk : d.Pipes[k]? = some p) (hid : p'.Id = p.Id) (hf : p'.Data.length ≤ 512) (hr : 0 ≤ p'.Readers ∧ p'.Readers ≤ 64) (hw : 0 ≤ p'.Writers ∧ p'.Writers ≤ 64) (hpos : 0 < p'.Readers + p'.Writers) (hrng : ∀ x, x ∈ p'.Data → 0 ≤ x ∧ x ≤ 255) : J0 (setP d k p') := by
  have hids : (d.Pipes.set k p').map DPipe.Id = d.Pipes.map DPipe.Id := map_set_id hk hid
  have hpm := List.mem_of_getElem? hk
  refine ⟨h.nx, h.caps, h.ports, by show (d.Pipes.set k _).length ≤ _; rw [List.length_set]; exact h.pipes, h.cs, h.ps, pw_ids h.qs hids, fun c hc => h.cap c hc |> fun hj => ⟨hj.id1, hj.idN, hj.hold, hj.r1, hj.r7, hj.port, hj.par⟩, fun x hx => ?_, fun x hx => ?_⟩
  · have hj := h.port x hx
    refine ⟨hj.id1, hj.idN, hj.few, hj.noCap, fun c hc => ?_, fun m hm2 => (hj.msgs m hm2).up (Int.le_refl _)⟩
    rcases List.mem_or_eq_of_mem_set hc with hc | rfl
    · exact hj.noPipe c hc
    · rw [hid]; exact hj.noPipe p hpm
  · rcases List.mem_or_eq_of_mem_set hx with hx | rfl
    · have hj := h.pipe x hx
      exact ⟨hj.id1, hj.idN, hj.noCap, hj.few, hj.r, hj.w, hj.pos, hj.rng⟩
    · have hj := h.pipe p hpm
      exact ⟨by rw [hid]; exact hj.id1, by rw [hid]; exact hj.idN, by rw [hid]; exact hj.noCap, hf, hr, hw, hpos, hrng⟩
theorem j_eraseP {d : DIpc} {k : Nat} (h : J0 d) : J0 ⟨d.Next, d.Ports, d.Caps, d.Pipes.eraseIdx k⟩ := by
  have hsub := List.eraseIdx_sublist d.Pipes k
  refine ⟨h.nx, h.caps, h.ports, by have := hsub.length_le; have := h.pipes; show (d.Pipes.eraseIdx k).length ≤ 32; omega, h.cs, h.ps, h.qs.sublist hsub, fun c hc => h.cap c hc |> fun hj => ⟨hj.id1, hj.idN, hj.hold, hj.r1, hj.r7, hj.port, hj.par⟩, fun x hx => ?_, fun x hx => ?_⟩
  · have hj := h.port x hx
    exact ⟨hj.id1, hj.idN, hj.few, hj.noCap, fun c hc => hj.noPipe c (hsub.mem hc), fun m hm2 => (hj.msgs m hm2).up (Int.le_refl _)⟩
  · have hj := h.pipe x (hsub.mem hx)
    exact ⟨hj.id1, hj.idN, hj.noCap, hj.few, hj.r, hj.w, hj.pos, hj.rng⟩
theorem j_clean {d : DIpc} (h : J0 d) : J0 (cleanF d) ∧ HasJ (cleanF d) := by
  have hsub : (d.Ports.filter (hasCap d.Caps)).Sublist d.Ports := List.filter_sublist
  refine ⟨⟨h.nx, h.caps, by have := hsub.length_le; have := h.ports; show (d.Ports.filter _).length ≤ 32; omega, h.pipes, h.cs, h.ps.sublist hsub, h.qs, fun c hc => ?_, fun x hx => ?_, fun x hx => h.pipe x hx |> fun hj => ⟨hj.id1, hj.idN, hj.noCap, hj.few, hj.r, hj.w, hj.pos, hj.rng⟩⟩, fun p hp => (List.mem_filter.1 hp).2⟩
  · have hj := h.cap c hc
    obtain ⟨x, hx, he⟩ := hj.port
    exact ⟨hj.id1, hj.idN, hj.hold, hj.r1, hj.r7, ⟨x, List.mem_filter.2 ⟨hx, List.any_eq_true.2 ⟨c, hc, by simp [he]⟩⟩, he⟩, hj.par⟩
  · have hj := h.port x (List.mem_filter.1 hx).1
    exact ⟨hj.id1, hj.idN, hj.few, hj.noCap, hj.noPipe, fun m hm2 => (hj.msgs m hm2).up (Int.le_refl _)⟩
theorem dropC_ids {cs : List DCap} {id up : Int} : (dropC cs id up).map DCap.Id = (cs.filter (fun x => x.Id != id)).map DCap.Id := by
  unfold dropC
  rw [List.map_map]
  refine List.map_congr_left (fun x _ => ?_)
  exact re_id _ _ _
theorem re_rights (id up : Int) (x : DCap) : (reCap id up x).Rights = x.Rights := by unfold reCap; split <;> rfl
theorem j_drop {d : DIpc} (id : Int) (h : J0 d) : J0 (dropF d id) := by
  unfold dropF
  rcases capIx_cases d id with ⟨_, e2, _⟩ | ⟨k0, c, _, e2, e3, e4⟩
  · rw [e2]; exact h
  rw [e3]
  have hcm := List.mem_of_getElem? e2
  have hcj := h.cap c hcm
  dsimp only
  have hsub : (d.Caps.filter (fun x => x.Id != id)).Sublist d.Caps := List.filter_sublist
  have hmem : ∀ y, y ∈ dropC d.Caps id c.Parent → ∃ x, x ∈ d.Caps ∧ x.Id ≠ id ∧ y = reCap id c.Parent x := fun y hy => by
    obtain ⟨x, hx, rfl⟩ := List.mem_map.1 hy
    obtain ⟨h1, h2⟩ := List.mem_filter.1 hx
    exact ⟨x, h1, by simpa using h2, rfl⟩
  have hin : ∀ x, x ∈ d.Caps → x.Id ≠ id → reCap id c.Parent x ∈ dropC d.Caps id c.Parent := fun x hx hne => List.mem_map.2 ⟨x, List.mem_filter.2 ⟨hx, by simpa using hne⟩, rfl⟩
  refine ⟨h.nx, ?_, h.ports, h.pipes, ?_, h.ps, h.qs, fun y hy => ?_, fun x hx => ?_, fun x hx => ?_⟩
  · show (dropC _ _ _).length ≤ 128
    unfold dropC
    rw [List.length_map]
    have := hsub.length_le; have := h.caps; omega
  · exact pw_ids (h.cs.sublist hsub) dropC_ids
  · obtain ⟨x, hx, hne, rfl⟩ := hmem y hy
    have hj := h.cap x hx
    refine ⟨by rw [re_id]; exact hj.id1, by rw [re_id]; exact hj.idN, by rw [re_holder]; exact hj.hold, by rw [re_rights]; exact hj.r1, by rw [re_rights]; exact hj.r7, by rw [re_port]; exact hj.port, ?_⟩
    by_cases hp : x.Parent = id
    · have hre : (reCap id c.Parent x).Parent = c.Parent := by unfold reCap; rw [if_pos hp]
      rw [hre]
      rcases hj.par with h0 | ⟨z, hz, z1, z2, z3, z4⟩
      · have := hcj.id1; omega
      · have : z = c := pw_uniq h.cs hz hcm (by rw [z1, hp, e4])
        subst this
        rcases hcj.par with h0 | ⟨z2', hz2, y1, y2, y3, y4⟩
        · exact .inl h0
        · have hzj := h.cap z2' hz2
          refine .inr ⟨reCap id z.Parent z2', hin z2' hz2 (by omega), ?_, ?_, ?_, ?_⟩
          · rw [re_id]; exact y1
          · rw [re_id, re_id]; omega
          · rw [re_port, re_port, y3, z3]
          · rw [re_rights, re_rights]; exact am_trans hj.r1 hj.r7 hcj.r1 hcj.r7 hzj.r1 hzj.r7 z4 y4
    · have hre : (reCap id c.Parent x).Parent = x.Parent := by unfold reCap; rw [if_neg hp]
      rw [hre]
      rcases hj.par with h0 | ⟨z, hz, z1, z2, z3, z4⟩
      · exact .inl h0
      · refine .inr ⟨reCap id c.Parent z, hin z hz (by omega), ?_, ?_, ?_, ?_⟩
        · rw [re_id]; exact z1
        · rw [re_id, re_id]; exact z2
        · rw [re_port, re_port, z3]
        · rw [re_rights, re_rights]; exact z4
  · have hj := h.port x hx
    refine ⟨hj.id1, hj.idN, hj.few, fun y hy => ?_, hj.noPipe, fun m hm2 => (hj.msgs m hm2).up (Int.le_refl _)⟩
    obtain ⟨z, hz, _, rfl⟩ := hmem y hy
    rw [re_id]; exact hj.noCap z hz
  · have hj := h.pipe x hx
    refine ⟨hj.id1, hj.idN, fun y hy => ?_, hj.few, hj.r, hj.w, hj.pos, hj.rng⟩
    obtain ⟨z, hz, _, rfl⟩ := hmem y hy
    rw [re_id]; exact hj.noCap z hz
theorem j_drops : ∀ (l : List Int) {d : DIpc}, J0 d → J0 (l.foldl dropF d)
  | [], _, h => h
  | a :: t, _, h => j_drops t (j_drop a h)
theorem drop_nx (d : DIpc) (id : Int) : (dropF d id).Next = d.Next := by unfold dropF; split <;> rfl
theorem drops_nx : ∀ (l : List Int) (d : DIpc), (l.foldl dropF d).Next = d.Next
  | [], _ => rfl
  | a :: t, d => (drops_nx t (dropF d a)).trans (drop_nx d a)
theorem j_rev {d : DIpc} {top : Int} (h : J0 d) (hi : IOk d) : J0 ⟨d.Next, d.Ports, revC d top, d.Pipes⟩ := by
  have hsub : (revC d top).Sublist d.Caps := by unfold revC; exact List.filter_sublist
  refine ⟨h.nx, by have := hsub.length_le; have := h.caps; show (revC d top).length ≤ 128; omega, h.ports, h.pipes, h.cs.sublist hsub, h.ps, h.qs, fun c hc => ?_, fun x hx => ?_, fun x hx => ?_⟩
  · have hcm := hsub.mem hc
    have hj := h.cap c hcm
    refine ⟨hj.id1, hj.idN, hj.hold, hj.r1, hj.r7, hj.port, ?_⟩
    rcases hj.par with h0 | ⟨p, hp, h1, h2, h3, h4⟩
    · exact .inl h0
    · refine .inr ⟨p, ?_, h1, h2, h3, h4⟩
      unfold revC at hc ⊢
      obtain ⟨_, hc2⟩ := List.mem_filter.1 hc
      have hcu : ¬ Und d top c.Id := by simpa using hc2
      have hpu : ¬ Und d top p.Id := fun hu => hcu (by
        obtain ⟨k, hk⟩ := List.getElem?_of_mem hcm
        have hp1 := (h.cap p hp).id1
        exact Und.step hk (by omega) (by rw [← h1]; exact hu))
      exact List.mem_filter.2 ⟨hp, by simpa using hpu⟩
  · have hj := h.port x hx
    exact ⟨hj.id1, hj.idN, hj.few, fun c hc => hj.noCap c (hsub.mem hc), hj.noPipe, fun m hm2 => (hj.msgs m hm2).up (Int.le_refl _)⟩
  · have hj := h.pipe x hx
    exact ⟨hj.id1, hj.idN, fun c hc => hj.noCap c (hsub.mem hc), hj.few, hj.r, hj.w, hj.pos, hj.rng⟩
structure ResJ (r : DIpcRes) : Prop where
  code : 0 ≤ r.Code ∧ r.Code ≤ 255
  n : 0 ≤ r.N ∧ r.N ≤ 1125899906842624
  from_ : 0 ≤ r.From ∧ r.From ≤ 64
  few : r.Data.length ≤ 1024
  rng : ∀ x, x ∈ r.Data → 0 ≤ x ∧ x ≤ 255
theorem resE_j {c : Int} (h0 : 0 ≤ c) (h1 : c ≤ 255) : ResJ (resE c) := ⟨⟨h0, h1⟩, by show (0 : Int) ≤ 0 ∧ (0 : Int) ≤ _; omega, by show (0 : Int) ≤ 0 ∧ (0 : Int) ≤ _; omega, by show 0 ≤ _; omega, fun x hx => by simp [resE] at hx⟩
theorem resN_j {n : Int} (h0 : 0 ≤ n) (h1 : n ≤ 1125899906842624) : ResJ (resN n) := ⟨by show (0 : Int) ≤ 0 ∧ (0 : Int) ≤ _; omega, ⟨h0, h1⟩, by show (0 : Int) ≤ 0 ∧ (0 : Int) ≤ _; omega, by show 0 ≤ _; omega, fun x hx => by simp [resN] at hx⟩
structure StepJ (d : DIpc) (res : IRes) : Prop where
  j : J0 res.1
  has : HasJ res.1
  nx : res.1.Next ≤ d.Next + 2
  res : ResJ res.2
theorem sj_err {d : DIpc} {c : Int} (h : J0 d) (hh : HasJ d) (h0 : 0 ≤ c) (h1 : c ≤ 255) : StepJ d (d, resE c) := ⟨h, hh, by show d.Next ≤ d.Next + 2; omega, resE_j h0 h1⟩
theorem step_j {d : DIpc} {o : DIpcOp} (h : J0 d) (hh : HasJ d) (hn : d.Next ≤ 1099511627776) (hb : ∀ x, x ∈ o.Data → 0 ≤ x ∧ x ≤ 255) : StepJ d (stepI d o) := by
  have hi := h.iok hh hn
  have hnx := h.nx
  by_cases hbad : BadO o
  · rw [step_bad hbad]; exact sj_err h hh (by omega) (by omega)
  have hbad2 := hbad
  unfold BadO at hbad2
  by_cases k1 : o.Kind = 1
  · rw [step_1 hbad k1]; unfold newPort; split
    · exact sj_err h hh (by omega) (by omega)
    · rename_i hf
      have h1 := j_portSnoc h (by omega)
      have h2 := j_capSnoc (hl := o.Holder) (p := d.Next + 1) (r := 7) (par := 0) h1 (by show d.Caps.length < 128; omega) (by omega) (by omega) (by omega) ⟨_, List.mem_append_right _ (List.mem_singleton.2 rfl), rfl⟩ (.inl rfl)
      have e : d.Next + 1 + 1 = d.Next + 2 := by omega
      refine ⟨?_, fun p hp => ?_, Int.le_refl _, resN_j (by omega) (by omega)⟩
      · have h3 : J0 ⟨d.Next + 1 + 1, d.Ports ++ [⟨d.Next + 1, []⟩], d.Caps ++ [⟨d.Next + 1 + 1, o.Holder, d.Next + 1, 7, 0⟩], d.Pipes⟩ := h2
        rw [e] at h3
        exact h3
      · rcases List.mem_append.1 hp with hp | hp
        · exact has_app (hh p hp)
        · rw [List.mem_singleton.1 hp]
          exact List.any_eq_true.2 ⟨_, List.mem_append_right _ (List.mem_singleton.2 rfl), by simp⟩
  by_cases k7 : o.Kind = 7
  · rw [step_7 hbad k7]; unfold goneI
    have h1 := j_drops (idsOf d o.Holder) h
    have h2 := j_clean h1
    have hl : (idsOf d o.Holder).length ≤ 128 := by
      unfold idsOf; rw [List.length_map]
      have := List.length_filter_le (fun c : DCap => c.Holder == o.Holder) d.Caps; have := h.caps; omega
    exact ⟨h2.1, h2.2, by show ((idsOf d o.Holder).foldl dropF d).Next ≤ _; rw [drops_nx]; omega, resN_j (by omega) (by omega)⟩
  by_cases k8 : o.Kind = 8
  · rw [step_8 hbad k8]; unfold newPipe; split
    · exact sj_err h hh (by omega) (by omega)
    · exact ⟨j_pipeSnoc h (by omega), hh, by show d.Next + 1 ≤ d.Next + 2; omega, resN_j (by omega) (by omega)⟩
  by_cases k9 : 9 ≤ o.Kind
  · rcases pipeIx_cases d o.Id with ⟨_, e2, _⟩ | ⟨k, p, e1, e2, e3, e4⟩
    · rw [step_p0 hbad k9 e2]; exact sj_err h hh (by omega) (by omega)
    rw [step_p hbad k9 e3, e1, Int.toNat_natCast]
    have hpj := h.pipe p (List.mem_of_getElem? e2)
    have hpr := hpj.r
    have hpw := hpj.w
    have hpf := hpj.few
    have hpp := hpj.pos
    unfold pipeI; split
    · unfold endsI; split
      · exact sj_err h hh (by omega) (by omega)
      · split
        · exact ⟨j_eraseP h, hh, by show d.Next ≤ _; omega, resN_j (by omega) (by omega)⟩
        · exact ⟨j_setP h e2 rfl hpf (by show 0 ≤ p.Readers + o.To ∧ p.Readers + o.To ≤ 64; omega) (by show 0 ≤ p.Writers + o.N ∧ p.Writers + o.N ≤ 64; omega) (by show 0 < p.Readers + o.To + (p.Writers + o.N); omega) hpj.rng, hh, by show d.Next ≤ _; omega, resN_j (by omega) (by omega)⟩
    · split
      · unfold writeI; split
        · exact sj_err h hh (by omega) (by omega)
        · split
          · exact sj_err h hh (by omega) (by omega)
          · have hw1 : wlen o p ≤ 512 - p.Data.length := by unfold wlen; omega
            refine ⟨j_setP h e2 rfl ?_ hpr hpw hpp ?_, hh, by show d.Next ≤ _; omega, resN_j (by omega) (by omega)⟩
            · rw [List.length_append, List.length_take]; omega
            · intro x hx
              rcases List.mem_append.1 hx with hx | hx
              · exact hpj.rng x hx
              · exact hb x (List.mem_of_mem_take hx)
      · unfold readI; split
        · exact sj_err h hh (by omega) (by omega)
        · split
          · exact sj_err h hh (by omega) (by omega)
          · refine ⟨j_setP h e2 rfl ?_ hpr hpw hpp (fun x hx => hpj.rng x (List.mem_of_mem_drop hx)), hh, by show d.Next ≤ _; omega, ⟨by show (0 : Int) ≤ 0 ∧ (0 : Int) ≤ _; omega, by show (0 : Int) ≤ 0 ∧ (0 : Int) ≤ _; omega, by show (0 : Int) ≤ 0 ∧ (0 : Int) ≤ _; omega, ?_, fun x hx => hpj.rng x (List.mem_of_mem_take hx)⟩⟩
            · rw [List.length_drop]; omega
            · show (p.Data.take _).length ≤ _
              rw [List.length_take]; omega
  have k26 : 2 ≤ o.Kind ∧ o.Kind ≤ 6 := by omega
  rcases capIx_cases d o.Id with ⟨_, e2, _⟩ | ⟨k0, c, _, e2, e3, e4⟩
  · rw [step_c0 hbad k26 e2]; exact sj_err h hh (by omega) (by omega)
  by_cases hhd : c.Holder = o.Holder
  rotate_left
  · rw [step_ch hbad k26 e3 hhd]; exact sj_err h hh (by omega) (by omega)
  rw [step_c hbad k26 e3 hhd]
  have hcm := List.mem_of_getElem? e2
  have hcj := h.cap c hcm
  unfold capI
  split
  · unfold giveI; split
    · exact sj_err h hh (by omega) (by omega)
    · split
      · exact sj_err h hh (by omega) (by omega)
      · split
        · exact sj_err h hh (by omega) (by omega)
        · rename_i hbd ham hfull
          refine ⟨j_capSnoc h (by omega) (by omega) (by omega) (by omega) hcj.port (.inr ⟨c, hcm, rfl, rfl, ?_⟩), fun p hp => has_app (hh p hp), by show d.Next + 1 ≤ _; omega, resN_j (by omega) (by omega)⟩
          cases hq : amongB o.Rights c.Rights with
          | true => rfl
          | false => exact absurd (.inr hq) ham
  split
  · have hlen : (revC d o.Id).length ≤ d.Caps.length := by unfold revC; exact List.length_filter_le ..
    have := h.caps
    exact ⟨j_rev h hi, rev_has hi hcm e4, by show d.Next ≤ _; omega, resN_j (by omega) (by omega)⟩
  split
  · have h2 := j_clean (j_drop o.Id h)
    exact ⟨h2.1, h2.2, by show (dropF d o.Id).Next ≤ _; rw [drop_nx]; omega, resN_j (by omega) (by omega)⟩
  split
  · have hpush : o.Data.length ≤ 64 → (0 ≤ o.Cap ∧ o.Cap ≤ d.Next) → StepJ d (pushI d o c) := fun hdl hoc => by
      unfold pushI; split
      · exact sj_err h hh (by omega) (by omega)
      · rcases portIx_cases d c.Port with ⟨e1, f2, f3⟩ | ⟨kp, P, f1, f2, f3, f4⟩
        · rw [f2]; exact sj_err h hh (by omega) (by omega)
        · rw [f3, f1, Int.toNat_natCast]
          dsimp only
          split
          · exact sj_err h hh (by omega) (by omega)
          · have hpj := h.port P (List.mem_of_getElem? f2)
            refine ⟨j_setQ h f2 (by rw [List.length_append]; simp; omega) (fun m hm => ?_), has_setQ hh f2, by show d.Next ≤ _; omega, resN_j (by omega) (by omega)⟩
            rcases List.mem_append.1 hm with hm | hm
            · exact hpj.msgs m hm
            · rw [List.mem_singleton.1 hm]
              exact ⟨⟨by show 0 ≤ o.Holder; omega, by show o.Holder < 64; omega, hdl, hoc.1, hoc.2⟩, hb⟩
    unfold sendI; split
    · exact sj_err h hh (by omega) (by omega)
    · split
      · exact sj_err h hh (by omega) (by omega)
      · split
        · rcases capIx_cases d o.Cap with ⟨_, f2, _⟩ | ⟨k1, c', _, f2, f3, f4⟩
          · rw [f2]; exact sj_err h hh (by omega) (by omega)
          · rw [f3]; dsimp only
            split
            · exact sj_err h hh (by omega) (by omega)
            · split
              · exact sj_err h hh (by omega) (by omega)
              · have := h.cap c' (List.mem_of_getElem? f2)
                exact hpush (by omega) ⟨by have := this.id1; omega, by have := this.idN; omega⟩
        · exact hpush (by omega) (by omega)
  · unfold recvI; split
    · exact sj_err h hh (by omega) (by omega)
    · rcases portIx_cases d c.Port with ⟨e1, f2, f3⟩ | ⟨kp, P, f1, f2, f3, f4⟩
      · rw [f2]; exact sj_err h hh (by omega) (by omega)
      · rw [f3, f1, Int.toNat_natCast]
        dsimp only
        have hpj := h.port P (List.mem_of_getElem? f2)
        have hpf := hpj.few
        cases hq : P.Queue with
        | nil => exact sj_err h hh (by omega) (by omega)
        | cons m rest =>
          dsimp only
          have hmm := hpj.msgs m (by rw [hq]; simp)
          rw [hq] at hpf
          simp only [List.length_cons] at hpf
          have hqj := j_setQ (q := rest) h f2 (by omega) (fun x hx => hpj.msgs x (by rw [hq]; simp [hx]))
          have hqh := has_setQ (q := rest) hh f2
          obtain ⟨⟨m1, m2, m3, m4, m5⟩, m6⟩ := hmm
          have hres : ∀ n : Int, 0 ≤ n → n ≤ 1125899906842624 → ResJ ⟨0, n, m.Data, m.From⟩ := fun n n0 n1 => ⟨by show (0 : Int) ≤ 0 ∧ (0 : Int) ≤ _; omega, ⟨n0, n1⟩, ⟨m1, by show m.From ≤ 64; omega⟩, by show m.Data.length ≤ 1024; omega, m6⟩
          rcases capIx_cases d m.Cap with ⟨_, g2, _⟩ | ⟨k1, c', _, g2, g3, g4⟩
          · rw [g2]; exact ⟨hqj, hqh, by show d.Next ≤ _; omega, hres 0 (by omega) (by omega)⟩
          · rw [g3]; dsimp only
            have hc'm := List.mem_of_getElem? g2
            have hc'j := h.cap c' hc'm
            split
            · refine ⟨j_capSnoc hqj (by show d.Caps.length < 128; omega) (by omega) hc'j.r1 hc'j.r7 ?_ (.inr ⟨c', hc'm, g4, rfl, am_refl hc'j.r1 hc'j.r7⟩), fun p hp => has_app (hqh p hp), by show d.Next + 1 ≤ _; omega, hres _ (by omega) (by omega)⟩
              exact (hqj.cap c' hc'm).port
            · exact ⟨hqj, hqh, by show d.Next ≤ _; omega, hres 0 (by omega) (by omega)⟩
end Go.Proofs.Ytbimoajgofcmbaa

namespace Go.Proofs.Ytbimoajgofcmbaa
open Go Go.Den
theorem emptyS {w0 w : World} {F : List Asr} (h : SH w0 w F) : SH w0 w (rP N0 [] :: bP [] :: rC N0 [] :: rQ N0 [] :: bQ [] :: F) :=
  ((((h.bagNil pipeA).nil none 4).nil none 5).bagNil portA).nil none 2
end Go.Proofs.Ytbimoajgofcmbaa

set_option maxRecDepth 4000
namespace Go.Proofs.Ytbimoajgofcmbaa
open Go Go.Den
theorem has_IpcOp {d : Dat} (h : Has TyIpcOp d) : ∃ x_0 : Int, ∃ x_1 : Int, ∃ x_2 : Int, ∃ x_3 : Int, ∃ x_4 : Int, ∃ x_5 : Int, ∃ x_6 : Int, ∃ l_7 : List Dat, d = .st [.int .i64 x_0, .int .i64 x_1, .int .i64 x_2, .int .i64 x_3, .int .i64 x_4, .int .i64 x_5, .int .i64 x_6, .sl 1 l_7] ∧ (∀ e, e ∈ l_7 → Has (.int .u8) e) := by
  obtain ⟨_, rfl, g⟩ := has_st h
  obtain ⟨_, _, rfl, h_0, g⟩ := hasF_cons g
  obtain ⟨_, _, rfl, h_1, g⟩ := hasF_cons g
  obtain ⟨_, _, rfl, h_2, g⟩ := hasF_cons g
  obtain ⟨_, _, rfl, h_3, g⟩ := hasF_cons g
  obtain ⟨_, _, rfl, h_4, g⟩ := hasF_cons g
  obtain ⟨_, _, rfl, h_5, g⟩ := hasF_cons g
  obtain ⟨_, _, rfl, h_6, g⟩ := hasF_cons g
  obtain ⟨_, _, rfl, h_7, g⟩ := hasF_cons g
  obtain rfl := hasF_nil g
  obtain ⟨x_0, rfl⟩ := has_int h_0
  obtain ⟨x_1, rfl⟩ := has_int h_1
  obtain ⟨x_2, rfl⟩ := has_int h_2
  obtain ⟨x_3, rfl⟩ := has_int h_3
  obtain ⟨x_4, rfl⟩ := has_int h_4
  obtain ⟨x_5, rfl⟩ := has_int h_5
  obtain ⟨x_6, rfl⟩ := has_int h_6
  obtain ⟨l_7, rfl, t_7⟩ := has_sl h_7
  exact ⟨x_0, x_1, x_2, x_3, x_4, x_5, x_6, l_7, rfl, t_7⟩
theorem cells_IpcOp {w : World} {x_0 : Int} {x_1 : Int} {x_2 : Int} {x_3 : Int} {x_4 : Int} {x_5 : Int} {x_6 : Int} {l_7 : List Dat} {cs : List Value} (h : IsD w (.st [.int .i64 x_0, .int .i64 x_1, .int .i64 x_2, .int .i64 x_3, .int .i64 x_4, .int .i64 x_5, .int .i64 x_6, .sl 1 l_7]) cs) : ∃ s_7 : Sl, cs = [.int .i64 x_0, .int .i64 x_1, .int .i64 x_2, .int .i64 x_3, .int .i64 x_4, .int .i64 x_5, .int .i64 x_6, .slice s_7.a s_7.len s_7.cap] ∧ ((Lit.int .i64 x_0).wf = true) ∧ ((Lit.int .i64 x_1).wf = true) ∧ ((Lit.int .i64 x_2).wf = true) ∧ ((Lit.int .i64 x_3).wf = true) ∧ ((Lit.int .i64 x_4).wf = true) ∧ ((Lit.int .i64 x_5).wf = true) ∧ ((Lit.int .i64 x_6).wf = true) ∧ (IsD w (.sl 1 l_7) [.slice s_7.a s_7.len s_7.cap]) := by
  have q := isD_st h
  obtain ⟨_, _, rfl, i_0, q⟩ := isF_cons q
  obtain ⟨_, _, rfl, i_1, q⟩ := isF_cons q
  obtain ⟨_, _, rfl, i_2, q⟩ := isF_cons q
  obtain ⟨_, _, rfl, i_3, q⟩ := isF_cons q
  obtain ⟨_, _, rfl, i_4, q⟩ := isF_cons q
  obtain ⟨_, _, rfl, i_5, q⟩ := isF_cons q
  obtain ⟨_, _, rfl, i_6, q⟩ := isF_cons q
  obtain ⟨_, _, rfl, i_7, q⟩ := isF_cons q
  obtain rfl := isF_nil q
  obtain ⟨rfl, ws_0⟩ := isD_int i_0
  obtain ⟨rfl, ws_1⟩ := isD_int i_1
  obtain ⟨rfl, ws_2⟩ := isD_int i_2
  obtain ⟨rfl, ws_3⟩ := isD_int i_3
  obtain ⟨rfl, ws_4⟩ := isD_int i_4
  obtain ⟨rfl, ws_5⟩ := isD_int i_5
  obtain ⟨rfl, ws_6⟩ := isD_int i_6
  obtain ⟨s_7, rfl⟩ := isD_sl_s i_7
  have is_7 := i_7
  exact ⟨s_7, rfl, ws_0, ws_1, ws_2, ws_3, ws_4, ws_5, ws_6, is_7⟩
theorem has_IpcRes {d : Dat} (h : Has TyIpcRes d) : ∃ x_0 : Int, ∃ x_1 : Int, ∃ l_2 : List Dat, ∃ x_3 : Int, d = .st [.int .i64 x_0, .int .i64 x_1, .sl 1 l_2, .int .i64 x_3] ∧ (∀ e, e ∈ l_2 → Has (.int .u8) e) := by
  obtain ⟨_, rfl, g⟩ := has_st h
  obtain ⟨_, _, rfl, h_0, g⟩ := hasF_cons g
  obtain ⟨_, _, rfl, h_1, g⟩ := hasF_cons g
  obtain ⟨_, _, rfl, h_2, g⟩ := hasF_cons g
  obtain ⟨_, _, rfl, h_3, g⟩ := hasF_cons g
  obtain rfl := hasF_nil g
  obtain ⟨x_0, rfl⟩ := has_int h_0
  obtain ⟨x_1, rfl⟩ := has_int h_1
  obtain ⟨l_2, rfl, t_2⟩ := has_sl h_2
  obtain ⟨x_3, rfl⟩ := has_int h_3
  exact ⟨x_0, x_1, l_2, x_3, rfl, t_2⟩
theorem cells_IpcRes {w : World} {x_0 : Int} {x_1 : Int} {l_2 : List Dat} {x_3 : Int} {cs : List Value} (h : IsD w (.st [.int .i64 x_0, .int .i64 x_1, .sl 1 l_2, .int .i64 x_3]) cs) : ∃ s_2 : Sl, cs = [.int .i64 x_0, .int .i64 x_1, .slice s_2.a s_2.len s_2.cap, .int .i64 x_3] ∧ ((Lit.int .i64 x_0).wf = true) ∧ ((Lit.int .i64 x_1).wf = true) ∧ (IsD w (.sl 1 l_2) [.slice s_2.a s_2.len s_2.cap]) ∧ ((Lit.int .i64 x_3).wf = true) := by
  have q := isD_st h
  obtain ⟨_, _, rfl, i_0, q⟩ := isF_cons q
  obtain ⟨_, _, rfl, i_1, q⟩ := isF_cons q
  obtain ⟨_, _, rfl, i_2, q⟩ := isF_cons q
  obtain ⟨_, _, rfl, i_3, q⟩ := isF_cons q
  obtain rfl := isF_nil q
  obtain ⟨rfl, ws_0⟩ := isD_int i_0
  obtain ⟨rfl, ws_1⟩ := isD_int i_1
  obtain ⟨s_2, rfl⟩ := isD_sl_s i_2
  have is_2 := i_2
  obtain ⟨rfl, ws_3⟩ := isD_int i_3
  exact ⟨s_2, rfl, ws_0, ws_1, is_2, ws_3⟩
theorem c38 {d : Dat} {cs : List Value} {left : Int} {w : World} (ht : Has TyIpcOp d) (h : IsD w d cs) (h0 : 0 ≤ left) (hl : left ≤ 4611686018427387904) : CallW Try.prog 38 #[.agg ⟨cs⟩, .int .i64 left] w (fun v w' => SzPost d.sz left v ∧ Ext w w') := by
  obtain ⟨x_0, x_1, x_2, x_3, x_4, x_5, x_6, l_7, rfl, t_7⟩ := has_IpcOp ht
  obtain ⟨s_7, rfl, ws_0, ws_1, ws_2, ws_3, ws_4, ws_5, ws_6, is_7⟩ := cells_IpcOp h
  show CallW Try.prog 38 #[.agg #[.int .i64 x_0, .int .i64 x_1, .int .i64 x_2, .int .i64 x_3, .int .i64 x_4, .int .i64 x_5, .int .i64 x_6, .slice s_7.a s_7.len s_7.cap], .int .i64 left] w _
  refine go38 ?_
  unfold W38; (try delta qn ql qb qi qS qI qP qQ qR qU qA qC)
  refine alloc_step (fun w1 e ha n1 => ?_)
  have hmx : maxLen = 9223372036854775807 := rfl
  have hx : (0 : Int) ≤ left ∧ left ≤ left := ⟨h0, Int.le_refl _⟩
  have hd := Int.sub_zero left
  refine ⟨s_7, ha.cell 7, (c77 t_7 (IsD.ext e _ _ is_7) (by omega) (by omega)).mono ?_⟩
  rintro _ w2 ⟨⟨r2, rfl, hr2⟩, e2⟩
  have ha := ha.ext e2
  have e := Only.trans e e2
  refine ⟨r2, rfl, BIf.dec (fun hn => ⟨⟨_, rfl, .inr ⟨by omega, by simp only [Dat.sz, Dat.szs] at *; omega⟩⟩, e⟩) (fun hp2 => ?_)⟩
  exact ⟨⟨_, rfl, .inl ⟨by simp only [Dat.sz, Dat.szs] at *; omega, by omega⟩⟩, e⟩

theorem c39 {d : Dat} {cs : List Value} {w : World} (ht : Has TyIpcOp d) (h : IsD w d cs) (hs : d.sz ≤ 4194304) : CallW Try.prog 39 #[.agg ⟨cs⟩] w (fun v w' => ∃ cs', v = .agg ⟨cs'⟩ ∧ Fr w.heap.size w'.heap.size w' d cs' ∧ Ext w w') := by
  obtain ⟨x_0, x_1, x_2, x_3, x_4, x_5, x_6, l_7, rfl, t_7⟩ := has_IpcOp ht
  obtain ⟨s_7, rfl, ws_0, ws_1, ws_2, ws_3, ws_4, ws_5, ws_6, is_7⟩ := cells_IpcOp h
  show CallW Try.prog 39 #[.agg #[.int .i64 x_0, .int .i64 x_1, .int .i64 x_2, .int .i64 x_3, .int .i64 x_4, .int .i64 x_5, .int .i64 x_6, .slice s_7.a s_7.len s_7.cap]] w _
  refine go39 ?_
  unfold W39; (try delta qn ql qb qi qS qI qP qQ qR qU qA qC)
  refine alloc_step (fun w1 e1 ha n1 => ?_)
  refine alloc_step (fun w2 e2 hc n2 => ?_)
  have ha := ha.ext e2
  refine alloc_step (fun w3 e3 hb n3 => ?_)
  have ha := ha.ext e3
  have hc := hc.ext e3
  have e := Only.trans e1 (Only.trans e2 e3)
  refine ⟨_, ha.cell 0, ?_⟩
  refine set_step hb (by simp) (fun w4 o4 hb n4 => ?_)
  have ha := ha.only o4 (by omega)
  have hc := hc.only o4 (by omega)
  have e := Ext.own e o4 (fun k hk => by omega)
  refine ⟨_, ha.cell 1, ?_⟩
  refine set_step hb (by simp) (fun w5 o5 hb n5 => ?_)
  have ha := ha.only o5 (by omega)
  have hc := hc.only o5 (by omega)
  have e := Ext.own e o5 (fun k hk => by omega)
  refine ⟨_, ha.cell 2, ?_⟩
  refine set_step hb (by simp) (fun w6 o6 hb n6 => ?_)
  have ha := ha.only o6 (by omega)
  have hc := hc.only o6 (by omega)
  have e := Ext.own e o6 (fun k hk => by omega)
  refine ⟨_, ha.cell 3, ?_⟩
  refine set_step hb (by simp) (fun w7 o7 hb n7 => ?_)
  have ha := ha.only o7 (by omega)
  have hc := hc.only o7 (by omega)
  have e := Ext.own e o7 (fun k hk => by omega)
  refine ⟨_, ha.cell 4, ?_⟩
  refine set_step hb (by simp) (fun w8 o8 hb n8 => ?_)
  have ha := ha.only o8 (by omega)
  have hc := hc.only o8 (by omega)
  have e := Ext.own e o8 (fun k hk => by omega)
  refine ⟨_, ha.cell 5, ?_⟩
  refine set_step hb (by simp) (fun w9 o9 hb n9 => ?_)
  have ha := ha.only o9 (by omega)
  have hc := hc.only o9 (by omega)
  have e := Ext.own e o9 (fun k hk => by omega)
  refine ⟨_, ha.cell 6, ?_⟩
  refine set_step hb (by simp) (fun w10 o10 hb n10 => ?_)
  have ha := ha.only o10 (by omega)
  have hc := hc.only o10 (by omega)
  have e := Ext.own e o10 (fun k hk => by omega)
  refine ⟨s_7, ha.cell 7, ?_⟩
  refine (c78 t_7 (IsD.ext e _ _ is_7) (by simp only [Dat.sz, Dat.szs] at hs ⊢; omega)).mono ?_
  rintro _ w11 ⟨r_7, rfl, f_7, e11⟩
  refine ⟨r_7, rfl, ?_⟩
  have ha := ha.ext e11
  have hb := hb.ext e11
  have hc := hc.ext e11
  have e := Only.trans e e11
  have z11 := e11.size
  refine set_step hb (by simp) (fun w12 o12 hb n12 => ?_)
  have ha := ha.only o12 (by omega)
  have hc := hc.only o12 (by omega)
  have e := Ext.own e o12 (fun k hk => by omega)
  have f_7 := f_7.only o12 (fun k _ _ => by omega)
  refine ⟨_, hb.cell 0, _, hb.cell 1, _, hb.cell 2, _, hb.cell 3, _, hb.cell 4, _, hb.cell 5, _, hb.cell 6, r_7, hb.cell 7, ?_⟩
  refine put_step hc rfl rfl (fun w13 o13 hc n13 => ?_)
  have e := Ext.own e o13 (fun k hk => by omega)
  have f_7 := f_7.only o13 (fun k _ _ => by omega)
  refine ⟨_, hc.cell 0, _, hc.cell 1, _, hc.cell 2, _, hc.cell 3, _, hc.cell 4, _, hc.cell 5, _, hc.cell 6, r_7, hc.cell 7, ?_⟩
  exact ⟨[.int .i64 x_0, .int .i64 x_1, .int .i64 x_2, .int .i64 x_3, .int .i64 x_4, .int .i64 x_5, .int .i64 x_6, .slice r_7.a r_7.len r_7.cap], rfl, frF_st (frF_cons (m := w.heap.size) (fr_int ws_0) (frF_cons (m := w.heap.size) (fr_int ws_1) (frF_cons (m := w.heap.size) (fr_int ws_2) (frF_cons (m := w.heap.size) (fr_int ws_3) (frF_cons (m := w.heap.size) (fr_int ws_4) (frF_cons (m := w.heap.size) (fr_int ws_5) (frF_cons (m := w.heap.size) (fr_int ws_6) (frF_cons (m := w11.heap.size) (f_7.mono (by omega) (Nat.le_refl _)) (frF_nil) (by omega) (by omega)) (by omega) (by omega)) (by omega) (by omega)) (by omega) (by omega)) (by omega) (by omega)) (by omega) (by omega)) (by omega) (by omega)) (by omega) (by omega)), e⟩

theorem c40 {d : Dat} {cs1 cs2 : List Value} {w : World} (ht : Has TyIpcRes d) (h : IsD w d cs1) (h2 : IsD w d cs2) : CallW Try.prog 40 #[.agg ⟨cs1⟩, .agg ⟨cs2⟩] w (fun v w' => v = .bool true ∧ Ext w w') := by
  obtain ⟨x_0, x_1, l_2, x_3, rfl, t_2⟩ := has_IpcRes ht
  obtain ⟨s_2, rfl, ws_0, ws_1, is_2, ws_3⟩ := cells_IpcRes h
  obtain ⟨u_2, rfl, wu_0, wu_1, iu_2, wu_3⟩ := cells_IpcRes h2
  show CallW Try.prog 40 #[.agg #[.int .i64 x_0, .int .i64 x_1, .slice s_2.a s_2.len s_2.cap, .int .i64 x_3], .agg #[.int .i64 x_0, .int .i64 x_1, .slice u_2.a u_2.len u_2.cap, .int .i64 x_3]] w _
  refine go40 ?_
  unfold W40; (try delta qn ql qb qi qS qI qP qQ qR qU qA qC)
  refine alloc_step (fun w1 e1 ha n1 => ?_)
  refine alloc_step (fun w2 e2 hb n2 => ?_)
  have ha := ha.ext e2
  have e := Only.trans e1 e2
  refine ⟨_, ha.cell 0, _, hb.cell 0, BIf.f (by simp) ?_⟩
  refine ⟨_, ha.cell 1, _, hb.cell 1, BIf.f (by simp) ?_⟩
  refine ⟨s_2, ha.cell 2, u_2, hb.cell 2, (c79 t_2 (IsD.ext e _ _ is_2) (IsD.ext e _ _ iu_2)).mono ?_⟩
  rintro _ w3 ⟨rfl, e3⟩
  have ha := ha.ext e3
  have hb := hb.ext e3
  have e := Only.trans e e3
  refine ⟨true, rfl, BIf.f rfl ?_⟩
  refine ⟨_, ha.cell 3, _, hb.cell 3, BIf.f (by simp) ?_⟩
  exact ⟨rfl, e⟩

theorem c41 {d : Dat} {cs1 cs2 : List Value} {w : World} (ht : Has TyIpcOp d) (h : IsD w d cs1) (h2 : IsD w d cs2) : CallW Try.prog 41 #[.agg ⟨cs1⟩, .agg ⟨cs2⟩] w (fun v w' => v = .bool true ∧ Ext w w') := by
  obtain ⟨x_0, x_1, x_2, x_3, x_4, x_5, x_6, l_7, rfl, t_7⟩ := has_IpcOp ht
  obtain ⟨s_7, rfl, ws_0, ws_1, ws_2, ws_3, ws_4, ws_5, ws_6, is_7⟩ := cells_IpcOp h
  obtain ⟨u_7, rfl, wu_0, wu_1, wu_2, wu_3, wu_4, wu_5, wu_6, iu_7⟩ := cells_IpcOp h2
  show CallW Try.prog 41 #[.agg #[.int .i64 x_0, .int .i64 x_1, .int .i64 x_2, .int .i64 x_3, .int .i64 x_4, .int .i64 x_5, .int .i64 x_6, .slice s_7.a s_7.len s_7.cap], .agg #[.int .i64 x_0, .int .i64 x_1, .int .i64 x_2, .int .i64 x_3, .int .i64 x_4, .int .i64 x_5, .int .i64 x_6, .slice u_7.a u_7.len u_7.cap]] w _
  refine go41 ?_
  unfold W41; (try delta qn ql qb qi qS qI qP qQ qR qU qA qC)
  refine alloc_step (fun w1 e1 ha n1 => ?_)
  refine alloc_step (fun w2 e2 hb n2 => ?_)
  have ha := ha.ext e2
  have e := Only.trans e1 e2
  refine ⟨_, ha.cell 0, _, hb.cell 0, BIf.f (by simp) ?_⟩
  refine ⟨_, ha.cell 1, _, hb.cell 1, BIf.f (by simp) ?_⟩
  refine ⟨_, ha.cell 2, _, hb.cell 2, BIf.f (by simp) ?_⟩
  refine ⟨_, ha.cell 3, _, hb.cell 3, BIf.f (by simp) ?_⟩
  refine ⟨_, ha.cell 4, _, hb.cell 4, BIf.f (by simp) ?_⟩
  refine ⟨_, ha.cell 5, _, hb.cell 5, BIf.f (by simp) ?_⟩
  refine ⟨_, ha.cell 6, _, hb.cell 6, BIf.f (by simp) ?_⟩
  refine ⟨s_7, ha.cell 7, u_7, hb.cell 7, (c79 t_7 (IsD.ext e _ _ is_7) (IsD.ext e _ _ iu_7)).mono ?_⟩
  rintro _ w3 ⟨rfl, e3⟩
  have ha := ha.ext e3
  have hb := hb.ext e3
  have e := Only.trans e e3
  refine ⟨true, rfl, BIf.f rfl ?_⟩
  exact ⟨rfl, e⟩

theorem c42 {d : Dat} {cs : List Value} {bs : List Nat} {k0 : Int} {w : World} (ht : Has TyIpcOp d) (h : OwnD w d bs cs) (hn : bs.Nodup) (h0 : 1 ≤ k0) (hk : k0 + d.cntT ≤ 1099511627776) : CallW Try.prog 42 #[.agg ⟨cs⟩, .int .i64 k0] w (fun v w' => v = .int .i64 (k0 + d.cntT) ∧ ∃ d', d'.cntT = d.cntT ∧ Has TyIpcOp d' ∧ MarkedT TXT d' k0 ∧ OwnD w' d' bs cs ∧ Only (fun k => k ∈ bs) w w') := by
 obtain ⟨x_0, x_1, x_2, x_3, x_4, x_5, x_6, l_7, rfl, t_7⟩ := has_IpcOp ht
 simp only [Dat.cntT, Dat.cntTs] at hk
 have f_ := ownD_st h
 obtain ⟨b_0, r_0, c_0, u_0, rfl, rfl, h_0, f_0⟩ := ownF_cons f_
 obtain ⟨b_1, r_1, c_1, u_1, rfl, rfl, h_1, f_1⟩ := ownF_cons f_0
 obtain ⟨b_2, r_2, c_2, u_2, rfl, rfl, h_2, f_2⟩ := ownF_cons f_1
 obtain ⟨b_3, r_3, c_3, u_3, rfl, rfl, h_3, f_3⟩ := ownF_cons f_2
 obtain ⟨b_4, r_4, c_4, u_4, rfl, rfl, h_4, f_4⟩ := ownF_cons f_3
 obtain ⟨b_5, r_5, c_5, u_5, rfl, rfl, h_5, f_5⟩ := ownF_cons f_4
 obtain ⟨b_6, r_6, c_6, u_6, rfl, rfl, h_6, f_6⟩ := ownF_cons f_5
 obtain ⟨b_7, r_7, c_7, u_7, rfl, rfl, h_7, f_7⟩ := ownF_cons f_6
 obtain ⟨rfl, rfl⟩ := ownF_nil f_7
 obtain ⟨rfl, rfl, wo_0⟩ := ownD_i h_0
 obtain ⟨rfl, rfl, wo_1⟩ := ownD_i h_1
 obtain ⟨rfl, rfl, wo_2⟩ := ownD_i h_2
 obtain ⟨rfl, rfl, wo_3⟩ := ownD_i h_3
 obtain ⟨rfl, rfl, wo_4⟩ := ownD_i h_4
 obtain ⟨rfl, rfl, wo_5⟩ := ownD_i h_5
 obtain ⟨rfl, rfl, wo_6⟩ := ownD_i h_6
 obtain ⟨s_7, rfl⟩ := ownD_sl_s h_7
 have nd0 := (List.nodup_append.1 hn).1
 have dj0 := (List.nodup_append.1 hn).2.2
 have hn0 := (List.nodup_append.1 hn).2.1
 have nd1 := (List.nodup_append.1 hn0).1
 have dj1 := (List.nodup_append.1 hn0).2.2
 have hn1 := (List.nodup_append.1 hn0).2.1
 have nd2 := (List.nodup_append.1 hn1).1
 have dj2 := (List.nodup_append.1 hn1).2.2
 have hn2 := (List.nodup_append.1 hn1).2.1
 have nd3 := (List.nodup_append.1 hn2).1
 have dj3 := (List.nodup_append.1 hn2).2.2
 have hn3 := (List.nodup_append.1 hn2).2.1
 have nd4 := (List.nodup_append.1 hn3).1
 have dj4 := (List.nodup_append.1 hn3).2.2
 have hn4 := (List.nodup_append.1 hn3).2.1
 have nd5 := (List.nodup_append.1 hn4).1
 have dj5 := (List.nodup_append.1 hn4).2.2
 have hn5 := (List.nodup_append.1 hn4).2.1
 have nd6 := (List.nodup_append.1 hn5).1
 have dj6 := (List.nodup_append.1 hn5).2.2
 have hn6 := (List.nodup_append.1 hn5).2.1
 have nd7 := (List.nodup_append.1 hn6).1
 have dj7 := (List.nodup_append.1 hn6).2.2
 have hn7 := (List.nodup_append.1 hn6).2.1
 have lt7 := OwnD.lt _ _ _ h_7
 show CallW Try.prog 42 #[.agg #[.int .i64 x_0, .int .i64 x_1, .int .i64 x_2, .int .i64 x_3, .int .i64 x_4, .int .i64 x_5, .int .i64 x_6, .slice s_7.a s_7.len s_7.cap], .int .i64 k0] w _
 refine go42 ?_
 unfold W42; (try delta qn ql qb qi qS qI qP qQ qR qU qA qC)
 refine alloc_step (fun w1 e1 hb n1 => ?_)
 have o_7 := OwnD.only e1 _ _ _ (fun _ _ x => x) h_7
 have ot : Only (fun k => k ∈ b_7) w w1 := Ext.any e1
 refine ⟨s_7, hb.cell 7, (c68 t_7 o_7 nd7 (by omega) (by omega)).mono ?_⟩
 rintro _ w9 ⟨rfl, m_7, _, cn_7, hs_7, mk_7, ow_7, oo⟩
 refine ⟨_, rfl, ?_⟩
 have hb := hb.only oo (fun hk => by have := lt7 _ hk; omega)
 have ot := Only.trans ot (oo.mono (fun c _ hc => by (try simp only [List.mem_append, List.not_mem_nil, or_false, false_or] at hc); (try simp only [List.mem_append, List.not_mem_nil, or_false, false_or]); first | (simp [hc]; done) | (rcases hc with hc | hc <;> simp [hc]; done) | (rcases hc with hc | hc | hc <;> simp [hc])))
 refine ⟨by congr 1 <;> simp only [Dat.cntT, Dat.cntTs] <;> omega, .st [.int .i64 x_0, .int .i64 x_1, .int .i64 x_2, .int .i64 x_3, .int .i64 x_4, .int .i64 x_5, .int .i64 x_6, .sl 1 m_7], by simp only [Dat.cntT, Dat.cntTs]; omega, mk_st (mkF_cons mk_int (mkF_cons mk_int (mkF_cons mk_int (mkF_cons mk_int (mkF_cons mk_int (mkF_cons mk_int (mkF_cons mk_int (mkF_cons (mk_sl hs_7) (mkF_nil))))))))), markedT_st (markedTF_cons (k' := k0) markedT_int (markedTF_cons (k' := k0) markedT_int (markedTF_cons (k' := k0) markedT_int (markedTF_cons (k' := k0) markedT_int (markedTF_cons (k' := k0) markedT_int (markedTF_cons (k' := k0) markedT_int (markedTF_cons (k' := k0) markedT_int (markedTF_cons (k' := k0 + (Dat.cnts l_7 : Nat)) (marked_slT mk_7) (markedTF_nil) (by simp only [Dat.cntT, Dat.cntTs] at *; omega)) (by simp only [Dat.cntT]; omega)) (by simp only [Dat.cntT]; omega)) (by simp only [Dat.cntT]; omega)) (by simp only [Dat.cntT]; omega)) (by simp only [Dat.cntT]; omega)) (by simp only [Dat.cntT]; omega)) (by simp only [Dat.cntT]; omega)), ownD_mkSt (ownF_mk (own_int wo_0) (ownF_mk (own_int wo_1) (ownF_mk (own_int wo_2) (ownF_mk (own_int wo_3) (ownF_mk (own_int wo_4) (ownF_mk (own_int wo_5) (ownF_mk (own_int wo_6) (ownF_mk ow_7 (ownF_mk0))))))))), ot.mono (fun c _ hc => by (try simp only [List.mem_append, List.not_mem_nil, or_false, false_or] at hc); (try simp only [List.mem_append, List.not_mem_nil, or_false, false_or]); first | (simp [hc]; done) | (rcases hc with hc | hc <;> simp [hc]; done) | (rcases hc with hc | hc | hc <;> simp [hc]))⟩

theorem c43 {d : Dat} {cs : List Value} {bs : List Nat} {k0 : Int} {w : World} (ht : Has TyIpcRes d) (h : OwnD w d bs cs) (hn : bs.Nodup) (h0 : 1 ≤ k0) (hk : k0 + d.cntT ≤ 1099511627776) : CallW Try.prog 43 #[.agg ⟨cs⟩, .int .i64 k0] w (fun v w' => v = .int .i64 (k0 + d.cntT) ∧ ∃ d', d'.cntT = d.cntT ∧ Has TyIpcRes d' ∧ MarkedT TXT d' k0 ∧ OwnD w' d' bs cs ∧ Only (fun k => k ∈ bs) w w') := by
 obtain ⟨x_0, x_1, l_2, x_3, rfl, t_2⟩ := has_IpcRes ht
 simp only [Dat.cntT, Dat.cntTs] at hk
 have f_ := ownD_st h
 obtain ⟨b_0, r_0, c_0, u_0, rfl, rfl, h_0, f_0⟩ := ownF_cons f_
 obtain ⟨b_1, r_1, c_1, u_1, rfl, rfl, h_1, f_1⟩ := ownF_cons f_0
 obtain ⟨b_2, r_2, c_2, u_2, rfl, rfl, h_2, f_2⟩ := ownF_cons f_1
 obtain ⟨b_3, r_3, c_3, u_3, rfl, rfl, h_3, f_3⟩ := ownF_cons f_2
 obtain ⟨rfl, rfl⟩ := ownF_nil f_3
 obtain ⟨rfl, rfl, wo_0⟩ := ownD_i h_0
 obtain ⟨rfl, rfl, wo_1⟩ := ownD_i h_1
 obtain ⟨s_2, rfl⟩ := ownD_sl_s h_2
 obtain ⟨rfl, rfl, wo_3⟩ := ownD_i h_3
 have nd0 := (List.nodup_append.1 hn).1
 have dj0 := (List.nodup_append.1 hn).2.2
 have hn0 := (List.nodup_append.1 hn).2.1
 have nd1 := (List.nodup_append.1 hn0).1
 have dj1 := (List.nodup_append.1 hn0).2.2
 have hn1 := (List.nodup_append.1 hn0).2.1
 have nd2 := (List.nodup_append.1 hn1).1
 have dj2 := (List.nodup_append.1 hn1).2.2
 have hn2 := (List.nodup_append.1 hn1).2.1
 have nd3 := (List.nodup_append.1 hn2).1
 have dj3 := (List.nodup_append.1 hn2).2.2
 have hn3 := (List.nodup_append.1 hn2).2.1
 have lt2 := OwnD.lt _ _ _ h_2
 show CallW Try.prog 43 #[.agg #[.int .i64 x_0, .int .i64 x_1, .slice s_2.a s_2.len s_2.cap, .int .i64 x_3], .int .i64 k0] w _
 refine go43 ?_
 unfold W43; (try delta qn ql qb qi qS qI qP qQ qR qU qA qC)
 refine alloc_step (fun w1 e1 hb n1 => ?_)
 have o_2 := OwnD.only e1 _ _ _ (fun _ _ x => x) h_2
 have ot : Only (fun k => k ∈ b_2) w w1 := Ext.any e1
 refine ⟨s_2, hb.cell 2, (c68 t_2 o_2 nd2 (by omega) (by omega)).mono ?_⟩
 rintro _ w4 ⟨rfl, m_2, _, cn_2, hs_2, mk_2, ow_2, oo⟩
 refine ⟨_, rfl, ?_⟩
 have hb := hb.only oo (fun hk => by have := lt2 _ hk; omega)
 have ot := Only.trans ot (oo.mono (fun c _ hc => by (try simp only [List.mem_append, List.not_mem_nil, or_false, false_or] at hc); (try simp only [List.mem_append, List.not_mem_nil, or_false, false_or]); first | (simp [hc]; done) | (rcases hc with hc | hc <;> simp [hc]; done) | (rcases hc with hc | hc | hc <;> simp [hc])))
 refine ⟨by congr 1 <;> simp only [Dat.cntT, Dat.cntTs] <;> omega, .st [.int .i64 x_0, .int .i64 x_1, .sl 1 m_2, .int .i64 x_3], by simp only [Dat.cntT, Dat.cntTs]; omega, mk_st (mkF_cons mk_int (mkF_cons mk_int (mkF_cons (mk_sl hs_2) (mkF_cons mk_int (mkF_nil))))), markedT_st (markedTF_cons (k' := k0) markedT_int (markedTF_cons (k' := k0) markedT_int (markedTF_cons (k' := k0 + (Dat.cnts l_2 : Nat)) (marked_slT mk_2) (markedTF_cons (k' := k0 + (Dat.cnts l_2 : Nat)) markedT_int (markedTF_nil) (by simp only [Dat.cntT]; omega)) (by simp only [Dat.cntT, Dat.cntTs] at *; omega)) (by simp only [Dat.cntT]; omega)) (by simp only [Dat.cntT]; omega)), ownD_mkSt (ownF_mk (own_int wo_0) (ownF_mk (own_int wo_1) (ownF_mk ow_2 (ownF_mk (own_int wo_3) (ownF_mk0))))), ot.mono (fun c _ hc => by (try simp only [List.mem_append, List.not_mem_nil, or_false, false_or] at hc); (try simp only [List.mem_append, List.not_mem_nil, or_false, false_or]); first | (simp [hc]; done) | (rcases hc with hc | hc <;> simp [hc]; done) | (rcases hc with hc | hc | hc <;> simp [hc]))⟩

theorem c69 {l : List Dat} {a0 : Sl} {k0 : Int} {w : World} (ht : ∀ e, e ∈ l → Has (.int .u8) e) (h : IsD w (.sl 1 l) [.slice a0.a a0.len a0.cap]) (hm : MarkedF TXT l k0) (h0 : 1 ≤ k0) (hk : k0 + Dat.cnts l ≤ 1099511627776) : CallW Try.prog 69 #[.slice a0.a a0.len a0.cap, .int .i64 k0] w (fun v w' => v = .int .i64 (k0 + Dat.cnts l) ∧ Ext w w') := by
  refine go69 ?_
  unfold W69; (try delta qn ql qb qi qS qI qP qQ qR qU qA qC)
  obtain ⟨hlen, hmax, _⟩ := isD_sl h
  have hmx : maxLen = 9223372036854775807 := rfl
  rw [hlen]
  refine LoopW.m2 (fun (x i : Int) w' => ∃ k : Nat, i = k ∧ k ≤ l.length ∧ x = k0 + Dat.cnts (l.take k) ∧ Ext w w') (fun _ (i : Int) _ => (l.length - i).toNat) ⟨0, rfl, by omega, by simp [Dat.cnts], Only.refl _ _⟩ ?_
  rintro (kx : Int) (i : Int) w4 ⟨k, rfl, hkl, hx, e4⟩ J hJ
  refine BIf.dec (fun hlt => ?_) (fun hge => ?_)
  · obtain ⟨d, hd⟩ : ∃ d, l[k]? = some d := ⟨_, List.getElem?_eq_getElem (by omega)⟩
    have hcg := cnts_get hd
    have hct := cnts_take hd
    have hmd := markedF_get hm hd
    rw [← hx] at hmd
    have ht0 := ht d (mem_get hd)
    obtain ⟨p, es, hp, he, hc, his⟩ := isD_at (IsD.ext e4 _ _ h) hd
    obtain ⟨x, rfl⟩ := has_int ht0
    obtain ⟨rfl, ws⟩ := isD_int his
    simp only [Dat.cnt, Dat.cnts] at hcg hct
    simp only [Marked, MarkedF, Dat.cnt, Dat.cnts] at hmd
    have m := hmd
    try simp (disch := omega) only [w64]
    refine ⟨by omega, by omega, p, hp, _, hc 0 _ rfl, BIf.f (by rw [m]; first | (simp; done) | (simp; congr 1; omega)) ?_⟩
    exact hJ _ _ _ ⟨k + 1, by omega, by omega, by rw [hct]; omega, e4⟩ (by omega)
  · rw [List.take_of_length_le (by omega)] at hx
    exact ⟨by rw [hx], e4⟩

theorem c45 {d : Dat} {cs : List Value} {k0 : Int} {w : World} (ht : Has TyIpcRes d) (h : IsD w d cs) (hm : MarkedT TXT d k0) (h0 : 1 ≤ k0) (hk : k0 + d.cntT ≤ 1099511627776) : CallW Try.prog 45 #[.agg ⟨cs⟩, .int .i64 k0] w (fun v w' => v = .int .i64 (k0 + d.cntT) ∧ Ext w w') := by
 obtain ⟨x_0, x_1, l_2, x_3, rfl, t_2⟩ := has_IpcRes ht
 obtain ⟨s_2, rfl, ws_0, ws_1, is_2, ws_3⟩ := cells_IpcRes h
 simp only [Dat.cntT, Dat.cntTs] at hk
 simp only [MarkedT, MarkedTF, Dat.cntT, Dat.cntTs] at hm
 obtain ⟨_, _, m_2, _, _⟩ := hm
 refine go45 ?_
 unfold W45; (try delta qn ql qb qi qS qI qP qQ qR qU qA qC)
 refine alloc_step (fun w1 e hb n1 => ?_)
 refine ⟨s_2, hb.cell 2, (c69 (k0 := k0) t_2 (IsD.ext e _ _ is_2) (markedF_at m_2 (by omega)) (by omega) (by omega)).mono ?_⟩
 rintro _ w4 ⟨rfl, e4⟩
 have hb := hb.ext e4
 have e := Only.trans e e4
 refine ⟨_, rfl, BIf.f (decide_eq_false (by omega)) ?_⟩
 exact ⟨by congr 1 <;> simp only [Dat.cntT, Dat.cntTs] <;> omega, e⟩

end Go.Proofs.Ytbimoajgofcmbaa

namespace Go.Proofs.Ytbimoajgofcmbaa
open Go Go.Den
theorem res_ce (x : DIpcRes) : x.dat.ce = [.v (.int .i64 x.Code), .v (.int .i64 x.N), .sl 1 (nums .u8 x.Data), .v (.int .i64 x.From)] := by
  simp [DIpcRes.dat, Dat.ce, Dat.ces, ceE_nums]
end Go.Proofs.Ytbimoajgofcmbaa

namespace Go.Proofs.Ytbimoajgofcmbaa
open Go Go.Den
def Made (w : World) (b1 b : Nat) (d : DIpc) (sp sc sq : Sl) (p : Option Addr) (w' : World) : Prop := ∃ (a : Nat) (tp tc tq : Sl), p = some ⟨a, 0, none⟩ ∧ SH w w' (rP tp [] :: rQ tq [] :: BI a d.Next tp tc tq :: rC tc d.Caps :: BI b1 0 N0 N0 N0 :: BI b d.Next sp sc sq :: [])
set_option maxHeartbeats 4000000 in
theorem c76 {w : World} {sp sc sq : Sl} {d : DIpc} (hd : ILent w sp sc sq d) : CallW Try.prog 76 #[iV d.Next sp sc sq] w (KI d w) := by
  refine go76 ?_
  unfold W76; (try delta qn ql qb qi qS qI qP qQ qR qU qA qC H76_2 H76_1 H76_3 H76_0 H76_5 H76_4 H76_6 H76_9 H76_8 H76_10 H76_7 H76_12 H76_11 H76_13 H76_15 H76_14 H76_16 H76_17)
  have hcl := hd.at_.caps.len
  have hpl := hd.at_.ports.len
  have hql := hd.at_.pipes.len
  obtain ⟨f1, f2, f3⟩ := hd.wf.few
  have h := SH.start w
  refine h.alloc (fun w1 h e1 n1 => ?_)
  refine h.alloc (fun w2 h e2 n2 => ?_)
  have h : SH w w2 (BI w1.heap.size 0 N0 N0 N0 :: BI w.heap.size d.Next sp sc sq :: []) := h
  have h := h.drew
  generalize hb1 : w1.heap.size = b1 at *
  generalize hb : w.heap.size = b at *
  refine JoinW.cut1 (Made w b1 b d sp sc sq) ?_ ?_
  · skip
    refine ⟨_, h.cell 1 rfl rfl, sc, h.cell 1 rfl rfl, ?_, ?_, ?_, ?_, trivial⟩
    · skip
      refine h.alloc (fun v1 h ev1 nv1 => ?_)
      refine ⟨⟨sc, h.cell 2 rfl rfl, rfl⟩, ⟨_, h.cell 2 rfl rfl, rfl⟩, ?_⟩
      refine ⟨?_, ?_, ?_, ?_, trivial⟩
      · skip
        refine SH.appendR (f := DCap.cells) (l := []) (us := d.Caps) ((h.dropAt 0).nil (some ⟨w2.drew.heap.size, 0, none⟩) 5) (hd.ext h.ext).at_.caps.row hcl.symm (fun _ => rfl) rfl rfl (by decide) (by show (_ + _) * 40 ≤ _; simp; omega) plain_cap' (fun tv2 v2 h hv2 nv2 => ?_)
        refine ⟨⟨_, h.cell 2 rfl rfl, rfl⟩, ?_⟩
        refine ⟨?_, ?_, ?_, trivial⟩
        · skip
          refine h.alloc (fun v3 h ev3 nv3 => ?_)
          refine ⟨⟨sc, h.cell 3 rfl rfl, rfl⟩, ⟨_, h.cell 3 rfl rfl, rfl⟩, ?_⟩
          refine ⟨?_, ?_, trivial⟩
          · skip
            refine h.alloc (fun v4 h ev4 nv4 => ?_)
            refine ⟨⟨sc, h.cell 4 rfl rfl, rfl⟩, ⟨_, h.cell 4 rfl rfl, rfl⟩, ?_⟩
            refine ⟨?_, trivial⟩
            refine h.alloc (fun v5 h ev5 nv5 => ?_)
            refine ⟨⟨sc, h.cell 5 rfl rfl, rfl⟩, ⟨_, h.cell 5 rfl rfl, rfl⟩, ?_⟩
            refine ⟨?_, trivial⟩
            refine h.put 0 rfl rfl rfl (fun v6 h nv6 => ?_)
            exact ⟨_, _, tv2, _, rfl, ((((h.dropAt 2).dropAt 1)).nil (some ⟨v3.heap.size, 0, none⟩) 4).nil (some ⟨v2.heap.size, 0, none⟩) 2⟩
          · skip
            refine h.alloc (fun v7 h ev7 nv7 => ?_)
            refine ⟨⟨sc, h.cell 4 rfl rfl, rfl⟩, ⟨_, h.cell 4 rfl rfl, rfl⟩, ?_⟩
            refine ⟨?_, trivial⟩
            refine h.alloc (fun v8 h ev8 nv8 => ?_)
            refine ⟨⟨sc, h.cell 5 rfl rfl, rfl⟩, ⟨_, h.cell 5 rfl rfl, rfl⟩, ?_⟩
            refine ⟨?_, trivial⟩
            refine h.put 1 rfl rfl rfl (fun v9 h nv9 => ?_)
            exact ⟨_, _, tv2, _, rfl, ((((h.dropAt 2).dropAt 0)).nil (some ⟨v7.heap.size, 0, none⟩) 4).nil (some ⟨v2.heap.size, 0, none⟩) 2⟩
        · skip
          refine h.alloc (fun v10 h ev10 nv10 => ?_)
          refine ⟨⟨sc, h.cell 3 rfl rfl, rfl⟩, ⟨_, h.cell 3 rfl rfl, rfl⟩, ?_⟩
          refine ⟨?_, ?_, trivial⟩
          · skip
            refine h.alloc (fun v11 h ev11 nv11 => ?_)
            refine ⟨⟨sc, h.cell 4 rfl rfl, rfl⟩, ⟨_, h.cell 4 rfl rfl, rfl⟩, ?_⟩
            refine ⟨?_, trivial⟩
            refine h.alloc (fun v12 h ev12 nv12 => ?_)
            refine ⟨⟨sc, h.cell 5 rfl rfl, rfl⟩, ⟨_, h.cell 5 rfl rfl, rfl⟩, ?_⟩
            refine ⟨?_, trivial⟩
            refine h.put 0 rfl rfl rfl (fun v13 h nv13 => ?_)
            exact ⟨_, _, tv2, _, rfl, ((((h.dropAt 2).dropAt 1)).nil (some ⟨v2.heap.size, 0, none⟩) 4).nil (some ⟨v10.heap.size, 0, none⟩) 2⟩
          · skip
            refine h.alloc (fun v14 h ev14 nv14 => ?_)
            refine ⟨⟨sc, h.cell 4 rfl rfl, rfl⟩, ⟨_, h.cell 4 rfl rfl, rfl⟩, ?_⟩
            refine ⟨?_, trivial⟩
            refine h.alloc (fun v15 h ev15 nv15 => ?_)
            refine ⟨⟨sc, h.cell 5 rfl rfl, rfl⟩, ⟨_, h.cell 5 rfl rfl, rfl⟩, ?_⟩
            refine ⟨?_, trivial⟩
            refine h.put 1 rfl rfl rfl (fun v16 h nv16 => ?_)
            exact ⟨_, _, tv2, _, rfl, ((((h.dropAt 2).dropAt 0)).nil (some ⟨v2.heap.size, 0, none⟩) 4).nil (some ⟨v14.heap.size, 0, none⟩) 2⟩
        · skip
          refine h.alloc (fun v17 h ev17 nv17 => ?_)
          refine ⟨⟨sc, h.cell 3 rfl rfl, rfl⟩, ⟨_, h.cell 3 rfl rfl, rfl⟩, ?_⟩
          refine ⟨?_, ?_, trivial⟩
          · skip
            refine h.alloc (fun v18 h ev18 nv18 => ?_)
            refine ⟨⟨sc, h.cell 4 rfl rfl, rfl⟩, ⟨_, h.cell 4 rfl rfl, rfl⟩, ?_⟩
            refine ⟨?_, trivial⟩
            refine h.alloc (fun v19 h ev19 nv19 => ?_)
            refine ⟨⟨sc, h.cell 5 rfl rfl, rfl⟩, ⟨_, h.cell 5 rfl rfl, rfl⟩, ?_⟩
            refine ⟨?_, trivial⟩
            refine h.put 2 rfl rfl rfl (fun v20 h nv20 => ?_)
            exact ⟨_, _, tv2, _, rfl, ((((h.dropAt 1).dropAt 0)).nil (some ⟨v18.heap.size, 0, none⟩) 4).nil (some ⟨v17.heap.size, 0, none⟩) 2⟩
          · skip
            refine h.alloc (fun v21 h ev21 nv21 => ?_)
            refine ⟨⟨sc, h.cell 4 rfl rfl, rfl⟩, ⟨_, h.cell 4 rfl rfl, rfl⟩, ?_⟩
            refine ⟨?_, trivial⟩
            refine h.alloc (fun v22 h ev22 nv22 => ?_)
            refine ⟨⟨sc, h.cell 5 rfl rfl, rfl⟩, ⟨_, h.cell 5 rfl rfl, rfl⟩, ?_⟩
            refine ⟨?_, trivial⟩
            refine h.put 2 rfl rfl rfl (fun v23 h nv23 => ?_)
            exact ⟨_, _, tv2, _, rfl, ((((h.dropAt 1).dropAt 0)).nil (some ⟨v17.heap.size, 0, none⟩) 4).nil (some ⟨v21.heap.size, 0, none⟩) 2⟩
      · skip
        refine h.alloc (fun v24 h ev24 nv24 => ?_)
        refine ⟨⟨sc, h.cell 3 rfl rfl, rfl⟩, ⟨_, h.cell 3 rfl rfl, rfl⟩, ?_⟩
        refine ⟨?_, ?_, ?_, trivial⟩
        · skip
          refine SH.appendR (f := DCap.cells) (l := []) (us := d.Caps) ((h.dropAt 1).nil (some ⟨w2.drew.heap.size, 0, none⟩) 5) (hd.ext h.ext).at_.caps.row hcl.symm (fun _ => rfl) rfl rfl (by decide) (by show (_ + _) * 40 ≤ _; simp; omega) plain_cap' (fun tv25 v25 h hv25 nv25 => ?_)
          refine ⟨⟨_, h.cell 3 rfl rfl, rfl⟩, ?_⟩
          refine ⟨?_, ?_, trivial⟩
          · skip
            refine h.alloc (fun v26 h ev26 nv26 => ?_)
            refine ⟨⟨sc, h.cell 4 rfl rfl, rfl⟩, ⟨_, h.cell 4 rfl rfl, rfl⟩, ?_⟩
            refine ⟨?_, trivial⟩
            refine h.alloc (fun v27 h ev27 nv27 => ?_)
            refine ⟨⟨sc, h.cell 5 rfl rfl, rfl⟩, ⟨_, h.cell 5 rfl rfl, rfl⟩, ?_⟩
            refine ⟨?_, trivial⟩
            refine h.put 0 rfl rfl rfl (fun v28 h nv28 => ?_)
            exact ⟨_, _, tv25, _, rfl, ((((h.dropAt 3).dropAt 1)).nil (some ⟨v25.heap.size, 0, none⟩) 4).nil (some ⟨v1.heap.size, 0, none⟩) 2⟩
          · skip
            refine h.alloc (fun v29 h ev29 nv29 => ?_)
            refine ⟨⟨sc, h.cell 4 rfl rfl, rfl⟩, ⟨_, h.cell 4 rfl rfl, rfl⟩, ?_⟩
            refine ⟨?_, trivial⟩
            refine h.alloc (fun v30 h ev30 nv30 => ?_)
            refine ⟨⟨sc, h.cell 5 rfl rfl, rfl⟩, ⟨_, h.cell 5 rfl rfl, rfl⟩, ?_⟩
            refine ⟨?_, trivial⟩
            refine h.put 1 rfl rfl rfl (fun v31 h nv31 => ?_)
            exact ⟨_, _, tv25, _, rfl, ((((h.dropAt 3).dropAt 0)).nil (some ⟨v29.heap.size, 0, none⟩) 4).nil (some ⟨v1.heap.size, 0, none⟩) 2⟩
        · skip
          refine h.alloc (fun v32 h ev32 nv32 => ?_)
          refine ⟨⟨sc, h.cell 4 rfl rfl, rfl⟩, ⟨_, h.cell 4 rfl rfl, rfl⟩, ?_⟩
          refine ⟨?_, ?_, trivial⟩
          · skip
            refine SH.appendR (f := DCap.cells) (l := []) (us := d.Caps) ((h.dropAt 2).nil (some ⟨w2.drew.heap.size, 0, none⟩) 5) (hd.ext h.ext).at_.caps.row hcl.symm (fun _ => rfl) rfl rfl (by decide) (by show (_ + _) * 40 ≤ _; simp; omega) plain_cap' (fun tv33 v33 h hv33 nv33 => ?_)
            refine ⟨⟨_, h.cell 4 rfl rfl, rfl⟩, ?_⟩
            refine ⟨?_, trivial⟩
            refine h.alloc (fun v34 h ev34 nv34 => ?_)
            refine ⟨⟨sc, h.cell 5 rfl rfl, rfl⟩, ⟨_, h.cell 5 rfl rfl, rfl⟩, ?_⟩
            refine ⟨?_, trivial⟩
            refine h.put 0 rfl rfl rfl (fun v35 h nv35 => ?_)
            exact ⟨_, _, tv33, _, rfl, ((((h.dropAt 3).dropAt 2)).nil (some ⟨v24.heap.size, 0, none⟩) 4).nil (some ⟨v1.heap.size, 0, none⟩) 2⟩
          · skip
            refine h.alloc (fun v36 h ev36 nv36 => ?_)
            refine ⟨⟨sc, h.cell 5 rfl rfl, rfl⟩, ⟨_, h.cell 5 rfl rfl, rfl⟩, ?_⟩
            refine ⟨?_, trivial⟩
            refine SH.appendR (f := DCap.cells) (l := []) (us := d.Caps) ((h.dropAt 3).nil (some ⟨w2.drew.heap.size, 0, none⟩) 5) (hd.ext h.ext).at_.caps.row hcl.symm (fun _ => rfl) rfl rfl (by decide) (by show (_ + _) * 40 ≤ _; simp; omega) plain_cap' (fun tv37 v37 h hv37 nv37 => ?_)
            refine ⟨⟨_, h.cell 5 rfl rfl, rfl⟩, ?_⟩
            refine ⟨?_, trivial⟩
            refine h.put 1 rfl rfl rfl (fun v38 h nv38 => ?_)
            exact ⟨_, _, tv37, _, rfl, ((((((h.dropAt 3).dropAt 2).fro 0 rfl).fro 1 rfl)).nil (some ⟨v24.heap.size, 0, none⟩) 4).nil (some ⟨v1.heap.size, 0, none⟩) 2⟩
        · skip
          refine h.alloc (fun v39 h ev39 nv39 => ?_)
          refine ⟨⟨sc, h.cell 4 rfl rfl, rfl⟩, ⟨_, h.cell 4 rfl rfl, rfl⟩, ?_⟩
          refine ⟨?_, ?_, trivial⟩
          · skip
            refine SH.appendR (f := DCap.cells) (l := []) (us := d.Caps) ((h.dropAt 2).nil (some ⟨w2.drew.heap.size, 0, none⟩) 5) (hd.ext h.ext).at_.caps.row hcl.symm (fun _ => rfl) rfl rfl (by decide) (by show (_ + _) * 40 ≤ _; simp; omega) plain_cap' (fun tv40 v40 h hv40 nv40 => ?_)
            refine ⟨⟨_, h.cell 4 rfl rfl, rfl⟩, ?_⟩
            refine ⟨?_, trivial⟩
            refine h.alloc (fun v41 h ev41 nv41 => ?_)
            refine ⟨⟨sc, h.cell 5 rfl rfl, rfl⟩, ⟨_, h.cell 5 rfl rfl, rfl⟩, ?_⟩
            refine ⟨?_, trivial⟩
            refine h.put 2 rfl rfl rfl (fun v42 h nv42 => ?_)
            exact ⟨_, _, tv40, _, rfl, ((((((h.dropAt 3).dropAt 0).fro 0 rfl).fro 1 rfl)).nil (some ⟨v40.heap.size, 0, none⟩) 4).nil (some ⟨v1.heap.size, 0, none⟩) 2⟩
          · skip
            refine h.alloc (fun v43 h ev43 nv43 => ?_)
            refine ⟨⟨sc, h.cell 5 rfl rfl, rfl⟩, ⟨_, h.cell 5 rfl rfl, rfl⟩, ?_⟩
            refine ⟨?_, trivial⟩
            refine SH.appendR (f := DCap.cells) (l := []) (us := d.Caps) ((h.dropAt 3).nil (some ⟨w2.drew.heap.size, 0, none⟩) 5) (hd.ext h.ext).at_.caps.row hcl.symm (fun _ => rfl) rfl rfl (by decide) (by show (_ + _) * 40 ≤ _; simp; omega) plain_cap' (fun tv44 v44 h hv44 nv44 => ?_)
            refine ⟨⟨_, h.cell 5 rfl rfl, rfl⟩, ?_⟩
            refine ⟨?_, trivial⟩
            refine h.put 2 rfl rfl rfl (fun v45 h nv45 => ?_)
            exact ⟨_, _, tv44, _, rfl, ((((((h.dropAt 3).dropAt 1).fro 0 rfl).fro 1 rfl)).nil (some ⟨v39.heap.size, 0, none⟩) 4).nil (some ⟨v1.heap.size, 0, none⟩) 2⟩
      · skip
        refine h.alloc (fun v46 h ev46 nv46 => ?_)
        refine ⟨⟨sc, h.cell 3 rfl rfl, rfl⟩, ⟨_, h.cell 3 rfl rfl, rfl⟩, ?_⟩
        refine ⟨?_, ?_, ?_, trivial⟩
        · skip
          refine SH.appendR (f := DCap.cells) (l := []) (us := d.Caps) ((h.dropAt 1).nil (some ⟨w2.drew.heap.size, 0, none⟩) 5) (hd.ext h.ext).at_.caps.row hcl.symm (fun _ => rfl) rfl rfl (by decide) (by show (_ + _) * 40 ≤ _; simp; omega) plain_cap' (fun tv47 v47 h hv47 nv47 => ?_)
          refine ⟨⟨_, h.cell 3 rfl rfl, rfl⟩, ?_⟩
          refine ⟨?_, ?_, trivial⟩
          · skip
            refine h.alloc (fun v48 h ev48 nv48 => ?_)
            refine ⟨⟨sc, h.cell 4 rfl rfl, rfl⟩, ⟨_, h.cell 4 rfl rfl, rfl⟩, ?_⟩
            refine ⟨?_, trivial⟩
            refine h.alloc (fun v49 h ev49 nv49 => ?_)
            refine ⟨⟨sc, h.cell 5 rfl rfl, rfl⟩, ⟨_, h.cell 5 rfl rfl, rfl⟩, ?_⟩
            refine ⟨?_, trivial⟩
            refine h.put 0 rfl rfl rfl (fun v50 h nv50 => ?_)
            exact ⟨_, _, tv47, _, rfl, ((((h.dropAt 3).dropAt 1)).nil (some ⟨v1.heap.size, 0, none⟩) 4).nil (some ⟨v47.heap.size, 0, none⟩) 2⟩
          · skip
            refine h.alloc (fun v51 h ev51 nv51 => ?_)
            refine ⟨⟨sc, h.cell 4 rfl rfl, rfl⟩, ⟨_, h.cell 4 rfl rfl, rfl⟩, ?_⟩
            refine ⟨?_, trivial⟩
            refine h.alloc (fun v52 h ev52 nv52 => ?_)
            refine ⟨⟨sc, h.cell 5 rfl rfl, rfl⟩, ⟨_, h.cell 5 rfl rfl, rfl⟩, ?_⟩
            refine ⟨?_, trivial⟩
            refine h.put 1 rfl rfl rfl (fun v53 h nv53 => ?_)
            exact ⟨_, _, tv47, _, rfl, ((((h.dropAt 3).dropAt 0)).nil (some ⟨v1.heap.size, 0, none⟩) 4).nil (some ⟨v51.heap.size, 0, none⟩) 2⟩
        · skip
          refine h.alloc (fun v54 h ev54 nv54 => ?_)
          refine ⟨⟨sc, h.cell 4 rfl rfl, rfl⟩, ⟨_, h.cell 4 rfl rfl, rfl⟩, ?_⟩
          refine ⟨?_, ?_, trivial⟩
          · skip
            refine SH.appendR (f := DCap.cells) (l := []) (us := d.Caps) ((h.dropAt 2).nil (some ⟨w2.drew.heap.size, 0, none⟩) 5) (hd.ext h.ext).at_.caps.row hcl.symm (fun _ => rfl) rfl rfl (by decide) (by show (_ + _) * 40 ≤ _; simp; omega) plain_cap' (fun tv55 v55 h hv55 nv55 => ?_)
            refine ⟨⟨_, h.cell 4 rfl rfl, rfl⟩, ?_⟩
            refine ⟨?_, trivial⟩
            refine h.alloc (fun v56 h ev56 nv56 => ?_)
            refine ⟨⟨sc, h.cell 5 rfl rfl, rfl⟩, ⟨_, h.cell 5 rfl rfl, rfl⟩, ?_⟩
            refine ⟨?_, trivial⟩
            refine h.put 0 rfl rfl rfl (fun v57 h nv57 => ?_)
            exact ⟨_, _, tv55, _, rfl, ((((h.dropAt 3).dropAt 2)).nil (some ⟨v1.heap.size, 0, none⟩) 4).nil (some ⟨v46.heap.size, 0, none⟩) 2⟩
          · skip
            refine h.alloc (fun v58 h ev58 nv58 => ?_)
            refine ⟨⟨sc, h.cell 5 rfl rfl, rfl⟩, ⟨_, h.cell 5 rfl rfl, rfl⟩, ?_⟩
            refine ⟨?_, trivial⟩
            refine SH.appendR (f := DCap.cells) (l := []) (us := d.Caps) ((h.dropAt 3).nil (some ⟨w2.drew.heap.size, 0, none⟩) 5) (hd.ext h.ext).at_.caps.row hcl.symm (fun _ => rfl) rfl rfl (by decide) (by show (_ + _) * 40 ≤ _; simp; omega) plain_cap' (fun tv59 v59 h hv59 nv59 => ?_)
            refine ⟨⟨_, h.cell 5 rfl rfl, rfl⟩, ?_⟩
            refine ⟨?_, trivial⟩
            refine h.put 1 rfl rfl rfl (fun v60 h nv60 => ?_)
            exact ⟨_, _, tv59, _, rfl, ((((((h.dropAt 3).dropAt 2).fro 0 rfl).fro 1 rfl)).nil (some ⟨v1.heap.size, 0, none⟩) 4).nil (some ⟨v46.heap.size, 0, none⟩) 2⟩
        · skip
          refine h.alloc (fun v61 h ev61 nv61 => ?_)
          refine ⟨⟨sc, h.cell 4 rfl rfl, rfl⟩, ⟨_, h.cell 4 rfl rfl, rfl⟩, ?_⟩
          refine ⟨?_, ?_, trivial⟩
          · skip
            refine SH.appendR (f := DCap.cells) (l := []) (us := d.Caps) ((h.dropAt 2).nil (some ⟨w2.drew.heap.size, 0, none⟩) 5) (hd.ext h.ext).at_.caps.row hcl.symm (fun _ => rfl) rfl rfl (by decide) (by show (_ + _) * 40 ≤ _; simp; omega) plain_cap' (fun tv62 v62 h hv62 nv62 => ?_)
            refine ⟨⟨_, h.cell 4 rfl rfl, rfl⟩, ?_⟩
            refine ⟨?_, trivial⟩
            refine h.alloc (fun v63 h ev63 nv63 => ?_)
            refine ⟨⟨sc, h.cell 5 rfl rfl, rfl⟩, ⟨_, h.cell 5 rfl rfl, rfl⟩, ?_⟩
            refine ⟨?_, trivial⟩
            refine h.put 2 rfl rfl rfl (fun v64 h nv64 => ?_)
            exact ⟨_, _, tv62, _, rfl, ((((((h.dropAt 3).dropAt 0).fro 0 rfl).fro 1 rfl)).nil (some ⟨v1.heap.size, 0, none⟩) 4).nil (some ⟨v62.heap.size, 0, none⟩) 2⟩
          · skip
            refine h.alloc (fun v65 h ev65 nv65 => ?_)
            refine ⟨⟨sc, h.cell 5 rfl rfl, rfl⟩, ⟨_, h.cell 5 rfl rfl, rfl⟩, ?_⟩
            refine ⟨?_, trivial⟩
            refine SH.appendR (f := DCap.cells) (l := []) (us := d.Caps) ((h.dropAt 3).nil (some ⟨w2.drew.heap.size, 0, none⟩) 5) (hd.ext h.ext).at_.caps.row hcl.symm (fun _ => rfl) rfl rfl (by decide) (by show (_ + _) * 40 ≤ _; simp; omega) plain_cap' (fun tv66 v66 h hv66 nv66 => ?_)
            refine ⟨⟨_, h.cell 5 rfl rfl, rfl⟩, ?_⟩
            refine ⟨?_, trivial⟩
            refine h.put 2 rfl rfl rfl (fun v67 h nv67 => ?_)
            exact ⟨_, _, tv66, _, rfl, ((((((h.dropAt 3).dropAt 1).fro 0 rfl).fro 1 rfl)).nil (some ⟨v1.heap.size, 0, none⟩) 4).nil (some ⟨v61.heap.size, 0, none⟩) 2⟩
      · skip
        refine h.alloc (fun v68 h ev68 nv68 => ?_)
        refine ⟨⟨sc, h.cell 3 rfl rfl, rfl⟩, ⟨_, h.cell 3 rfl rfl, rfl⟩, ?_⟩
        refine ⟨?_, ?_, ?_, trivial⟩
        · skip
          refine SH.appendR (f := DCap.cells) (l := []) (us := d.Caps) ((h.dropAt 1).nil (some ⟨w2.drew.heap.size, 0, none⟩) 5) (hd.ext h.ext).at_.caps.row hcl.symm (fun _ => rfl) rfl rfl (by decide) (by show (_ + _) * 40 ≤ _; simp; omega) plain_cap' (fun tv69 v69 h hv69 nv69 => ?_)
          refine ⟨⟨_, h.cell 3 rfl rfl, rfl⟩, ?_⟩
          refine ⟨?_, ?_, trivial⟩
          · skip
            refine h.alloc (fun v70 h ev70 nv70 => ?_)
            refine ⟨⟨sc, h.cell 4 rfl rfl, rfl⟩, ⟨_, h.cell 4 rfl rfl, rfl⟩, ?_⟩
            refine ⟨?_, trivial⟩
            refine h.alloc (fun v71 h ev71 nv71 => ?_)
            refine ⟨⟨sc, h.cell 5 rfl rfl, rfl⟩, ⟨_, h.cell 5 rfl rfl, rfl⟩, ?_⟩
            refine ⟨?_, trivial⟩
            refine h.put 3 rfl rfl rfl (fun v72 h nv72 => ?_)
            exact ⟨_, _, tv69, _, rfl, ((((((h.dropAt 1).dropAt 0).fro 0 rfl).fro 1 rfl)).nil (some ⟨v70.heap.size, 0, none⟩) 4).nil (some ⟨v69.heap.size, 0, none⟩) 2⟩
          · skip
            refine h.alloc (fun v73 h ev73 nv73 => ?_)
            refine ⟨⟨sc, h.cell 4 rfl rfl, rfl⟩, ⟨_, h.cell 4 rfl rfl, rfl⟩, ?_⟩
            refine ⟨?_, trivial⟩
            refine h.alloc (fun v74 h ev74 nv74 => ?_)
            refine ⟨⟨sc, h.cell 5 rfl rfl, rfl⟩, ⟨_, h.cell 5 rfl rfl, rfl⟩, ?_⟩
            refine ⟨?_, trivial⟩
            refine h.put 3 rfl rfl rfl (fun v75 h nv75 => ?_)
            exact ⟨_, _, tv69, _, rfl, ((((((h.dropAt 1).dropAt 0).fro 0 rfl).fro 1 rfl)).nil (some ⟨v69.heap.size, 0, none⟩) 4).nil (some ⟨v73.heap.size, 0, none⟩) 2⟩
        · skip
          refine h.alloc (fun v76 h ev76 nv76 => ?_)
          refine ⟨⟨sc, h.cell 4 rfl rfl, rfl⟩, ⟨_, h.cell 4 rfl rfl, rfl⟩, ?_⟩
          refine ⟨?_, ?_, trivial⟩
          · skip
            refine SH.appendR (f := DCap.cells) (l := []) (us := d.Caps) ((h.dropAt 2).nil (some ⟨w2.drew.heap.size, 0, none⟩) 5) (hd.ext h.ext).at_.caps.row hcl.symm (fun _ => rfl) rfl rfl (by decide) (by show (_ + _) * 40 ≤ _; simp; omega) plain_cap' (fun tv77 v77 h hv77 nv77 => ?_)
            refine ⟨⟨_, h.cell 4 rfl rfl, rfl⟩, ?_⟩
            refine ⟨?_, trivial⟩
            refine h.alloc (fun v78 h ev78 nv78 => ?_)
            refine ⟨⟨sc, h.cell 5 rfl rfl, rfl⟩, ⟨_, h.cell 5 rfl rfl, rfl⟩, ?_⟩
            refine ⟨?_, trivial⟩
            refine h.put 3 rfl rfl rfl (fun v79 h nv79 => ?_)
            exact ⟨_, _, tv77, _, rfl, ((((((h.dropAt 2).dropAt 0).fro 0 rfl).fro 1 rfl)).nil (some ⟨v77.heap.size, 0, none⟩) 4).nil (some ⟨v68.heap.size, 0, none⟩) 2⟩
          · skip
            refine h.alloc (fun v80 h ev80 nv80 => ?_)
            refine ⟨⟨sc, h.cell 5 rfl rfl, rfl⟩, ⟨_, h.cell 5 rfl rfl, rfl⟩, ?_⟩
            refine ⟨?_, trivial⟩
            refine SH.appendR (f := DCap.cells) (l := []) (us := d.Caps) ((h.dropAt 3).nil (some ⟨w2.drew.heap.size, 0, none⟩) 5) (hd.ext h.ext).at_.caps.row hcl.symm (fun _ => rfl) rfl rfl (by decide) (by show (_ + _) * 40 ≤ _; simp; omega) plain_cap' (fun tv81 v81 h hv81 nv81 => ?_)
            refine ⟨⟨_, h.cell 5 rfl rfl, rfl⟩, ?_⟩
            refine ⟨?_, trivial⟩
            refine h.put 3 rfl rfl rfl (fun v82 h nv82 => ?_)
            exact ⟨_, _, tv81, _, rfl, ((((((h.dropAt 2).dropAt 1).fro 0 rfl).fro 1 rfl)).nil (some ⟨v76.heap.size, 0, none⟩) 4).nil (some ⟨v68.heap.size, 0, none⟩) 2⟩
        · skip
          refine h.alloc (fun v83 h ev83 nv83 => ?_)
          refine ⟨⟨sc, h.cell 4 rfl rfl, rfl⟩, ⟨_, h.cell 4 rfl rfl, rfl⟩, ?_⟩
          refine ⟨?_, ?_, trivial⟩
          · skip
            refine SH.appendR (f := DCap.cells) (l := []) (us := d.Caps) ((h.dropAt 2).nil (some ⟨w2.drew.heap.size, 0, none⟩) 5) (hd.ext h.ext).at_.caps.row hcl.symm (fun _ => rfl) rfl rfl (by decide) (by show (_ + _) * 40 ≤ _; simp; omega) plain_cap' (fun tv84 v84 h hv84 nv84 => ?_)
            refine ⟨⟨_, h.cell 4 rfl rfl, rfl⟩, ?_⟩
            refine ⟨?_, trivial⟩
            refine h.alloc (fun v85 h ev85 nv85 => ?_)
            refine ⟨⟨sc, h.cell 5 rfl rfl, rfl⟩, ⟨_, h.cell 5 rfl rfl, rfl⟩, ?_⟩
            refine ⟨?_, trivial⟩
            refine h.put 3 rfl rfl rfl (fun v86 h nv86 => ?_)
            exact ⟨_, _, tv84, _, rfl, ((((((h.dropAt 2).dropAt 0).fro 0 rfl).fro 1 rfl)).nil (some ⟨v68.heap.size, 0, none⟩) 4).nil (some ⟨v84.heap.size, 0, none⟩) 2⟩
          · skip
            refine h.alloc (fun v87 h ev87 nv87 => ?_)
            refine ⟨⟨sc, h.cell 5 rfl rfl, rfl⟩, ⟨_, h.cell 5 rfl rfl, rfl⟩, ?_⟩
            refine ⟨?_, trivial⟩
            refine SH.appendR (f := DCap.cells) (l := []) (us := d.Caps) ((h.dropAt 3).nil (some ⟨w2.drew.heap.size, 0, none⟩) 5) (hd.ext h.ext).at_.caps.row hcl.symm (fun _ => rfl) rfl rfl (by decide) (by show (_ + _) * 40 ≤ _; simp; omega) plain_cap' (fun tv88 v88 h hv88 nv88 => ?_)
            refine ⟨⟨_, h.cell 5 rfl rfl, rfl⟩, ?_⟩
            refine ⟨?_, trivial⟩
            refine h.put 3 rfl rfl rfl (fun v89 h nv89 => ?_)
            exact ⟨_, _, tv88, _, rfl, ((((((h.dropAt 2).dropAt 1).fro 0 rfl).fro 1 rfl)).nil (some ⟨v68.heap.size, 0, none⟩) 4).nil (some ⟨v83.heap.size, 0, none⟩) 2⟩
    · skip
      refine h.alloc (fun v90 h ev90 nv90 => ?_)
      refine ⟨⟨sc, h.cell 2 rfl rfl, rfl⟩, ⟨_, h.cell 2 rfl rfl, rfl⟩, ?_⟩
      refine ⟨?_, ?_, ?_, trivial⟩
      · skip
        refine h.alloc (fun v91 h ev91 nv91 => ?_)
        refine ⟨⟨sc, h.cell 3 rfl rfl, rfl⟩, ⟨_, h.cell 3 rfl rfl, rfl⟩, ?_⟩
        refine ⟨?_, ?_, ?_, trivial⟩
        · skip
          refine SH.appendR (f := DCap.cells) (l := []) (us := d.Caps) ((h.dropAt 0).nil (some ⟨v90.heap.size, 0, none⟩) 5) (hd.ext h.ext).at_.caps.row hcl.symm (fun _ => rfl) rfl rfl (by decide) (by show (_ + _) * 40 ≤ _; simp; omega) plain_cap' (fun tv92 v92 h hv92 nv92 => ?_)
          refine ⟨⟨_, h.cell 3 rfl rfl, rfl⟩, ?_⟩
          refine ⟨?_, ?_, trivial⟩
          · skip
            refine h.alloc (fun v93 h ev93 nv93 => ?_)
            refine ⟨⟨sc, h.cell 4 rfl rfl, rfl⟩, ⟨_, h.cell 4 rfl rfl, rfl⟩, ?_⟩
            refine ⟨?_, trivial⟩
            refine h.alloc (fun v94 h ev94 nv94 => ?_)
            refine ⟨⟨sc, h.cell 5 rfl rfl, rfl⟩, ⟨_, h.cell 5 rfl rfl, rfl⟩, ?_⟩
            refine ⟨?_, trivial⟩
            refine h.put 0 rfl rfl rfl (fun v95 h nv95 => ?_)
            exact ⟨_, _, tv92, _, rfl, ((((h.dropAt 3).dropAt 1)).nil (some ⟨v92.heap.size, 0, none⟩) 4).nil (some ⟨w2.drew.heap.size, 0, none⟩) 2⟩
          · skip
            refine h.alloc (fun v96 h ev96 nv96 => ?_)
            refine ⟨⟨sc, h.cell 4 rfl rfl, rfl⟩, ⟨_, h.cell 4 rfl rfl, rfl⟩, ?_⟩
            refine ⟨?_, trivial⟩
            refine h.alloc (fun v97 h ev97 nv97 => ?_)
            refine ⟨⟨sc, h.cell 5 rfl rfl, rfl⟩, ⟨_, h.cell 5 rfl rfl, rfl⟩, ?_⟩
            refine ⟨?_, trivial⟩
            refine h.put 1 rfl rfl rfl (fun v98 h nv98 => ?_)
            exact ⟨_, _, tv92, _, rfl, ((((h.dropAt 3).dropAt 0)).nil (some ⟨v96.heap.size, 0, none⟩) 4).nil (some ⟨w2.drew.heap.size, 0, none⟩) 2⟩
        · skip
          refine h.alloc (fun v99 h ev99 nv99 => ?_)
          refine ⟨⟨sc, h.cell 4 rfl rfl, rfl⟩, ⟨_, h.cell 4 rfl rfl, rfl⟩, ?_⟩
          refine ⟨?_, ?_, trivial⟩
          · skip
            refine SH.appendR (f := DCap.cells) (l := []) (us := d.Caps) ((h.dropAt 1).nil (some ⟨v90.heap.size, 0, none⟩) 5) (hd.ext h.ext).at_.caps.row hcl.symm (fun _ => rfl) rfl rfl (by decide) (by show (_ + _) * 40 ≤ _; simp; omega) plain_cap' (fun tv100 v100 h hv100 nv100 => ?_)
            refine ⟨⟨_, h.cell 4 rfl rfl, rfl⟩, ?_⟩
            refine ⟨?_, trivial⟩
            refine h.alloc (fun v101 h ev101 nv101 => ?_)
            refine ⟨⟨sc, h.cell 5 rfl rfl, rfl⟩, ⟨_, h.cell 5 rfl rfl, rfl⟩, ?_⟩
            refine ⟨?_, trivial⟩
            refine h.put 0 rfl rfl rfl (fun v102 h nv102 => ?_)
            exact ⟨_, _, tv100, _, rfl, ((((h.dropAt 3).dropAt 2)).nil (some ⟨v91.heap.size, 0, none⟩) 4).nil (some ⟨w2.drew.heap.size, 0, none⟩) 2⟩
          · skip
            refine h.alloc (fun v103 h ev103 nv103 => ?_)
            refine ⟨⟨sc, h.cell 5 rfl rfl, rfl⟩, ⟨_, h.cell 5 rfl rfl, rfl⟩, ?_⟩
            refine ⟨?_, trivial⟩
            refine SH.appendR (f := DCap.cells) (l := []) (us := d.Caps) ((h.dropAt 2).nil (some ⟨v90.heap.size, 0, none⟩) 5) (hd.ext h.ext).at_.caps.row hcl.symm (fun _ => rfl) rfl rfl (by decide) (by show (_ + _) * 40 ≤ _; simp; omega) plain_cap' (fun tv104 v104 h hv104 nv104 => ?_)
            refine ⟨⟨_, h.cell 5 rfl rfl, rfl⟩, ?_⟩
            refine ⟨?_, trivial⟩
            refine h.put 1 rfl rfl rfl (fun v105 h nv105 => ?_)
            exact ⟨_, _, tv104, _, rfl, ((((((h.dropAt 3).dropAt 2).fro 0 rfl).fro 1 rfl)).nil (some ⟨v91.heap.size, 0, none⟩) 4).nil (some ⟨w2.drew.heap.size, 0, none⟩) 2⟩
        · skip
          refine h.alloc (fun v106 h ev106 nv106 => ?_)
          refine ⟨⟨sc, h.cell 4 rfl rfl, rfl⟩, ⟨_, h.cell 4 rfl rfl, rfl⟩, ?_⟩
          refine ⟨?_, ?_, trivial⟩
          · skip
            refine SH.appendR (f := DCap.cells) (l := []) (us := d.Caps) ((h.dropAt 1).nil (some ⟨v90.heap.size, 0, none⟩) 5) (hd.ext h.ext).at_.caps.row hcl.symm (fun _ => rfl) rfl rfl (by decide) (by show (_ + _) * 40 ≤ _; simp; omega) plain_cap' (fun tv107 v107 h hv107 nv107 => ?_)
            refine ⟨⟨_, h.cell 4 rfl rfl, rfl⟩, ?_⟩
            refine ⟨?_, trivial⟩
            refine h.alloc (fun v108 h ev108 nv108 => ?_)
            refine ⟨⟨sc, h.cell 5 rfl rfl, rfl⟩, ⟨_, h.cell 5 rfl rfl, rfl⟩, ?_⟩
            refine ⟨?_, trivial⟩
            refine h.put 2 rfl rfl rfl (fun v109 h nv109 => ?_)
            exact ⟨_, _, tv107, _, rfl, ((((((h.dropAt 3).dropAt 0).fro 0 rfl).fro 1 rfl)).nil (some ⟨v107.heap.size, 0, none⟩) 4).nil (some ⟨w2.drew.heap.size, 0, none⟩) 2⟩
          · skip
            refine h.alloc (fun v110 h ev110 nv110 => ?_)
            refine ⟨⟨sc, h.cell 5 rfl rfl, rfl⟩, ⟨_, h.cell 5 rfl rfl, rfl⟩, ?_⟩
            refine ⟨?_, trivial⟩
            refine SH.appendR (f := DCap.cells) (l := []) (us := d.Caps) ((h.dropAt 2).nil (some ⟨v90.heap.size, 0, none⟩) 5) (hd.ext h.ext).at_.caps.row hcl.symm (fun _ => rfl) rfl rfl (by decide) (by show (_ + _) * 40 ≤ _; simp; omega) plain_cap' (fun tv111 v111 h hv111 nv111 => ?_)
            refine ⟨⟨_, h.cell 5 rfl rfl, rfl⟩, ?_⟩
            refine ⟨?_, trivial⟩
            refine h.put 2 rfl rfl rfl (fun v112 h nv112 => ?_)
            exact ⟨_, _, tv111, _, rfl, ((((((h.dropAt 3).dropAt 1).fro 0 rfl).fro 1 rfl)).nil (some ⟨v106.heap.size, 0, none⟩) 4).nil (some ⟨w2.drew.heap.size, 0, none⟩) 2⟩
      · skip
        refine h.alloc (fun v113 h ev113 nv113 => ?_)
        refine ⟨⟨sc, h.cell 3 rfl rfl, rfl⟩, ⟨_, h.cell 3 rfl rfl, rfl⟩, ?_⟩
        refine ⟨?_, ?_, trivial⟩
        · skip
          refine h.alloc (fun v114 h ev114 nv114 => ?_)
          refine ⟨⟨sc, h.cell 4 rfl rfl, rfl⟩, ⟨_, h.cell 4 rfl rfl, rfl⟩, ?_⟩
          refine ⟨?_, ?_, trivial⟩
          · skip
            refine SH.appendR (f := DCap.cells) (l := []) (us := d.Caps) ((h.dropAt 0).nil (some ⟨v113.heap.size, 0, none⟩) 5) (hd.ext h.ext).at_.caps.row hcl.symm (fun _ => rfl) rfl rfl (by decide) (by show (_ + _) * 40 ≤ _; simp; omega) plain_cap' (fun tv115 v115 h hv115 nv115 => ?_)
            refine ⟨⟨_, h.cell 4 rfl rfl, rfl⟩, ?_⟩
            refine ⟨?_, trivial⟩
            refine h.alloc (fun v116 h ev116 nv116 => ?_)
            refine ⟨⟨sc, h.cell 5 rfl rfl, rfl⟩, ⟨_, h.cell 5 rfl rfl, rfl⟩, ?_⟩
            refine ⟨?_, trivial⟩
            refine h.put 0 rfl rfl rfl (fun v117 h nv117 => ?_)
            exact ⟨_, _, tv115, _, rfl, ((((h.dropAt 3).dropAt 2)).nil (some ⟨v90.heap.size, 0, none⟩) 4).nil (some ⟨w2.drew.heap.size, 0, none⟩) 2⟩
          · skip
            refine h.alloc (fun v118 h ev118 nv118 => ?_)
            refine ⟨⟨sc, h.cell 5 rfl rfl, rfl⟩, ⟨_, h.cell 5 rfl rfl, rfl⟩, ?_⟩
            refine ⟨?_, trivial⟩
            refine SH.appendR (f := DCap.cells) (l := []) (us := d.Caps) ((h.dropAt 1).nil (some ⟨v113.heap.size, 0, none⟩) 5) (hd.ext h.ext).at_.caps.row hcl.symm (fun _ => rfl) rfl rfl (by decide) (by show (_ + _) * 40 ≤ _; simp; omega) plain_cap' (fun tv119 v119 h hv119 nv119 => ?_)
            refine ⟨⟨_, h.cell 5 rfl rfl, rfl⟩, ?_⟩
            refine ⟨?_, trivial⟩
            refine h.put 1 rfl rfl rfl (fun v120 h nv120 => ?_)
            exact ⟨_, _, tv119, _, rfl, ((((((h.dropAt 3).dropAt 2).fro 0 rfl).fro 1 rfl)).nil (some ⟨v90.heap.size, 0, none⟩) 4).nil (some ⟨w2.drew.heap.size, 0, none⟩) 2⟩
        · skip
          refine h.alloc (fun v121 h ev121 nv121 => ?_)
          refine ⟨⟨sc, h.cell 4 rfl rfl, rfl⟩, ⟨_, h.cell 4 rfl rfl, rfl⟩, ?_⟩
          refine ⟨?_, trivial⟩
          refine h.alloc (fun v122 h ev122 nv122 => ?_)
          refine ⟨⟨sc, h.cell 5 rfl rfl, rfl⟩, ⟨_, h.cell 5 rfl rfl, rfl⟩, ?_⟩
          refine ⟨?_, trivial⟩
          refine SH.appendR (f := DCap.cells) (l := []) (us := d.Caps) ((h.dropAt 0).nil (some ⟨v121.heap.size, 0, none⟩) 5) (hd.ext h.ext).at_.caps.row hcl.symm (fun _ => rfl) rfl rfl (by decide) (by show (_ + _) * 40 ≤ _; simp; omega) plain_cap' (fun tv123 v123 h hv123 nv123 => ?_)
          refine ⟨⟨_, h.cell 5 rfl rfl, rfl⟩, ?_⟩
          refine ⟨?_, trivial⟩
          refine h.put 1 rfl rfl rfl (fun v124 h nv124 => ?_)
          exact ⟨_, _, tv123, _, rfl, ((((((h.dropAt 3).dropAt 2).fro 0 rfl).fro 1 rfl)).nil (some ⟨v90.heap.size, 0, none⟩) 4).nil (some ⟨w2.drew.heap.size, 0, none⟩) 2⟩
      · skip
        refine h.alloc (fun v125 h ev125 nv125 => ?_)
        refine ⟨⟨sc, h.cell 3 rfl rfl, rfl⟩, ⟨_, h.cell 3 rfl rfl, rfl⟩, ?_⟩
        refine ⟨?_, ?_, trivial⟩
        · skip
          refine h.alloc (fun v126 h ev126 nv126 => ?_)
          refine ⟨⟨sc, h.cell 4 rfl rfl, rfl⟩, ⟨_, h.cell 4 rfl rfl, rfl⟩, ?_⟩
          refine ⟨?_, ?_, trivial⟩
          · skip
            refine SH.appendR (f := DCap.cells) (l := []) (us := d.Caps) ((h.dropAt 0).nil (some ⟨v125.heap.size, 0, none⟩) 5) (hd.ext h.ext).at_.caps.row hcl.symm (fun _ => rfl) rfl rfl (by decide) (by show (_ + _) * 40 ≤ _; simp; omega) plain_cap' (fun tv127 v127 h hv127 nv127 => ?_)
            refine ⟨⟨_, h.cell 4 rfl rfl, rfl⟩, ?_⟩
            refine ⟨?_, trivial⟩
            refine h.alloc (fun v128 h ev128 nv128 => ?_)
            refine ⟨⟨sc, h.cell 5 rfl rfl, rfl⟩, ⟨_, h.cell 5 rfl rfl, rfl⟩, ?_⟩
            refine ⟨?_, trivial⟩
            refine h.put 2 rfl rfl rfl (fun v129 h nv129 => ?_)
            exact ⟨_, _, tv127, _, rfl, ((((((h.dropAt 3).dropAt 0).fro 0 rfl).fro 1 rfl)).nil (some ⟨v127.heap.size, 0, none⟩) 4).nil (some ⟨w2.drew.heap.size, 0, none⟩) 2⟩
          · skip
            refine h.alloc (fun v130 h ev130 nv130 => ?_)
            refine ⟨⟨sc, h.cell 5 rfl rfl, rfl⟩, ⟨_, h.cell 5 rfl rfl, rfl⟩, ?_⟩
            refine ⟨?_, trivial⟩
            refine SH.appendR (f := DCap.cells) (l := []) (us := d.Caps) ((h.dropAt 1).nil (some ⟨v125.heap.size, 0, none⟩) 5) (hd.ext h.ext).at_.caps.row hcl.symm (fun _ => rfl) rfl rfl (by decide) (by show (_ + _) * 40 ≤ _; simp; omega) plain_cap' (fun tv131 v131 h hv131 nv131 => ?_)
            refine ⟨⟨_, h.cell 5 rfl rfl, rfl⟩, ?_⟩
            refine ⟨?_, trivial⟩
            refine h.put 2 rfl rfl rfl (fun v132 h nv132 => ?_)
            exact ⟨_, _, tv131, _, rfl, ((((((h.dropAt 3).dropAt 1).fro 0 rfl).fro 1 rfl)).nil (some ⟨v126.heap.size, 0, none⟩) 4).nil (some ⟨w2.drew.heap.size, 0, none⟩) 2⟩
        · skip
          refine h.alloc (fun v133 h ev133 nv133 => ?_)
          refine ⟨⟨sc, h.cell 4 rfl rfl, rfl⟩, ⟨_, h.cell 4 rfl rfl, rfl⟩, ?_⟩
          refine ⟨?_, trivial⟩
          refine h.alloc (fun v134 h ev134 nv134 => ?_)
          refine ⟨⟨sc, h.cell 5 rfl rfl, rfl⟩, ⟨_, h.cell 5 rfl rfl, rfl⟩, ?_⟩
          refine ⟨?_, trivial⟩
          refine SH.appendR (f := DCap.cells) (l := []) (us := d.Caps) ((h.dropAt 0).nil (some ⟨v133.heap.size, 0, none⟩) 5) (hd.ext h.ext).at_.caps.row hcl.symm (fun _ => rfl) rfl rfl (by decide) (by show (_ + _) * 40 ≤ _; simp; omega) plain_cap' (fun tv135 v135 h hv135 nv135 => ?_)
          refine ⟨⟨_, h.cell 5 rfl rfl, rfl⟩, ?_⟩
          refine ⟨?_, trivial⟩
          refine h.put 2 rfl rfl rfl (fun v136 h nv136 => ?_)
          exact ⟨_, _, tv135, _, rfl, ((((((h.dropAt 3).dropAt 1).fro 0 rfl).fro 1 rfl)).nil (some ⟨v125.heap.size, 0, none⟩) 4).nil (some ⟨w2.drew.heap.size, 0, none⟩) 2⟩
    · skip
      refine h.alloc (fun v137 h ev137 nv137 => ?_)
      refine ⟨⟨sc, h.cell 2 rfl rfl, rfl⟩, ⟨_, h.cell 2 rfl rfl, rfl⟩, ?_⟩
      refine ⟨?_, ?_, ?_, trivial⟩
      · skip
        refine h.alloc (fun v138 h ev138 nv138 => ?_)
        refine ⟨⟨sc, h.cell 3 rfl rfl, rfl⟩, ⟨_, h.cell 3 rfl rfl, rfl⟩, ?_⟩
        refine ⟨?_, ?_, ?_, trivial⟩
        · skip
          refine SH.appendR (f := DCap.cells) (l := []) (us := d.Caps) ((h.dropAt 0).nil (some ⟨v137.heap.size, 0, none⟩) 5) (hd.ext h.ext).at_.caps.row hcl.symm (fun _ => rfl) rfl rfl (by decide) (by show (_ + _) * 40 ≤ _; simp; omega) plain_cap' (fun tv139 v139 h hv139 nv139 => ?_)
          refine ⟨⟨_, h.cell 3 rfl rfl, rfl⟩, ?_⟩
          refine ⟨?_, ?_, trivial⟩
          · skip
            refine h.alloc (fun v140 h ev140 nv140 => ?_)
            refine ⟨⟨sc, h.cell 4 rfl rfl, rfl⟩, ⟨_, h.cell 4 rfl rfl, rfl⟩, ?_⟩
            refine ⟨?_, trivial⟩
            refine h.alloc (fun v141 h ev141 nv141 => ?_)
            refine ⟨⟨sc, h.cell 5 rfl rfl, rfl⟩, ⟨_, h.cell 5 rfl rfl, rfl⟩, ?_⟩
            refine ⟨?_, trivial⟩
            refine h.put 0 rfl rfl rfl (fun v142 h nv142 => ?_)
            exact ⟨_, _, tv139, _, rfl, ((((h.dropAt 3).dropAt 1)).nil (some ⟨w2.drew.heap.size, 0, none⟩) 4).nil (some ⟨v139.heap.size, 0, none⟩) 2⟩
          · skip
            refine h.alloc (fun v143 h ev143 nv143 => ?_)
            refine ⟨⟨sc, h.cell 4 rfl rfl, rfl⟩, ⟨_, h.cell 4 rfl rfl, rfl⟩, ?_⟩
            refine ⟨?_, trivial⟩
            refine h.alloc (fun v144 h ev144 nv144 => ?_)
            refine ⟨⟨sc, h.cell 5 rfl rfl, rfl⟩, ⟨_, h.cell 5 rfl rfl, rfl⟩, ?_⟩
            refine ⟨?_, trivial⟩
            refine h.put 1 rfl rfl rfl (fun v145 h nv145 => ?_)
            exact ⟨_, _, tv139, _, rfl, ((((h.dropAt 3).dropAt 0)).nil (some ⟨w2.drew.heap.size, 0, none⟩) 4).nil (some ⟨v143.heap.size, 0, none⟩) 2⟩
        · skip
          refine h.alloc (fun v146 h ev146 nv146 => ?_)
          refine ⟨⟨sc, h.cell 4 rfl rfl, rfl⟩, ⟨_, h.cell 4 rfl rfl, rfl⟩, ?_⟩
          refine ⟨?_, ?_, trivial⟩
          · skip
            refine SH.appendR (f := DCap.cells) (l := []) (us := d.Caps) ((h.dropAt 1).nil (some ⟨v137.heap.size, 0, none⟩) 5) (hd.ext h.ext).at_.caps.row hcl.symm (fun _ => rfl) rfl rfl (by decide) (by show (_ + _) * 40 ≤ _; simp; omega) plain_cap' (fun tv147 v147 h hv147 nv147 => ?_)
            refine ⟨⟨_, h.cell 4 rfl rfl, rfl⟩, ?_⟩
            refine ⟨?_, trivial⟩
            refine h.alloc (fun v148 h ev148 nv148 => ?_)
            refine ⟨⟨sc, h.cell 5 rfl rfl, rfl⟩, ⟨_, h.cell 5 rfl rfl, rfl⟩, ?_⟩
            refine ⟨?_, trivial⟩
            refine h.put 0 rfl rfl rfl (fun v149 h nv149 => ?_)
            exact ⟨_, _, tv147, _, rfl, ((((h.dropAt 3).dropAt 2)).nil (some ⟨w2.drew.heap.size, 0, none⟩) 4).nil (some ⟨v138.heap.size, 0, none⟩) 2⟩
          · skip
            refine h.alloc (fun v150 h ev150 nv150 => ?_)
            refine ⟨⟨sc, h.cell 5 rfl rfl, rfl⟩, ⟨_, h.cell 5 rfl rfl, rfl⟩, ?_⟩
            refine ⟨?_, trivial⟩
            refine SH.appendR (f := DCap.cells) (l := []) (us := d.Caps) ((h.dropAt 2).nil (some ⟨v137.heap.size, 0, none⟩) 5) (hd.ext h.ext).at_.caps.row hcl.symm (fun _ => rfl) rfl rfl (by decide) (by show (_ + _) * 40 ≤ _; simp; omega) plain_cap' (fun tv151 v151 h hv151 nv151 => ?_)
            refine ⟨⟨_, h.cell 5 rfl rfl, rfl⟩, ?_⟩
            refine ⟨?_, trivial⟩
            refine h.put 1 rfl rfl rfl (fun v152 h nv152 => ?_)
            exact ⟨_, _, tv151, _, rfl, ((((((h.dropAt 3).dropAt 2).fro 0 rfl).fro 1 rfl)).nil (some ⟨w2.drew.heap.size, 0, none⟩) 4).nil (some ⟨v138.heap.size, 0, none⟩) 2⟩
        · skip
          refine h.alloc (fun v153 h ev153 nv153 => ?_)
          refine ⟨⟨sc, h.cell 4 rfl rfl, rfl⟩, ⟨_, h.cell 4 rfl rfl, rfl⟩, ?_⟩
          refine ⟨?_, ?_, trivial⟩
          · skip
            refine SH.appendR (f := DCap.cells) (l := []) (us := d.Caps) ((h.dropAt 1).nil (some ⟨v137.heap.size, 0, none⟩) 5) (hd.ext h.ext).at_.caps.row hcl.symm (fun _ => rfl) rfl rfl (by decide) (by show (_ + _) * 40 ≤ _; simp; omega) plain_cap' (fun tv154 v154 h hv154 nv154 => ?_)
            refine ⟨⟨_, h.cell 4 rfl rfl, rfl⟩, ?_⟩
            refine ⟨?_, trivial⟩
            refine h.alloc (fun v155 h ev155 nv155 => ?_)
            refine ⟨⟨sc, h.cell 5 rfl rfl, rfl⟩, ⟨_, h.cell 5 rfl rfl, rfl⟩, ?_⟩
            refine ⟨?_, trivial⟩
            refine h.put 2 rfl rfl rfl (fun v156 h nv156 => ?_)
            exact ⟨_, _, tv154, _, rfl, ((((((h.dropAt 3).dropAt 0).fro 0 rfl).fro 1 rfl)).nil (some ⟨w2.drew.heap.size, 0, none⟩) 4).nil (some ⟨v154.heap.size, 0, none⟩) 2⟩
          · skip
            refine h.alloc (fun v157 h ev157 nv157 => ?_)
            refine ⟨⟨sc, h.cell 5 rfl rfl, rfl⟩, ⟨_, h.cell 5 rfl rfl, rfl⟩, ?_⟩
            refine ⟨?_, trivial⟩
            refine SH.appendR (f := DCap.cells) (l := []) (us := d.Caps) ((h.dropAt 2).nil (some ⟨v137.heap.size, 0, none⟩) 5) (hd.ext h.ext).at_.caps.row hcl.symm (fun _ => rfl) rfl rfl (by decide) (by show (_ + _) * 40 ≤ _; simp; omega) plain_cap' (fun tv158 v158 h hv158 nv158 => ?_)
            refine ⟨⟨_, h.cell 5 rfl rfl, rfl⟩, ?_⟩
            refine ⟨?_, trivial⟩
            refine h.put 2 rfl rfl rfl (fun v159 h nv159 => ?_)
            exact ⟨_, _, tv158, _, rfl, ((((((h.dropAt 3).dropAt 1).fro 0 rfl).fro 1 rfl)).nil (some ⟨w2.drew.heap.size, 0, none⟩) 4).nil (some ⟨v153.heap.size, 0, none⟩) 2⟩
      · skip
        refine h.alloc (fun v160 h ev160 nv160 => ?_)
        refine ⟨⟨sc, h.cell 3 rfl rfl, rfl⟩, ⟨_, h.cell 3 rfl rfl, rfl⟩, ?_⟩
        refine ⟨?_, ?_, trivial⟩
        · skip
          refine h.alloc (fun v161 h ev161 nv161 => ?_)
          refine ⟨⟨sc, h.cell 4 rfl rfl, rfl⟩, ⟨_, h.cell 4 rfl rfl, rfl⟩, ?_⟩
          refine ⟨?_, ?_, trivial⟩
          · skip
            refine SH.appendR (f := DCap.cells) (l := []) (us := d.Caps) ((h.dropAt 0).nil (some ⟨v160.heap.size, 0, none⟩) 5) (hd.ext h.ext).at_.caps.row hcl.symm (fun _ => rfl) rfl rfl (by decide) (by show (_ + _) * 40 ≤ _; simp; omega) plain_cap' (fun tv162 v162 h hv162 nv162 => ?_)
            refine ⟨⟨_, h.cell 4 rfl rfl, rfl⟩, ?_⟩
            refine ⟨?_, trivial⟩
            refine h.alloc (fun v163 h ev163 nv163 => ?_)
            refine ⟨⟨sc, h.cell 5 rfl rfl, rfl⟩, ⟨_, h.cell 5 rfl rfl, rfl⟩, ?_⟩
            refine ⟨?_, trivial⟩
            refine h.put 0 rfl rfl rfl (fun v164 h nv164 => ?_)
            exact ⟨_, _, tv162, _, rfl, ((((h.dropAt 3).dropAt 2)).nil (some ⟨w2.drew.heap.size, 0, none⟩) 4).nil (some ⟨v137.heap.size, 0, none⟩) 2⟩
          · skip
            refine h.alloc (fun v165 h ev165 nv165 => ?_)
            refine ⟨⟨sc, h.cell 5 rfl rfl, rfl⟩, ⟨_, h.cell 5 rfl rfl, rfl⟩, ?_⟩
            refine ⟨?_, trivial⟩
            refine SH.appendR (f := DCap.cells) (l := []) (us := d.Caps) ((h.dropAt 1).nil (some ⟨v160.heap.size, 0, none⟩) 5) (hd.ext h.ext).at_.caps.row hcl.symm (fun _ => rfl) rfl rfl (by decide) (by show (_ + _) * 40 ≤ _; simp; omega) plain_cap' (fun tv166 v166 h hv166 nv166 => ?_)
            refine ⟨⟨_, h.cell 5 rfl rfl, rfl⟩, ?_⟩
            refine ⟨?_, trivial⟩
            refine h.put 1 rfl rfl rfl (fun v167 h nv167 => ?_)
            exact ⟨_, _, tv166, _, rfl, ((((((h.dropAt 3).dropAt 2).fro 0 rfl).fro 1 rfl)).nil (some ⟨w2.drew.heap.size, 0, none⟩) 4).nil (some ⟨v137.heap.size, 0, none⟩) 2⟩
        · skip
          refine h.alloc (fun v168 h ev168 nv168 => ?_)
          refine ⟨⟨sc, h.cell 4 rfl rfl, rfl⟩, ⟨_, h.cell 4 rfl rfl, rfl⟩, ?_⟩
          refine ⟨?_, trivial⟩
          refine h.alloc (fun v169 h ev169 nv169 => ?_)
          refine ⟨⟨sc, h.cell 5 rfl rfl, rfl⟩, ⟨_, h.cell 5 rfl rfl, rfl⟩, ?_⟩
          refine ⟨?_, trivial⟩
          refine SH.appendR (f := DCap.cells) (l := []) (us := d.Caps) ((h.dropAt 0).nil (some ⟨v168.heap.size, 0, none⟩) 5) (hd.ext h.ext).at_.caps.row hcl.symm (fun _ => rfl) rfl rfl (by decide) (by show (_ + _) * 40 ≤ _; simp; omega) plain_cap' (fun tv170 v170 h hv170 nv170 => ?_)
          refine ⟨⟨_, h.cell 5 rfl rfl, rfl⟩, ?_⟩
          refine ⟨?_, trivial⟩
          refine h.put 1 rfl rfl rfl (fun v171 h nv171 => ?_)
          exact ⟨_, _, tv170, _, rfl, ((((((h.dropAt 3).dropAt 2).fro 0 rfl).fro 1 rfl)).nil (some ⟨w2.drew.heap.size, 0, none⟩) 4).nil (some ⟨v137.heap.size, 0, none⟩) 2⟩
      · skip
        refine h.alloc (fun v172 h ev172 nv172 => ?_)
        refine ⟨⟨sc, h.cell 3 rfl rfl, rfl⟩, ⟨_, h.cell 3 rfl rfl, rfl⟩, ?_⟩
        refine ⟨?_, ?_, trivial⟩
        · skip
          refine h.alloc (fun v173 h ev173 nv173 => ?_)
          refine ⟨⟨sc, h.cell 4 rfl rfl, rfl⟩, ⟨_, h.cell 4 rfl rfl, rfl⟩, ?_⟩
          refine ⟨?_, ?_, trivial⟩
          · skip
            refine SH.appendR (f := DCap.cells) (l := []) (us := d.Caps) ((h.dropAt 0).nil (some ⟨v172.heap.size, 0, none⟩) 5) (hd.ext h.ext).at_.caps.row hcl.symm (fun _ => rfl) rfl rfl (by decide) (by show (_ + _) * 40 ≤ _; simp; omega) plain_cap' (fun tv174 v174 h hv174 nv174 => ?_)
            refine ⟨⟨_, h.cell 4 rfl rfl, rfl⟩, ?_⟩
            refine ⟨?_, trivial⟩
            refine h.alloc (fun v175 h ev175 nv175 => ?_)
            refine ⟨⟨sc, h.cell 5 rfl rfl, rfl⟩, ⟨_, h.cell 5 rfl rfl, rfl⟩, ?_⟩
            refine ⟨?_, trivial⟩
            refine h.put 2 rfl rfl rfl (fun v176 h nv176 => ?_)
            exact ⟨_, _, tv174, _, rfl, ((((((h.dropAt 3).dropAt 0).fro 0 rfl).fro 1 rfl)).nil (some ⟨w2.drew.heap.size, 0, none⟩) 4).nil (some ⟨v174.heap.size, 0, none⟩) 2⟩
          · skip
            refine h.alloc (fun v177 h ev177 nv177 => ?_)
            refine ⟨⟨sc, h.cell 5 rfl rfl, rfl⟩, ⟨_, h.cell 5 rfl rfl, rfl⟩, ?_⟩
            refine ⟨?_, trivial⟩
            refine SH.appendR (f := DCap.cells) (l := []) (us := d.Caps) ((h.dropAt 1).nil (some ⟨v172.heap.size, 0, none⟩) 5) (hd.ext h.ext).at_.caps.row hcl.symm (fun _ => rfl) rfl rfl (by decide) (by show (_ + _) * 40 ≤ _; simp; omega) plain_cap' (fun tv178 v178 h hv178 nv178 => ?_)
            refine ⟨⟨_, h.cell 5 rfl rfl, rfl⟩, ?_⟩
            refine ⟨?_, trivial⟩
            refine h.put 2 rfl rfl rfl (fun v179 h nv179 => ?_)
            exact ⟨_, _, tv178, _, rfl, ((((((h.dropAt 3).dropAt 1).fro 0 rfl).fro 1 rfl)).nil (some ⟨w2.drew.heap.size, 0, none⟩) 4).nil (some ⟨v173.heap.size, 0, none⟩) 2⟩
        · skip
          refine h.alloc (fun v180 h ev180 nv180 => ?_)
          refine ⟨⟨sc, h.cell 4 rfl rfl, rfl⟩, ⟨_, h.cell 4 rfl rfl, rfl⟩, ?_⟩
          refine ⟨?_, trivial⟩
          refine h.alloc (fun v181 h ev181 nv181 => ?_)
          refine ⟨⟨sc, h.cell 5 rfl rfl, rfl⟩, ⟨_, h.cell 5 rfl rfl, rfl⟩, ?_⟩
          refine ⟨?_, trivial⟩
          refine SH.appendR (f := DCap.cells) (l := []) (us := d.Caps) ((h.dropAt 0).nil (some ⟨v180.heap.size, 0, none⟩) 5) (hd.ext h.ext).at_.caps.row hcl.symm (fun _ => rfl) rfl rfl (by decide) (by show (_ + _) * 40 ≤ _; simp; omega) plain_cap' (fun tv182 v182 h hv182 nv182 => ?_)
          refine ⟨⟨_, h.cell 5 rfl rfl, rfl⟩, ?_⟩
          refine ⟨?_, trivial⟩
          refine h.put 2 rfl rfl rfl (fun v183 h nv183 => ?_)
          exact ⟨_, _, tv182, _, rfl, ((((((h.dropAt 3).dropAt 1).fro 0 rfl).fro 1 rfl)).nil (some ⟨w2.drew.heap.size, 0, none⟩) 4).nil (some ⟨v172.heap.size, 0, none⟩) 2⟩
    · skip
      refine h.alloc (fun v184 h ev184 nv184 => ?_)
      refine ⟨⟨sc, h.cell 2 rfl rfl, rfl⟩, ⟨_, h.cell 2 rfl rfl, rfl⟩, ?_⟩
      refine ⟨?_, ?_, ?_, trivial⟩
      · skip
        refine h.alloc (fun v185 h ev185 nv185 => ?_)
        refine ⟨⟨sc, h.cell 3 rfl rfl, rfl⟩, ⟨_, h.cell 3 rfl rfl, rfl⟩, ?_⟩
        refine ⟨?_, ?_, ?_, trivial⟩
        · skip
          refine SH.appendR (f := DCap.cells) (l := []) (us := d.Caps) ((h.dropAt 0).nil (some ⟨v184.heap.size, 0, none⟩) 5) (hd.ext h.ext).at_.caps.row hcl.symm (fun _ => rfl) rfl rfl (by decide) (by show (_ + _) * 40 ≤ _; simp; omega) plain_cap' (fun tv186 v186 h hv186 nv186 => ?_)
          refine ⟨⟨_, h.cell 3 rfl rfl, rfl⟩, ?_⟩
          refine ⟨?_, ?_, trivial⟩
          · skip
            refine h.alloc (fun v187 h ev187 nv187 => ?_)
            refine ⟨⟨sc, h.cell 4 rfl rfl, rfl⟩, ⟨_, h.cell 4 rfl rfl, rfl⟩, ?_⟩
            refine ⟨?_, trivial⟩
            refine h.alloc (fun v188 h ev188 nv188 => ?_)
            refine ⟨⟨sc, h.cell 5 rfl rfl, rfl⟩, ⟨_, h.cell 5 rfl rfl, rfl⟩, ?_⟩
            refine ⟨?_, trivial⟩
            refine h.put 3 rfl rfl rfl (fun v189 h nv189 => ?_)
            exact ⟨_, _, tv186, _, rfl, ((((((h.dropAt 1).dropAt 0).fro 0 rfl).fro 1 rfl)).nil (some ⟨v187.heap.size, 0, none⟩) 4).nil (some ⟨v186.heap.size, 0, none⟩) 2⟩
          · skip
            refine h.alloc (fun v190 h ev190 nv190 => ?_)
            refine ⟨⟨sc, h.cell 4 rfl rfl, rfl⟩, ⟨_, h.cell 4 rfl rfl, rfl⟩, ?_⟩
            refine ⟨?_, trivial⟩
            refine h.alloc (fun v191 h ev191 nv191 => ?_)
            refine ⟨⟨sc, h.cell 5 rfl rfl, rfl⟩, ⟨_, h.cell 5 rfl rfl, rfl⟩, ?_⟩
            refine ⟨?_, trivial⟩
            refine h.put 3 rfl rfl rfl (fun v192 h nv192 => ?_)
            exact ⟨_, _, tv186, _, rfl, ((((((h.dropAt 1).dropAt 0).fro 0 rfl).fro 1 rfl)).nil (some ⟨v186.heap.size, 0, none⟩) 4).nil (some ⟨v190.heap.size, 0, none⟩) 2⟩
        · skip
          refine h.alloc (fun v193 h ev193 nv193 => ?_)
          refine ⟨⟨sc, h.cell 4 rfl rfl, rfl⟩, ⟨_, h.cell 4 rfl rfl, rfl⟩, ?_⟩
          refine ⟨?_, ?_, trivial⟩
          · skip
            refine SH.appendR (f := DCap.cells) (l := []) (us := d.Caps) ((h.dropAt 1).nil (some ⟨v184.heap.size, 0, none⟩) 5) (hd.ext h.ext).at_.caps.row hcl.symm (fun _ => rfl) rfl rfl (by decide) (by show (_ + _) * 40 ≤ _; simp; omega) plain_cap' (fun tv194 v194 h hv194 nv194 => ?_)
            refine ⟨⟨_, h.cell 4 rfl rfl, rfl⟩, ?_⟩
            refine ⟨?_, trivial⟩
            refine h.alloc (fun v195 h ev195 nv195 => ?_)
            refine ⟨⟨sc, h.cell 5 rfl rfl, rfl⟩, ⟨_, h.cell 5 rfl rfl, rfl⟩, ?_⟩
            refine ⟨?_, trivial⟩
            refine h.put 3 rfl rfl rfl (fun v196 h nv196 => ?_)
            exact ⟨_, _, tv194, _, rfl, ((((((h.dropAt 2).dropAt 0).fro 0 rfl).fro 1 rfl)).nil (some ⟨v194.heap.size, 0, none⟩) 4).nil (some ⟨v185.heap.size, 0, none⟩) 2⟩
          · skip
            refine h.alloc (fun v197 h ev197 nv197 => ?_)
            refine ⟨⟨sc, h.cell 5 rfl rfl, rfl⟩, ⟨_, h.cell 5 rfl rfl, rfl⟩, ?_⟩
            refine ⟨?_, trivial⟩
            refine SH.appendR (f := DCap.cells) (l := []) (us := d.Caps) ((h.dropAt 2).nil (some ⟨v184.heap.size, 0, none⟩) 5) (hd.ext h.ext).at_.caps.row hcl.symm (fun _ => rfl) rfl rfl (by decide) (by show (_ + _) * 40 ≤ _; simp; omega) plain_cap' (fun tv198 v198 h hv198 nv198 => ?_)
            refine ⟨⟨_, h.cell 5 rfl rfl, rfl⟩, ?_⟩
            refine ⟨?_, trivial⟩
            refine h.put 3 rfl rfl rfl (fun v199 h nv199 => ?_)
            exact ⟨_, _, tv198, _, rfl, ((((((h.dropAt 2).dropAt 1).fro 0 rfl).fro 1 rfl)).nil (some ⟨v193.heap.size, 0, none⟩) 4).nil (some ⟨v185.heap.size, 0, none⟩) 2⟩
        · skip
          refine h.alloc (fun v200 h ev200 nv200 => ?_)
          refine ⟨⟨sc, h.cell 4 rfl rfl, rfl⟩, ⟨_, h.cell 4 rfl rfl, rfl⟩, ?_⟩
          refine ⟨?_, ?_, trivial⟩
          · skip
            refine SH.appendR (f := DCap.cells) (l := []) (us := d.Caps) ((h.dropAt 1).nil (some ⟨v184.heap.size, 0, none⟩) 5) (hd.ext h.ext).at_.caps.row hcl.symm (fun _ => rfl) rfl rfl (by decide) (by show (_ + _) * 40 ≤ _; simp; omega) plain_cap' (fun tv201 v201 h hv201 nv201 => ?_)
            refine ⟨⟨_, h.cell 4 rfl rfl, rfl⟩, ?_⟩
            refine ⟨?_, trivial⟩
            refine h.alloc (fun v202 h ev202 nv202 => ?_)
            refine ⟨⟨sc, h.cell 5 rfl rfl, rfl⟩, ⟨_, h.cell 5 rfl rfl, rfl⟩, ?_⟩
            refine ⟨?_, trivial⟩
            refine h.put 3 rfl rfl rfl (fun v203 h nv203 => ?_)
            exact ⟨_, _, tv201, _, rfl, ((((((h.dropAt 2).dropAt 0).fro 0 rfl).fro 1 rfl)).nil (some ⟨v185.heap.size, 0, none⟩) 4).nil (some ⟨v201.heap.size, 0, none⟩) 2⟩
          · skip
            refine h.alloc (fun v204 h ev204 nv204 => ?_)
            refine ⟨⟨sc, h.cell 5 rfl rfl, rfl⟩, ⟨_, h.cell 5 rfl rfl, rfl⟩, ?_⟩
            refine ⟨?_, trivial⟩
            refine SH.appendR (f := DCap.cells) (l := []) (us := d.Caps) ((h.dropAt 2).nil (some ⟨v184.heap.size, 0, none⟩) 5) (hd.ext h.ext).at_.caps.row hcl.symm (fun _ => rfl) rfl rfl (by decide) (by show (_ + _) * 40 ≤ _; simp; omega) plain_cap' (fun tv205 v205 h hv205 nv205 => ?_)
            refine ⟨⟨_, h.cell 5 rfl rfl, rfl⟩, ?_⟩
            refine ⟨?_, trivial⟩
            refine h.put 3 rfl rfl rfl (fun v206 h nv206 => ?_)
            exact ⟨_, _, tv205, _, rfl, ((((((h.dropAt 2).dropAt 1).fro 0 rfl).fro 1 rfl)).nil (some ⟨v185.heap.size, 0, none⟩) 4).nil (some ⟨v200.heap.size, 0, none⟩) 2⟩
      · skip
        refine h.alloc (fun v207 h ev207 nv207 => ?_)
        refine ⟨⟨sc, h.cell 3 rfl rfl, rfl⟩, ⟨_, h.cell 3 rfl rfl, rfl⟩, ?_⟩
        refine ⟨?_, ?_, trivial⟩
        · skip
          refine h.alloc (fun v208 h ev208 nv208 => ?_)
          refine ⟨⟨sc, h.cell 4 rfl rfl, rfl⟩, ⟨_, h.cell 4 rfl rfl, rfl⟩, ?_⟩
          refine ⟨?_, ?_, trivial⟩
          · skip
            refine SH.appendR (f := DCap.cells) (l := []) (us := d.Caps) ((h.dropAt 0).nil (some ⟨v207.heap.size, 0, none⟩) 5) (hd.ext h.ext).at_.caps.row hcl.symm (fun _ => rfl) rfl rfl (by decide) (by show (_ + _) * 40 ≤ _; simp; omega) plain_cap' (fun tv209 v209 h hv209 nv209 => ?_)
            refine ⟨⟨_, h.cell 4 rfl rfl, rfl⟩, ?_⟩
            refine ⟨?_, trivial⟩
            refine h.alloc (fun v210 h ev210 nv210 => ?_)
            refine ⟨⟨sc, h.cell 5 rfl rfl, rfl⟩, ⟨_, h.cell 5 rfl rfl, rfl⟩, ?_⟩
            refine ⟨?_, trivial⟩
            refine h.put 3 rfl rfl rfl (fun v211 h nv211 => ?_)
            exact ⟨_, _, tv209, _, rfl, ((((((h.dropAt 2).dropAt 0).fro 0 rfl).fro 1 rfl)).nil (some ⟨v209.heap.size, 0, none⟩) 4).nil (some ⟨v184.heap.size, 0, none⟩) 2⟩
          · skip
            refine h.alloc (fun v212 h ev212 nv212 => ?_)
            refine ⟨⟨sc, h.cell 5 rfl rfl, rfl⟩, ⟨_, h.cell 5 rfl rfl, rfl⟩, ?_⟩
            refine ⟨?_, trivial⟩
            refine SH.appendR (f := DCap.cells) (l := []) (us := d.Caps) ((h.dropAt 1).nil (some ⟨v207.heap.size, 0, none⟩) 5) (hd.ext h.ext).at_.caps.row hcl.symm (fun _ => rfl) rfl rfl (by decide) (by show (_ + _) * 40 ≤ _; simp; omega) plain_cap' (fun tv213 v213 h hv213 nv213 => ?_)
            refine ⟨⟨_, h.cell 5 rfl rfl, rfl⟩, ?_⟩
            refine ⟨?_, trivial⟩
            refine h.put 3 rfl rfl rfl (fun v214 h nv214 => ?_)
            exact ⟨_, _, tv213, _, rfl, ((((((h.dropAt 2).dropAt 1).fro 0 rfl).fro 1 rfl)).nil (some ⟨v208.heap.size, 0, none⟩) 4).nil (some ⟨v184.heap.size, 0, none⟩) 2⟩
        · skip
          refine h.alloc (fun v215 h ev215 nv215 => ?_)
          refine ⟨⟨sc, h.cell 4 rfl rfl, rfl⟩, ⟨_, h.cell 4 rfl rfl, rfl⟩, ?_⟩
          refine ⟨?_, trivial⟩
          refine h.alloc (fun v216 h ev216 nv216 => ?_)
          refine ⟨⟨sc, h.cell 5 rfl rfl, rfl⟩, ⟨_, h.cell 5 rfl rfl, rfl⟩, ?_⟩
          refine ⟨?_, trivial⟩
          refine SH.appendR (f := DCap.cells) (l := []) (us := d.Caps) ((h.dropAt 0).nil (some ⟨v215.heap.size, 0, none⟩) 5) (hd.ext h.ext).at_.caps.row hcl.symm (fun _ => rfl) rfl rfl (by decide) (by show (_ + _) * 40 ≤ _; simp; omega) plain_cap' (fun tv217 v217 h hv217 nv217 => ?_)
          refine ⟨⟨_, h.cell 5 rfl rfl, rfl⟩, ?_⟩
          refine ⟨?_, trivial⟩
          refine h.put 3 rfl rfl rfl (fun v218 h nv218 => ?_)
          exact ⟨_, _, tv217, _, rfl, ((((((h.dropAt 2).dropAt 1).fro 0 rfl).fro 1 rfl)).nil (some ⟨v207.heap.size, 0, none⟩) 4).nil (some ⟨v184.heap.size, 0, none⟩) 2⟩
      · skip
        refine h.alloc (fun v219 h ev219 nv219 => ?_)
        refine ⟨⟨sc, h.cell 3 rfl rfl, rfl⟩, ⟨_, h.cell 3 rfl rfl, rfl⟩, ?_⟩
        refine ⟨?_, ?_, trivial⟩
        · skip
          refine h.alloc (fun v220 h ev220 nv220 => ?_)
          refine ⟨⟨sc, h.cell 4 rfl rfl, rfl⟩, ⟨_, h.cell 4 rfl rfl, rfl⟩, ?_⟩
          refine ⟨?_, ?_, trivial⟩
          · skip
            refine SH.appendR (f := DCap.cells) (l := []) (us := d.Caps) ((h.dropAt 0).nil (some ⟨v219.heap.size, 0, none⟩) 5) (hd.ext h.ext).at_.caps.row hcl.symm (fun _ => rfl) rfl rfl (by decide) (by show (_ + _) * 40 ≤ _; simp; omega) plain_cap' (fun tv221 v221 h hv221 nv221 => ?_)
            refine ⟨⟨_, h.cell 4 rfl rfl, rfl⟩, ?_⟩
            refine ⟨?_, trivial⟩
            refine h.alloc (fun v222 h ev222 nv222 => ?_)
            refine ⟨⟨sc, h.cell 5 rfl rfl, rfl⟩, ⟨_, h.cell 5 rfl rfl, rfl⟩, ?_⟩
            refine ⟨?_, trivial⟩
            refine h.put 3 rfl rfl rfl (fun v223 h nv223 => ?_)
            exact ⟨_, _, tv221, _, rfl, ((((((h.dropAt 2).dropAt 0).fro 0 rfl).fro 1 rfl)).nil (some ⟨v184.heap.size, 0, none⟩) 4).nil (some ⟨v221.heap.size, 0, none⟩) 2⟩
          · skip
            refine h.alloc (fun v224 h ev224 nv224 => ?_)
            refine ⟨⟨sc, h.cell 5 rfl rfl, rfl⟩, ⟨_, h.cell 5 rfl rfl, rfl⟩, ?_⟩
            refine ⟨?_, trivial⟩
            refine SH.appendR (f := DCap.cells) (l := []) (us := d.Caps) ((h.dropAt 1).nil (some ⟨v219.heap.size, 0, none⟩) 5) (hd.ext h.ext).at_.caps.row hcl.symm (fun _ => rfl) rfl rfl (by decide) (by show (_ + _) * 40 ≤ _; simp; omega) plain_cap' (fun tv225 v225 h hv225 nv225 => ?_)
            refine ⟨⟨_, h.cell 5 rfl rfl, rfl⟩, ?_⟩
            refine ⟨?_, trivial⟩
            refine h.put 3 rfl rfl rfl (fun v226 h nv226 => ?_)
            exact ⟨_, _, tv225, _, rfl, ((((((h.dropAt 2).dropAt 1).fro 0 rfl).fro 1 rfl)).nil (some ⟨v184.heap.size, 0, none⟩) 4).nil (some ⟨v220.heap.size, 0, none⟩) 2⟩
        · skip
          refine h.alloc (fun v227 h ev227 nv227 => ?_)
          refine ⟨⟨sc, h.cell 4 rfl rfl, rfl⟩, ⟨_, h.cell 4 rfl rfl, rfl⟩, ?_⟩
          refine ⟨?_, trivial⟩
          refine h.alloc (fun v228 h ev228 nv228 => ?_)
          refine ⟨⟨sc, h.cell 5 rfl rfl, rfl⟩, ⟨_, h.cell 5 rfl rfl, rfl⟩, ?_⟩
          refine ⟨?_, trivial⟩
          refine SH.appendR (f := DCap.cells) (l := []) (us := d.Caps) ((h.dropAt 0).nil (some ⟨v227.heap.size, 0, none⟩) 5) (hd.ext h.ext).at_.caps.row hcl.symm (fun _ => rfl) rfl rfl (by decide) (by show (_ + _) * 40 ≤ _; simp; omega) plain_cap' (fun tv229 v229 h hv229 nv229 => ?_)
          refine ⟨⟨_, h.cell 5 rfl rfl, rfl⟩, ?_⟩
          refine ⟨?_, trivial⟩
          refine h.put 3 rfl rfl rfl (fun v230 h nv230 => ?_)
          exact ⟨_, _, tv229, _, rfl, ((((((h.dropAt 2).dropAt 1).fro 0 rfl).fro 1 rfl)).nil (some ⟨v184.heap.size, 0, none⟩) 4).nil (some ⟨v219.heap.size, 0, none⟩) 2⟩
  clear h
  rintro (p3 : Option Addr) w5 ⟨a, tp0, tc, tq0, rfl, h⟩
  have h := (((((((h.fro 1 rfl).fro 5 rfl).fro 5 rfl).fro 4 rfl).fro 5 rfl).fro 5 rfl)).p1
  have h := SH.bagNil portA h
  have h : SH w w5 (rP tp0 [] :: bP [] :: rC tc d.Caps :: BI a d.Next tp0 tc tq0 :: BI b1 0 N0 N0 N0 :: BI b d.Next sp sc sq :: rQ tq0 [] :: []) := (((h.fro 1 rfl).fro 1 rfl).fro 2 rfl)
  refine LoopW.m1 (fun (i : Int) w' => ∃ (k : Nat) (ps : List RPort) (tp : Sl), i = k ∧ k ≤ d.Ports.length ∧ ps.map RPort.abs = d.Ports.take k ∧ SH w w' (rP tp ps :: bP ps :: rC tc d.Caps :: BI a d.Next tp tc tq0 :: BI b1 0 N0 N0 N0 :: BI b d.Next sp sc sq :: rQ tq0 [] :: [])) (fun (i : Int) _ => (d.Ports.length - i).toNat) ⟨0, [], tp0, rfl, by omega, rfl, h⟩ ?_
  clear h
  rintro (i : Int) w8 ⟨k, ps, tp, rfl, hk, hps, h⟩ J hJ
  have hpsl : ps.length = k := by have := congrArg List.length hps; rw [List.length_map, List.length_take] at this; omega
  refine ⟨sp, h.cell 5 rfl rfl, BIf.dec (fun hlt => ?_) (fun hge => ?_)⟩
  · have hget : d.Ports[k]? = some d.Ports[k] := List.getElem?_eq_getElem (by omega)
    have hmsgs := hd.wf.msgs _ (List.mem_of_getElem? hget)
    have hqf := hd.wf.queues _ (List.mem_of_getElem? hget)
    generalize d.Ports[k] = x at *
    obtain ⟨q, t, hq, c0, c1, hm⟩ := hd.at_.ports.get k x hget
    have hml := hm.len
    simp only [Int.toNat_natCast]
    rw [w64 (n := (k : Int) + 1) (by omega) (by omega)]
    refine ⟨sp, h.cell 5 rfl rfl, by omega, by omega, q, hq, _, h.ext.cell c0, ?_⟩
    refine h.alloc (fun w13 h e13 n13 => ?_)
    refine h.alloc (fun w14 h e14 n14 => ?_)
    refine h.put 0 rfl rfl rfl (fun w15 h n15 => ?_)
    have h := (SH.bagNil msgA (h.dropAt 1)).nil (some ⟨w8.heap.size, 0, none⟩) 3
    have h : SH w w15 (rM ⟨some ⟨w8.heap.size, 0, none⟩, 0, 0⟩ [] :: bM [] :: aB w13.heap.size (([.int .i64 x.Id, .slice (⟨some ⟨w8.heap.size, 0, none⟩, 0, 0⟩ : Sl).a (⟨some ⟨w8.heap.size, 0, none⟩, 0, 0⟩ : Sl).len (⟨some ⟨w8.heap.size, 0, none⟩, 0, 0⟩ : Sl).cap] : List Value).map Ce.v) :: rP tp ps :: bP ps :: rC tc d.Caps :: BI a d.Next tp tc tq0 :: BI b1 0 N0 N0 N0 :: BI b d.Next sp sc sq :: rQ tq0 [] :: []) := h
    generalize w13.heap.size = pb at *
    refine LoopW.m1 (fun (j : Int) w' => ∃ (m : Nat) (ms : List RMsg) (tm : Sl), j = m ∧ m ≤ x.Queue.length ∧ ms.map RMsg.abs = x.Queue.take m ∧ SH w w' (rM tm ms :: bM ms :: aB pb (([.int .i64 x.Id, .slice tm.a tm.len tm.cap] : List Value).map Ce.v) :: rP tp ps :: bP ps :: rC tc d.Caps :: BI a d.Next tp tc tq0 :: BI b1 0 N0 N0 N0 :: BI b d.Next sp sc sq :: rQ tq0 [] :: [])) (fun (j : Int) _ => (x.Queue.length - j).toNat) ⟨0, [], _, rfl, by omega, rfl, h⟩ ?_
    clear h
    rintro (j : Int) w18 ⟨m, ms, tm, rfl, hm1, hms, h⟩ J2 hJ2
    have hmsl : ms.length = m := by have := congrArg List.length hms; rw [List.length_map, List.length_take] at this; omega
    refine ⟨sp, h.cell 8 rfl rfl, by omega, by omega, q, hq, t, h.ext.cell c1, BIf.dec (fun hlt2 => ?_) (fun hge2 => ?_)⟩
    · have hget2 : x.Queue[m]? = some x.Queue[m] := List.getElem?_eq_getElem (by omega)
      generalize x.Queue[m] = y at *
      have hby0 := hmsgs y (List.mem_of_getElem? hget2)
      have hbl := hby0.few
      obtain ⟨q2, td, hq2, d0, d1, d2, hby⟩ := hm.get m y hget2
      have hyl := hby.len
      simp only [Int.toNat_natCast]
      rw [w64 (n := (m : Int) + 1) (by omega) (by omega)]
      refine ⟨sp, h.cell 8 rfl rfl, by omega, by omega, q, hq, t, h.ext.cell c1, by omega, by omega, q2, hq2, _, h.ext.cell d0, td, h.ext.cell d1, _, h.ext.cell d2, ?_⟩
      refine h.alloc (fun w29 h e29 n29 => ?_)
      refine h.put 0 rfl rfl rfl (fun w30 h n30 => ?_)
      refine h.alloc (fun w31 h e31 n31 => ?_)
      refine ⟨td, h.cell 1 rfl rfl, ?_⟩
      refine SH.appendN (k := .u8) (m := []) (us := y.Data) (h.drop.nil (some ⟨w30.heap.size, 0, none⟩) 1) (hby.ext h.ext).row rfl rfl (by decide) (by show (_ + _) * 1 ≤ _; simp; omega) (fun t33 w34 h ht33 _ => ?_)
      refine h.setV 1 rfl rfl (fun w35 h n35 => ?_)
      refine ⟨tm, h.cell 4 rfl rfl, _, h.cell 1 rfl rfl, t33, h.cell 1 rfl rfl, _, h.cell 1 rfl rfl, ?_⟩
      have h := (((h.dropAt 1).fro 0 rfl).fro 1 rfl)
      refine LetW_iff.2 (SH.appendR1 (f := RMsg.cells) (x := ⟨y.From, t33, y.Cap, y.Data⟩) h rfl rfl rfl (by decide) (by show (_ + _) * 40 ≤ _; omega) (plain_msg _) (fun tm2 w42 h htm2 _ => ?_))
      refine h.setV 3 rfl rfl (fun w43 h n43 => ?_)
      have h := SH.bagSnoc (f := msgA) (x := (⟨y.From, t33, y.Cap, y.Data⟩ : RMsg)) (((h.fro 0 rfl).fro 2 rfl).fro 2 rfl)
      refine hJ2 _ _ ⟨m + 1, ms ++ [⟨y.From, t33, y.Cap, y.Data⟩], tm2, by omega, by omega, ?_, h.p1⟩ (by omega)
      rw [List.map_append, hms, take_snoc' hget2]
      rfl
    · have hme : m = x.Queue.length := by omega
      rw [hme, List.take_length] at hms
      refine ⟨tp, h.cellP 6 rfl rfl, _, h.cell 2 rfl rfl, tm, h.cell 2 rfl rfl, ?_⟩
      have h : SH w w18 (portA ⟨x.Id, tm, ms⟩ :: _) := SH.allIn (As := [rM tm ms, bM ms]) h
      have h := ((((h.dropAt 1).fro 0 rfl).fro 1 rfl))
      refine LetW_iff.2 (SH.appendR1 (f := RPort.cells) (x := ⟨x.Id, tm, ms⟩) h rfl rfl rfl (by decide) (by show (_ + _) * 32 ≤ _; omega) (plain_port _) (fun tp2 w50 h htp2 _ => ?_))
      refine h.setVP (b := a) 4 rfl rfl (fun w52 h n52 => ?_)
      have h := SH.bagSnoc (f := portA) (x := (⟨x.Id, tm, ms⟩ : RPort)) (((h.fro 0 rfl).fro 2 rfl).fro 2 rfl)
      refine hJ _ _ ⟨k + 1, ps ++ [⟨x.Id, tm, ms⟩], tp2, by omega, by omega, ?_, h.p1⟩ (by omega)
      rw [List.map_append, hps, take_snoc' hget]
      show _ ++ [(⟨x.Id, ms.map RMsg.abs⟩ : DPort)] = _
      rw [hms]
  · have hke : k = d.Ports.length := by omega
    rw [hke, List.take_length] at hps
    have h := SH.bagNil pipeA (((((((h.fro 5 rfl).fro 5 rfl).fro 5 rfl).fro 5 rfl).fro 5 rfl).fro 5 rfl).fro 6 rfl)
    have h : SH w w8 (rQ tq0 [] :: bQ [] :: rP tp ps :: bP ps :: rC tc d.Caps :: BI a d.Next tp tc tq0 :: BI b1 0 N0 N0 N0 :: BI b d.Next sp sc sq :: []) := h.p1
    refine LoopW.m1 (fun (i : Int) w' => ∃ (k : Nat) (qs : List RPipe) (tq : Sl), i = k ∧ k ≤ d.Pipes.length ∧ qs.map RPipe.abs = d.Pipes.take k ∧ SH w w' (rQ tq qs :: bQ qs :: rP tp ps :: bP ps :: rC tc d.Caps :: BI a d.Next tp tc tq :: BI b1 0 N0 N0 N0 :: BI b d.Next sp sc sq :: [])) (fun (i : Int) _ => (d.Pipes.length - i).toNat) ⟨0, [], tq0, rfl, by omega, rfl, h⟩ ?_
    clear h hJ
    rintro (i : Int) w55 ⟨m, qs, tq, rfl, hm, hqs, h⟩ J hJ
    have hqsl : qs.length = m := by have := congrArg List.length hqs; rw [List.length_map, List.length_take] at this; omega
    refine ⟨sq, h.cell 7 rfl rfl, BIf.dec (fun hlt => ?_) (fun hge => ?_)⟩
    · have hget : d.Pipes[m]? = some d.Pipes[m] := List.getElem?_eq_getElem (by omega)
      have hby0 := hd.wf.pipes _ (List.mem_of_getElem? hget)
      have hbl := hby0.few
      generalize d.Pipes[m] = x at *
      obtain ⟨q, t, hq, c0, c1, c2, c3, hby⟩ := hd.at_.pipes.get m x hget
      have hyl := hby.len
      simp only [Int.toNat_natCast]
      rw [w64 (n := (m : Int) + 1) (by omega) (by omega)]
      refine ⟨sq, h.cell 7 rfl rfl, by omega, by omega, q, hq, _, h.ext.cell c0, _, h.ext.cell c1, _, h.ext.cell c2, t, h.ext.cell c3, ?_⟩
      refine h.alloc (fun w63 h e63 n63 => ?_)
      refine h.put 0 rfl rfl rfl (fun wb h nb => ?_)
      refine h.alloc (fun w65 h e65 n65 => ?_)
      refine ⟨t, h.cell 1 rfl rfl, ?_⟩
      refine SH.appendN (k := .u8) (m := []) (us := x.Data) (h.drop.nil (some ⟨wb.heap.size, 0, none⟩) 1) (hby.ext h.ext).row rfl rfl (by decide) (by show (_ + _) * 1 ≤ _; simp; omega) (fun t67 w68 h ht67 _ => ?_)
      refine h.setV 1 rfl rfl (fun w69 h n69 => ?_)
      refine ⟨tq, h.cellP 7 rfl rfl, _, h.cell 1 rfl rfl, _, h.cell 1 rfl rfl, _, h.cell 1 rfl rfl, t67, h.cell 1 rfl rfl, ?_⟩
      have h := (((h.dropAt 1).fro 0 rfl).fro 1 rfl)
      refine LetW_iff.2 (SH.appendR1 (f := RPipe.cells) (x := ⟨x.Id, x.Readers, x.Writers, t67, x.Data⟩) h rfl rfl rfl (by decide) (by show (_ + _) * 48 ≤ _; omega) (plain_pipe _) (fun tq2 w78 h htq2 _ => ?_))
      refine h.setVP (b := a) 6 rfl rfl (fun w80 h n80 => ?_)
      have h := SH.bagSnoc (f := pipeA) (x := (⟨x.Id, x.Readers, x.Writers, t67, x.Data⟩ : RPipe)) (((h.fro 0 rfl).fro 2 rfl).fro 2 rfl)
      refine hJ _ _ ⟨m + 1, qs ++ [⟨x.Id, x.Readers, x.Writers, t67, x.Data⟩], tq2, by omega, by omega, ?_, h.p1⟩ (by omega)
      rw [List.map_append, hqs, take_snoc' hget]
      rfl
    · have hme : m = d.Pipes.length := by omega
      rw [hme, List.take_length] at hqs
      refine ⟨_, h.cellP 5 rfl rfl, tp, h.cellP 5 rfl rfl, tc, h.cellP 5 rfl rfl, tq, h.cellP 5 rfl rfl, ?_⟩
      refine h.put 6 rfl rfl rfl (fun w86 h n86 => ?_)
      refine ⟨_, h.cell 6 rfl rfl, tp, h.cell 6 rfl rfl, tc, h.cell 6 rfl rfl, tq, h.cell 6 rfl rfl, ?_⟩
      refine ⟨tp, tc, tq, ⟨d.Next, ps, d.Caps, qs⟩, rfl, ?_, ((((((((h.dropAt 7).dropAt 6).dropAt 5).fro 1 rfl).fro 1 rfl).fro 4 rfl).fro 4 rfl).fro 4 rfl)⟩
      unfold RIpc.abs
      rw [hps, hqs]
set_option maxHeartbeats 2000000 in
theorem s37 {w : World} {sp sc sq td : Sl} {d : DIpc} {o : DIpcOp} (hd : ILent w sp sc sq d) (hb : ByAt w td o.Data) (hbs : o.Data.length ≤ 1048576) :
    CallW Try.prog 37 #[iV d.Next sp sc sq, .agg ⟨opV o td⟩] w (KSR w (stepA d o)) := by
  refine go37 (a0_0 := d.Next) (a0_1 := sp) (a0_2 := sc) (a0_3 := sq) (a1_0 := o.Kind) (a1_1 := o.Holder) (a1_2 := o.Id) (a1_3 := o.To) (a1_4 := o.Rights) (a1_5 := o.Cap) (a1_6 := o.N) (a1_7 := td) ?_
  unfold W37; (try delta qn ql qb qi qS qI qP qQ qR qU qA qC H37_0)
  have h := SH.start w
  refine h.alloc (fun w1 h e1 n1 => ?_)
  refine h.alloc (fun w2 h e2 n2 => ?_)
  refine h.alloc (fun w3 h e3 n3 => ?_)
  refine h.alloc (fun w4 h e4 n4 => ?_)
  have h : SH w w4 [BR w3.heap.size 0 0 N0 0, BI w2.heap.size 0 N0 N0 N0, BO w1.heap.size o td, BI w.heap.size d.Next sp sc sq] := h
  refine ⟨_, h.cell 3 rfl rfl, sp, h.cell 3 rfl rfl, sc, h.cell 3 rfl rfl, sq, h.cell 3 rfl rfl, (c10 (hd.ext h.ext).at_ hd.wf.pw.pipes).mono ?_⟩
  rintro _ w10 ⟨b11, rfl, hb11, e10⟩
  have h := h.to e10
  refine ⟨b11, rfl, ?_⟩
  by_cases hok : IOk d
  rotate_left
  · have hbf : b11 = false := by cases b11 with | false => rfl | true => exact absurd (hb11.1 rfl) hok
    have hres : stepA d o = (⟨0, [], [], []⟩, ⟨0, 0, [], 0⟩) := if_neg hok
    rw [hres]
    refine BIf.t (by rw [hbf]; rfl) ?_
    refine h.put 1 rfl rfl rfl (fun w12 h n12 => ?_)
    refine h.put 0 rfl rfl rfl (fun w13 h n13 => ?_)
    refine ⟨_, h.cell 1 rfl rfl, N0, h.cell 1 rfl rfl, N0, h.cell 1 rfl rfl, N0, h.cell 1 rfl rfl, _, h.cell 0 rfl rfl, _, h.cell 0 rfl rfl, N0, h.cell 0 rfl rfl, _, h.cell 0 rfl rfl, ?_⟩
    have h := (emptyS h.drop.drop.drop.drop).nil none 1
    exact ⟨N0, N0, N0, N0, ⟨0, [], [], []⟩, rfl, rfl, h⟩
  have hbt : b11 = true := hb11.2 hok
  have hres : stepA d o = stepI d o := if_pos hok
  rw [hres]
  refine BIf.f (by rw [hbt]; rfl) ?_
  have h := h.drew
  refine ⟨_, h.cell 3 rfl rfl, sp, h.cell 3 rfl rfl, sc, h.cell 3 rfl rfl, sq, h.cell 3 rfl rfl, _, h.cell 2 rfl rfl, _, h.cell 2 rfl rfl, _, h.cell 2 rfl rfl, _, h.cell 2 rfl rfl, _, h.cell 2 rfl rfl, _, h.cell 2 rfl rfl, _, h.cell 2 rfl rfl, td, h.cell 2 rfl rfl, (c76 (hd.ext h.ext)).mono ?_⟩
  rintro _ w35 ⟨tp, tc, tq, r, rfl, hr, g⟩
  have h := h.seq g
  have h : SH w w35 (rP tp r.Ports :: bP r.Ports :: rC tc r.Caps :: rQ tq r.Pipes :: bQ r.Pipes :: [BR w3.heap.size 0 0 N0 0, BI w2.heap.size 0 N0 N0 N0, BO w1.heap.size o td, BI w.heap.size d.Next sp sc sq]) := h
  refine ⟨_, tp, tc, tq, rfl, ⟨_, h.cell 7 rfl rfl, _, h.cell 7 rfl rfl, _, h.cell 7 rfl rfl, _, h.cell 7 rfl rfl, _, h.cell 7 rfl rfl, _, h.cell 7 rfl rfl, _, h.cell 7 rfl rfl, td, h.cell 7 rfl rfl, rfl⟩, ?_⟩
  have hs := s67 (F := [BR w3.heap.size 0 0 N0 0, BI w2.heap.size 0 N0 N0 N0, BO w1.heap.size o td, BI w.heap.size d.Next sp sc sq]) (r := r) (o := o) h (by rw [hr]; exact hd.wf) (by rw [hr]; exact hok) hb hbs
  rw [hr] at hs
  exact retS (F := []) (X := [BO w1.heap.size o td, BI w.heap.size d.Next sp sc sq]) hs
end Go.Proofs.Ytbimoajgofcmbaa

namespace Go.Proofs.Ytbimoajgofcmbaa
open Go Go.Den
def FrB (bs : List Nat) (lo hi : Nat) (w : World) (d : Dat) (cs : List Value) : Prop := OwnD w d bs cs ∧ bs.Nodup ∧ ∀ b, b ∈ bs → lo ≤ b ∧ b < hi
theorem FrB.fr {bs : List Nat} {lo hi : Nat} {w : World} {d : Dat} {cs : List Value} (h : FrB bs lo hi w d cs) : Fr lo hi w d cs := ⟨bs, h⟩
theorem FrB.only {bs : List Nat} {S : Nat → Prop} {lo hi : Nat} {w w' : World} {d : Dat} {cs : List Value} (h : FrB bs lo hi w d cs) (o : Only S w w') (hS : ∀ k, lo ≤ k → k < hi → ¬ S k) : FrB bs lo hi w' d cs := by
  obtain ⟨h1, h2, h3⟩ := h
  exact ⟨OwnD.only o _ _ _ (fun b hb => hS b (h3 b hb).1 (h3 b hb).2) h1, h2, h3⟩
theorem FrB.sib {bs : List Nat} {S : Nat → Prop} {lo hi : Nat} {w w' : World} {d : Dat} {cs : List Value} (h : FrB bs lo hi w d cs) (o : Only S w w') (hS : ∀ k, k ∈ bs → ¬ S k) : FrB bs lo hi w' d cs := by
  obtain ⟨h1, h2, h3⟩ := h
  exact ⟨OwnD.only o _ _ _ hS h1, h2, h3⟩
theorem FrB.ext {bs : List Nat} {lo hi : Nat} {w w' : World} {d : Dat} {cs : List Value} (h : FrB bs lo hi w d cs) (e : Ext w w') : FrB bs lo hi w' d cs := h.only e (fun _ _ _ => id)
theorem FrB.is {bs : List Nat} {lo hi : Nat} {w : World} {d : Dat} {cs : List Value} (h : FrB bs lo hi w d cs) : IsD w d cs := OwnD.is _ _ _ h.1
theorem fr2 {w0 w : World} {F : List Asr} {d1 d2 : Dat} {c1 c2 : List Value} (h : SH w0 w (aV d1.ce c1 :: aV d2.ce c2 :: F)) (hf1 : d1.fit) (hf2 : d2.fit) : ∃ b1 b2 : List Nat, FrB b1 w0.heap.size w.heap.size w d1 c1 ∧ FrB b2 w0.heap.size w.heap.size w d2 c2 ∧ ∀ k, k ∈ b1 → k ∈ b2 → False := by
  obtain ⟨H1, H2, h1, h2, h3⟩ := h.cut
  obtain ⟨H3, H4, rfl, h4, h5⟩ := h2
  have hnd := h3.nd
  rw [List.map_append, List.map_append, List.nodup_append] at hnd
  obtain ⟨n1, n2, n3⟩ := hnd
  have n4 := (List.nodup_append.1 n2).1
  refine ⟨H1.map (·.1), H3.map (·.1), ⟨ownD_of d1 h1 hf1 (fun x hx => h3.blk x (List.mem_append_left _ hx)), n1, fun b hb => ?_⟩, ⟨ownD_of d2 h4 hf2 (fun x hx => h3.blk x (List.mem_append_right _ (List.mem_append_left _ hx))), n4, fun b hb => ?_⟩, fun k hk1 hk2 => n3 k hk1 k (List.mem_append_left _ hk2) rfl⟩
  · obtain ⟨x, hx, rfl⟩ := List.mem_map.1 hb
    exact ⟨h3.own x (List.mem_append_left _ hx), (h3.blk x (List.mem_append_left _ hx)).lt⟩
  · obtain ⟨x, hx, rfl⟩ := List.mem_map.1 hb
    exact ⟨h3.own x (List.mem_append_right _ (List.mem_append_left _ hx)), (h3.blk x (List.mem_append_right _ (List.mem_append_left _ hx))).lt⟩
theorem wf_i64q {n : Int} (h0 : -9223372036854775808 ≤ n) (h1 : n ≤ 9223372036854775807) : (Lit.int .i64 n).wf = true := by
  simp only [Lit.wf, Bool.and_eq_true, decide_eq_true_eq]
  exact ⟨by show (-9223372036854775808 : Int) ≤ n; omega, by show n ≤ (9223372036854775807 : Int); omega⟩
theorem wf_u8q {n : Int} (h0 : 0 ≤ n) (h1 : n ≤ 255) : (Lit.int .u8 n).wf = true := by
  simp only [Lit.wf, Bool.and_eq_true, decide_eq_true_eq]
  exact ⟨by show (0 : Int) ≤ n; omega, by show n ≤ (255 : Int); omega⟩
theorem by_fit {l : List Int} (h : ∀ x, x ∈ l → 0 ≤ x ∧ x ≤ 255) (hl : l.length ≤ 1048576) : l.length ≤ maxLen ∧ ∀ d, d ∈ l.map (Dat.int .u8) → d.fit := by
  have hm : maxLen = 9223372036854775807 := rfl
  refine ⟨by omega, fun d hd => ?_⟩
  obtain ⟨x, hx, rfl⟩ := List.mem_map.1 hd
  have := h x hx
  simp only [Dat.fit]
  exact wf_u8q this.1 this.2
theorem j_fit {d : DIpc} (h : J0 d) (hn : d.Next ≤ 1099511627778) : d.dat.fit := by
  have hm : maxLen = 9223372036854775807 := rfl
  have hnx := h.nx
  have f1 := h.caps
  have f2 := h.ports
  have f3 := h.pipes
  simp only [DIpc.dat, Dat.fit, Dat.fits, List.length_map, fits_iff, List.mem_map]
  refine ⟨wf_i64q (by omega) (by omega), ⟨by omega, ?_⟩, ⟨by omega, ?_⟩, ⟨by omega, ?_⟩, trivial⟩
  · rintro e ⟨p, hp, rfl⟩
    have hj := h.port p hp
    have g1 := hj.id1
    have g2 := hj.idN
    have g3 := hj.few
    simp only [DPort.dat, Dat.fit, Dat.fits, List.length_map, fits_iff, List.mem_map]
    refine ⟨wf_i64q (by omega) (by omega), ⟨by omega, ?_⟩, trivial⟩
    rintro e ⟨m, hm2, rfl⟩
    obtain ⟨⟨m1, m2, m3, m4, m5⟩, m6⟩ := hj.msgs m hm2
    have hb := by_fit m6 (by omega)
    simp only [DMsg.dat, Dat.fit, Dat.fits, List.length_map, fits_iff]
    exact ⟨wf_i64q (by omega) (by omega), hb, wf_i64q (by omega) (by omega), trivial⟩
  · rintro e ⟨c, hc, rfl⟩
    have hj := h.cap c hc
    have g1 := hj.id1
    have g2 := hj.idN
    have g3 := hj.hold
    have g4 := hj.r1
    have g5 := hj.r7
    obtain ⟨p, hp, hpe⟩ := hj.port
    have g6 := (h.port p hp).id1
    have g7 := (h.port p hp).idN
    have g8 : 0 ≤ c.Parent ∧ c.Parent ≤ d.Next := by
      rcases hj.par with h0 | ⟨q, hq, h1, h2, _⟩
      · omega
      · have := (h.cap q hq).id1; have := (h.cap q hq).idN; omega
    simp only [DCap.dat, Dat.fit, Dat.fits]
    exact ⟨wf_i64q (by omega) (by omega), wf_i64q (by omega) (by omega), wf_i64q (by omega) (by omega), wf_i64q (by omega) (by omega), wf_i64q (by omega) (by omega), trivial⟩
  · rintro e ⟨p, hp, rfl⟩
    have hj := h.pipe p hp
    have g1 := hj.id1
    have g2 := hj.idN
    have g3 := hj.few
    have g4 := hj.r
    have g5 := hj.w
    have hb := by_fit hj.rng (by omega)
    simp only [DPipe.dat, Dat.fit, Dat.fits, List.length_map, fits_iff]
    exact ⟨wf_i64q (by omega) (by omega), wf_i64q (by omega) (by omega), wf_i64q (by omega) (by omega), hb, trivial⟩
theorem res_fit {r : DIpcRes} (h : ResJ r) : r.dat.fit := by
  have h1 := h.code
  have h2 := h.n
  have h3 := h.from_
  have h4 := h.few
  have hb := by_fit h.rng (by omega)
  simp only [DIpcRes.dat, Dat.fit, Dat.fits, List.length_map, fits_iff]
  exact ⟨wf_i64q (by omega) (by omega), wf_i64q (by omega) (by omega), hb, wf_i64q (by omega) (by omega), trivial⟩
theorem sorted_pw {α : Type} {f : α → Int} {l : List α} (h : ∀ i x, l[i]? = some x → ∀ z, 0 < i → l[i - 1]? = some z → f z < f x) : l.Pairwise (fun a b => f a < f b) := by
  have key : ∀ (n i j : Nat) (a b : α), j = i + n + 1 → l[i]? = some a → l[j]? = some b → f a < f b := by
    intro n
    induction n with
    | zero => intro i j a b hj ha hb; exact h j b hb a (by omega) (by rw [show j - 1 = i by omega]; exact ha)
    | succ n ih =>
      intro i j a b hj ha hb
      have hjl := (List.getElem?_eq_some_iff.1 hb).1
      obtain ⟨c, hc⟩ : ∃ c, l[j - 1]? = some c := ⟨_, List.getElem?_eq_getElem (by omega)⟩
      have h1 := ih i (j - 1) a c (by omega) ha hc
      have h2 := h j b hb c (by omega) hc
      omega
  exact List.pairwise_iff_getElem.2 (fun i j hi hj hij => key (j - i - 1) i j _ _ (by omega) (List.getElem?_eq_getElem hi) (List.getElem?_eq_getElem hj))
theorem iok_j {d : DIpc} (h : IOk d) (hw : IWf d) : J0 d ∧ HasJ d := by
  refine ⟨⟨h.next.1, h.caps, h.ports, h.pipes, sorted_pw (fun i x hx => (h.cap i x hx).sorted), sorted_pw (fun i x hx => (h.port i x hx).sorted), sorted_pw (fun i x hx => (h.pipe i x hx).sorted), fun c hc => ?_, fun p hp => ?_, fun p hp => ?_⟩, h.has⟩
  · obtain ⟨i, hi⟩ := List.getElem?_of_mem hc
    have hj := h.cap i c hi
    refine ⟨hj.id1, hj.idN, hj.hold, hj.r1, hj.r7, ?_, ?_⟩
    · have := hj.port
      rcases portIx_cases d c.Port with ⟨e1, _, _⟩ | ⟨k, p, _, e2, _, e4⟩
      · omega
      · exact ⟨p, List.mem_of_getElem? e2, e4⟩
    · rcases hj.par with h0 | ⟨k, p, hp⟩
      · exact .inl h0
      · have hid := ix_id hp.ix hp.at_
        exact .inr ⟨p, List.mem_of_getElem? hp.at_, hid, by rw [hid]; exact hp.lt, hp.port, hp.am⟩
  · obtain ⟨i, hi⟩ := List.getElem?_of_mem hp
    have hj := h.port i p hi
    refine ⟨hj.id1, hj.idN, hj.few, fun c hc he => ?_, fun c hc he => ?_, fun m hm => ⟨hj.msgs m hm, (hw.msgs p hp m hm).rng⟩⟩
    · have := hj.noCap
      rcases capIx_cases d p.Id with ⟨_, _, e3⟩ | ⟨k, _, e1, _⟩
      · exact e3 c hc he
      · omega
    · have := hj.noPipe
      rcases pipeIx_cases d p.Id with ⟨_, _, e3⟩ | ⟨k, _, e1, _⟩
      · exact e3 c hc he
      · omega
  · obtain ⟨i, hi⟩ := List.getElem?_of_mem hp
    have hj := h.pipe i p hi
    refine ⟨hj.id1, hj.idN, fun c hc he => ?_, hj.few, hj.r, hj.w, hj.pos, (hw.pipes p hp).rng⟩
    have := hj.noCap
    rcases capIx_cases d p.Id with ⟨_, _, e3⟩ | ⟨k, _, e1, _⟩
    · exact e3 c hc he
    · omega
theorem stepA_j {d : DIpc} {o : DIpcOp} (hw : IWf d) (hb : ∀ x, x ∈ o.Data → 0 ≤ x ∧ x ≤ 255) : J0 (stepA d o).1 ∧ HasJ (stepA d o).1 ∧ (stepA d o).1.Next ≤ 1099511627778 ∧ ResJ (stepA d o).2 := by
  unfold stepA
  split
  · rename_i h
    obtain ⟨hj, hh⟩ := iok_j h hw
    have hn := h.next.2
    have hs := step_j (o := o) hj hh hn hb
    exact ⟨hs.j, hs.has, by have := hs.nx; omega, hs.res⟩
  · exact ⟨j_empty.1, j_empty.2, by show (0 : Int) ≤ _; omega, resN_j (n := 0) (by omega) (by omega)⟩
theorem ilent_of {w : World} {cs : List Value} {d : DIpc} (h : IsD w d.dat cs) (hs : d.dat.sz ≤ 1048576) : ∃ sp sc sq : Sl, cs = [.int .i64 d.Next, .slice sp.a sp.len sp.cap, .slice sc.a sc.len sc.cap, .slice sq.a sq.len sq.cap] ∧ ILent w sp sc sq d := by
  obtain ⟨sp, sc, sq, rfl, hd, hpw, _, hcl⟩ := ipc_of h hs
  have h1 : d.dat.sz = 0 + (((d.Ports.map DPort.dat).length + Dat.szs (d.Ports.map DPort.dat)) + (((d.Caps.map DCap.dat).length + Dat.szs (d.Caps.map DCap.dat)) + (((d.Pipes.map DPipe.dat).length + Dat.szs (d.Pipes.map DPipe.dat)) + 0))) := rfl
  rw [List.length_map, List.length_map, List.length_map] at h1
  have hq : ∀ p, p ∈ d.Ports → (p.Queue.map DMsg.dat).length + Dat.szs (p.Queue.map DMsg.dat) ≤ 1048576 := fun p hp => by
    have g1 : p.dat.sz ≤ Dat.szs (d.Ports.map DPort.dat) := szs_mem (List.mem_map.2 ⟨p, hp, rfl⟩)
    have g2 : p.dat.sz = 0 + (((p.Queue.map DMsg.dat).length + Dat.szs (p.Queue.map DMsg.dat)) + 0) := rfl
    omega
  refine ⟨sp, sc, sq, rfl, hd, ⟨fun p hp m hm => ?_, fun p hp => ?_, hpw, ⟨by omega, by omega, by omega⟩, fun p hp => ?_⟩⟩
  · obtain ⟨i, hi⟩ := List.getElem?_of_mem hp
    obtain ⟨_, _, _, _, _, hms⟩ := hd.ports.get i p hi
    obtain ⟨j, hj⟩ := List.getElem?_of_mem hm
    obtain ⟨_, _, _, _, _, _, hby⟩ := hms.get j m hj
    refine ⟨hby.rng, ?_⟩
    have g1 : m.dat.sz ≤ Dat.szs (p.Queue.map DMsg.dat) := szs_mem (List.mem_map.2 ⟨m, hm, rfl⟩)
    have g2 : m.dat.sz = 0 + ((Dat.sl 1 (m.Data.map (Dat.int .u8))).sz + (0 + 0)) := rfl
    rw [sz_nums] at g2
    have := hq p hp
    omega
  · obtain ⟨i, hi⟩ := List.getElem?_of_mem hp
    obtain ⟨_, _, _, _, _, _, _, hby⟩ := hd.pipes.get i p hi
    refine ⟨hby.rng, ?_⟩
    have g1 : p.dat.sz ≤ Dat.szs (d.Pipes.map DPipe.dat) := szs_mem (List.mem_map.2 ⟨p, hp, rfl⟩)
    have g2 : p.dat.sz = 0 + (0 + (0 + ((Dat.sl 1 (p.Data.map (Dat.int .u8))).sz + 0))) := rfl
    rw [sz_nums] at g2
    omega
  · have := hq p hp
    rw [List.length_map] at this
    omega
theorem iop_of {o : DIpcOp} {w : World} {co : List Value} (h : IsD w o.dat co) (hs : o.dat.sz ≤ 1048576) : ∃ td : Sl, co = opV o td ∧ ByAt w td o.Data ∧ o.Data.length ≤ 1048576 := by
  obtain ⟨t, rfl, _, _, _, _, _, _, _, hd⟩ := cells_IpcOp (show IsD w (.st [.int .i64 o.Kind, .int .i64 o.Holder, .int .i64 o.Id, .int .i64 o.To, .int .i64 o.Rights, .int .i64 o.Cap, .int .i64 o.N, .sl 1 (o.Data.map (Dat.int .u8))]) co from h)
  have h2 : o.dat.sz = 0 + (0 + (0 + (0 + (0 + (0 + (0 + ((Dat.sl 1 (o.Data.map (Dat.int .u8))).sz + 0))))))) := rfl
  rw [sz_nums] at h2
  exact ⟨t, rfl, byAt_of hd (by omega), by omega⟩
theorem ipc_aV {w0 w : World} {tp tc tq : Sl} {r : RIpc} {F : List Asr} (h : SH w0 w (sP tp tc tq r ++ F)) : SH w0 w (aV r.abs.dat.ce [.int .i64 r.Next, .slice tp.a tp.len tp.cap, .slice tc.a tc.len tc.cap, .slice tq.a tq.len tq.cap] :: F) := by
  have h : SH w0 w (rP tp r.Ports :: aBag portA r.Ports :: rC tc r.Caps :: rQ tq r.Pipes :: aBag pipeA r.Pipes :: F) := h
  have h1 := close_ports h
  have h2 : SH w0 w (rQ tq r.Pipes :: aBag pipeA r.Pipes :: aRow tp 2 (r.abs.Ports.map (fun m => m.dat.ce)) :: rC tc r.Caps :: F) := (h1.fro 3 rfl).fro 3 rfl
  have h3 := close_pipes h2
  have h4 : SH w0 w (aRow tq 4 (r.abs.Pipes.map (fun m => m.dat.ce)) :: aV [] [] :: aRow tp 2 (r.abs.Ports.map (fun m => m.dat.ce)) :: rC tc r.Caps :: F) := h3.v0.p1
  have h5 : SH w0 w (rC tc r.Caps :: aV _ _ :: aRow tp 2 (r.abs.Ports.map (fun m => m.dat.ce)) :: F) := h4.vr.p2
  have h6 : SH w0 w (aRow tp 2 (r.abs.Ports.map (fun m => m.dat.ce)) :: aV _ _ :: F) := h5.vr.p1
  have h7 := (h6.vr).vx (.int .i64 r.Next)
  rw [ipc_ce]
  exact h7
theorem res_aV {w0 w : World} {t : Sl} {r : DIpcRes} {F : List Asr} (h : SH w0 w (rD t r.Data :: F)) : SH w0 w (aV r.dat.ce [.int .i64 r.Code, .int .i64 r.N, .slice t.a t.len t.cap, .int .i64 r.From] :: F) := by
  have h1 : SH w0 w (rD t r.Data :: aV _ _ :: F) := (h.v0.vx (.int .i64 r.From)).p1
  have h2 := ((h1.vr).vx (.int .i64 r.N)).vx (.int .i64 r.Code)
  rw [res_ce]
  exact h2
def IStepS (n : Nat) : Prop := ∀ {x : DIpc} {op : DIpcOp} {w : World} {cs co : List Value} (h : IsD w x.dat cs) (hs : x.dat.sz ≤ 1048576) (ho : IsD w op.dat co) (hos : op.dat.sz ≤ 1048576), CallW Try.prog n #[.agg ⟨cs⟩, .agg ⟨co⟩] w (fun v w' => ∃ y0 y1 : List Value, ∃ bs0 bs1 : List Nat, v = .tuple #[.agg ⟨y0⟩, .agg ⟨y1⟩] ∧ FrB bs0 w.heap.size w'.heap.size w' (stepA x op).1.dat y0 ∧ FrB bs1 w.heap.size w'.heap.size w' (stepA x op).2.dat y1 ∧ (∀ k, k ∈ bs0 → k ∈ bs1 → False) ∧ Ext w w')
theorem istep_post {x : DIpc} {op : DIpcOp} {w w' : World} {v : Value} (hw : IWf x) (hb : ∀ y, y ∈ op.Data → 0 ≤ y ∧ y ≤ 255) (h : KSR w (stepA x op) v w') : ∃ y0 y1 : List Value, ∃ bs0 bs1 : List Nat, v = .tuple #[.agg ⟨y0⟩, .agg ⟨y1⟩] ∧ FrB bs0 w.heap.size w'.heap.size w' (stepA x op).1.dat y0 ∧ FrB bs1 w.heap.size w'.heap.size w' (stepA x op).2.dat y1 ∧ (∀ k, k ∈ bs0 → k ∈ bs1 → False) ∧ Ext w w' := by
  obtain ⟨j1, _, j2, j3⟩ := stepA_j hw hb
  generalize stepA x op = res at *
  obtain ⟨tp, tc, tq, t, r, rfl, hr, h⟩ := h
  have e := h.ext
  have h1 : SH w w' (rP tp r.Ports :: aBag portA r.Ports :: rC tc r.Caps :: rQ tq r.Pipes :: aBag pipeA r.Pipes :: aV res.2.dat.ce [.int .i64 res.2.Code, .int .i64 res.2.N, .slice t.a t.len t.cap, .int .i64 res.2.From] :: []) := by
    have h2 := res_aV h
    exact (((((h2.fro 5 rfl).fro 5 rfl).fro 5 rfl).fro 5 rfl).fro 5 rfl)
  have h3 := ipc_aV (F := [_]) h1
  rw [hr] at h3
  obtain ⟨b1, b2, g1, g2, g3⟩ := fr2 h3 (j_fit j1 j2) (res_fit j3)
  exact ⟨_, _, b1, b2, rfl, g1, g2, g3, e⟩
theorem specIpcStep : IStepS 37 := fun h hs ho hos => by
  obtain ⟨sp, sc, sq, rfl, hd⟩ := ilent_of h hs
  obtain ⟨td, rfl, hb, hbs⟩ := iop_of ho hos
  exact (s37 hd hb hbs).mono (fun _ _ hv => istep_post hd.wf hb.rng hv)
theorem implIpcStep : IStepS 36 := fun h hs ho hos => by
  obtain ⟨sp, sc, sq, rfl, hd⟩ := ilent_of h hs
  obtain ⟨td, rfl, hb, hbs⟩ := iop_of ho hos
  exact (s36 hd hb hbs).mono (fun _ _ hv => istep_post hd.wf hb.rng hv)
theorem j_sz {d : DIpc} (h : J0 d) : d.dat.cntT ≤ 200000 := by
  have h2 : d.dat.cntT = 0 + (Dat.cnts (d.Ports.map DPort.dat) + (Dat.cnts (d.Caps.map DCap.dat) + (Dat.cnts (d.Pipes.map DPipe.dat) + 0))) := rfl
  have hp : ∀ l : List DPort, (∀ p, p ∈ l → PortJ d p) → Dat.cnts (l.map DPort.dat) ≤ 1000 * l.length := by
    intro l
    induction l with
    | nil => intro _; simp [Dat.cnts]
    | cons p r ih =>
      intro hl
      have hm : ∀ l : List DMsg, (∀ m, m ∈ l → MsgJ d m) → Dat.cnts (l.map DMsg.dat) ≤ 70 * l.length := by
        intro l
        induction l with
        | nil => intro _; simp [Dat.cnts]
        | cons m r ih =>
          intro hl
          have h1 : m.dat.cnt = 1 + (Dat.cnts (m.Data.map (Dat.int .u8)) + (1 + 0)) := rfl
          rw [nums_cnts] at h1
          have h3 := (hl m (by simp)).ok.2.2.1
          have h4 := ih (fun x hx => hl x (by simp [hx]))
          simp only [List.map_cons, Dat.cnts, List.length_cons, h1]; omega
      have h1 : p.dat.cnt = 1 + (Dat.cnts (p.Queue.map DMsg.dat) + 0) := rfl
      have h3 := hm p.Queue (hl p (by simp)).msgs
      have h5 := (hl p (by simp)).few
      have h4 := ih (fun x hx => hl x (by simp [hx]))
      simp only [List.map_cons, Dat.cnts, List.length_cons, h1]; omega
  have hq : ∀ l : List DPipe, (∀ p, p ∈ l → PipeJ d p) → Dat.cnts (l.map DPipe.dat) ≤ 600 * l.length := by
    intro l
    induction l with
    | nil => intro _; simp [Dat.cnts]
    | cons p r ih =>
      intro hl
      have h1 : p.dat.cnt = 1 + (1 + (1 + (Dat.cnts (p.Data.map (Dat.int .u8)) + 0))) := rfl
      rw [nums_cnts] at h1
      have h3 := (hl p (by simp)).few
      have h4 := ih (fun x hx => hl x (by simp [hx]))
      simp only [List.map_cons, Dat.cnts, List.length_cons, h1]; omega
  have h3 := hp d.Ports h.port
  have h4 := cap_cnts d.Caps
  have h5 := hq d.Pipes h.pipe
  have f1 := h.caps
  have f2 := h.ports
  have f3 := h.pipes
  omega
theorem istep_cnt {x : DIpc} {op : DIpcOp} {w : World} {cs co : List Value} (h : IsD w x.dat cs) (hs : x.dat.sz ≤ 1048576) (ho : IsD w op.dat co) (hos : op.dat.sz ≤ 1048576) : (stepA x op).1.dat.cntT ≤ 200000 ∧ (stepA x op).2.dat.cntT ≤ 2000 := by
  obtain ⟨sp, sc, sq, rfl, hd⟩ := ilent_of h hs
  obtain ⟨td, rfl, hb, hbs⟩ := iop_of ho hos
  obtain ⟨j1, _, _, j3⟩ := stepA_j hd.wf hb.rng
  refine ⟨j_sz j1, ?_⟩
  have h1 : (stepA x op).2.dat.cntT = 0 + (0 + (Dat.cnts ((stepA x op).2.Data.map (Dat.int .u8)) + (0 + 0))) := rfl
  rw [nums_cnts] at h1
  have := j3.few
  omega
theorem iop_cnt {op : DIpcOp} (hs : op.dat.sz ≤ 1048576) : op.dat.cntT ≤ 1048576 := by
  have h2 : op.dat.sz = 0 + (0 + (0 + (0 + (0 + (0 + (0 + ((Dat.sl 1 (op.Data.map (Dat.int .u8))).sz + 0))))))) := rfl
  have h1 : op.dat.cntT = 0 + (0 + (0 + (0 + (0 + (0 + (0 + (Dat.cnts (op.Data.map (Dat.int .u8)) + 0))))))) := rfl
  rw [sz_nums] at h2
  rw [nums_cnts] at h1
  omega
end Go.Proofs.Ytbimoajgofcmbaa

set_option maxRecDepth 4000
namespace Go.Proofs.Ytbimoajgofcmbaa
open Go Go.Den
theorem c111 {l : List Dat} {a0 : Sl} {k0 : Int} {w : World} (ht : ∀ e, e ∈ l → Has TyMsg e) (h : IsD w (.sl 3 l) [.slice a0.a a0.len a0.cap]) (hm : MarkedF TXT l k0) (h0 : 1 ≤ k0) (hk : k0 + Dat.cnts l ≤ 1099511627776) : CallW Try.prog 111 #[.slice a0.a a0.len a0.cap, .int .i64 k0] w (fun v w' => v = .int .i64 (k0 + Dat.cnts l) ∧ Ext w w') := by
  refine go111 ?_
  unfold W111; (try delta qn ql qb qi qS qI qP qQ qR qU qA qC)
  obtain ⟨hlen, hmax, _⟩ := isD_sl h
  have hmx : maxLen = 9223372036854775807 := rfl
  rw [hlen]
  refine LoopW.m2 (fun (x i : Int) w' => ∃ k : Nat, i = k ∧ k ≤ l.length ∧ x = k0 + Dat.cnts (l.take k) ∧ Ext w w') (fun _ (i : Int) _ => (l.length - i).toNat) ⟨0, rfl, by omega, by simp [Dat.cnts], Only.refl _ _⟩ ?_
  rintro (kx : Int) (i : Int) w4 ⟨k, rfl, hkl, hx, e4⟩ J hJ
  refine BIf.dec (fun hlt => ?_) (fun hge => ?_)
  · obtain ⟨d, hd⟩ : ∃ d, l[k]? = some d := ⟨_, List.getElem?_eq_getElem (by omega)⟩
    have hcg := cnts_get hd
    have hct := cnts_take hd
    have hmd := markedF_get hm hd
    rw [← hx] at hmd
    have ht0 := ht d (mem_get hd)
    obtain ⟨p, es, hp, he, hc, his⟩ := isD_at (IsD.ext e4 _ _ h) hd
    obtain ⟨x_0, l_1, x_2, rfl, t_1⟩ := has_Msg ht0
    obtain ⟨s_1, rfl, ws_0, is_1, ws_2⟩ := cells_Msg his
    simp only [Dat.cnt, Dat.cnts] at hcg hct
    simp only [Marked, MarkedF, Dat.cnt, Dat.cnts] at hmd
    obtain ⟨m_0, m_1, m_2, _⟩ := hmd
    try simp (disch := omega) only [w64]
    refine ⟨by omega, by omega, p, hp, _, hc 0 _ rfl, BIf.f (by rw [m_0, w64 (by omega) (by omega)]; first | (simp; done) | (simp; omega)) ?_⟩
    refine ⟨by omega, by omega, p, hp, s_1, hc 1 _ rfl, (c69 (k0 := kx + 1) t_1 is_1 (markedF_at m_1 (by omega)) (by omega) (by omega)).mono ?_⟩
    rintro _ w5 ⟨rfl, e5⟩
    refine ⟨_, rfl, BIf.f (decide_eq_false (by omega)) ?_⟩
    try simp (disch := omega) only [w64]
    have hc := fun m v hv => e5.cell (hc m v hv)
    refine ⟨by omega, by omega, p, hp, _, hc 2 _ rfl, BIf.f (by rw [m_2, w64 (by omega) (by omega)]; first | (simp; done) | (simp; omega)) ?_⟩
    exact hJ _ _ _ ⟨k + 1, by omega, by omega, by rw [hct]; omega, Only.trans e4 e5⟩ (by omega)
  · rw [List.take_of_length_le (by omega)] at hx
    exact ⟨by rw [hx], e4⟩

theorem c80 {l : List Dat} {a0 : Sl} {k0 : Int} {w : World} (ht : ∀ e, e ∈ l → Has TyPort e) (h : IsD w (.sl 2 l) [.slice a0.a a0.len a0.cap]) (hm : MarkedF TXT l k0) (h0 : 1 ≤ k0) (hk : k0 + Dat.cnts l ≤ 1099511627776) : CallW Try.prog 80 #[.slice a0.a a0.len a0.cap, .int .i64 k0] w (fun v w' => v = .int .i64 (k0 + Dat.cnts l) ∧ Ext w w') := by
  refine go80 ?_
  unfold W80; (try delta qn ql qb qi qS qI qP qQ qR qU qA qC)
  obtain ⟨hlen, hmax, _⟩ := isD_sl h
  have hmx : maxLen = 9223372036854775807 := rfl
  rw [hlen]
  refine LoopW.m2 (fun (x i : Int) w' => ∃ k : Nat, i = k ∧ k ≤ l.length ∧ x = k0 + Dat.cnts (l.take k) ∧ Ext w w') (fun _ (i : Int) _ => (l.length - i).toNat) ⟨0, rfl, by omega, by simp [Dat.cnts], Only.refl _ _⟩ ?_
  rintro (kx : Int) (i : Int) w4 ⟨k, rfl, hkl, hx, e4⟩ J hJ
  refine BIf.dec (fun hlt => ?_) (fun hge => ?_)
  · obtain ⟨d, hd⟩ : ∃ d, l[k]? = some d := ⟨_, List.getElem?_eq_getElem (by omega)⟩
    have hcg := cnts_get hd
    have hct := cnts_take hd
    have hmd := markedF_get hm hd
    rw [← hx] at hmd
    have ht0 := ht d (mem_get hd)
    obtain ⟨p, es, hp, he, hc, his⟩ := isD_at (IsD.ext e4 _ _ h) hd
    obtain ⟨x_0, l_1, rfl, t_1⟩ := has_Port ht0
    obtain ⟨s_1, rfl, ws_0, is_1⟩ := cells_Port his
    simp only [Dat.cnt, Dat.cnts] at hcg hct
    simp only [Marked, MarkedF, Dat.cnt, Dat.cnts] at hmd
    obtain ⟨m_0, m_1, _⟩ := hmd
    try simp (disch := omega) only [w64]
    refine ⟨by omega, by omega, p, hp, _, hc 0 _ rfl, BIf.f (by rw [m_0, w64 (by omega) (by omega)]; first | (simp; done) | (simp; omega)) ?_⟩
    refine ⟨by omega, by omega, p, hp, s_1, hc 1 _ rfl, (c111 (k0 := kx + 1) t_1 is_1 (markedF_at m_1 (by omega)) (by omega) (by omega)).mono ?_⟩
    rintro _ w5 ⟨rfl, e5⟩
    refine ⟨_, rfl, BIf.f (decide_eq_false (by omega)) ?_⟩
    try simp (disch := omega) only [w64]
    have hc := fun m v hv => e5.cell (hc m v hv)
    exact hJ _ _ _ ⟨k + 1, by omega, by omega, by rw [hct]; omega, Only.trans e4 e5⟩ (by omega)
  · rw [List.take_of_length_le (by omega)] at hx
    exact ⟨by rw [hx], e4⟩

theorem c81 {l : List Dat} {a0 : Sl} {k0 : Int} {w : World} (ht : ∀ e, e ∈ l → Has TyPipe e) (h : IsD w (.sl 4 l) [.slice a0.a a0.len a0.cap]) (hm : MarkedF TXT l k0) (h0 : 1 ≤ k0) (hk : k0 + Dat.cnts l ≤ 1099511627776) : CallW Try.prog 81 #[.slice a0.a a0.len a0.cap, .int .i64 k0] w (fun v w' => v = .int .i64 (k0 + Dat.cnts l) ∧ Ext w w') := by
  refine go81 ?_
  unfold W81; (try delta qn ql qb qi qS qI qP qQ qR qU qA qC)
  obtain ⟨hlen, hmax, _⟩ := isD_sl h
  have hmx : maxLen = 9223372036854775807 := rfl
  rw [hlen]
  refine LoopW.m2 (fun (x i : Int) w' => ∃ k : Nat, i = k ∧ k ≤ l.length ∧ x = k0 + Dat.cnts (l.take k) ∧ Ext w w') (fun _ (i : Int) _ => (l.length - i).toNat) ⟨0, rfl, by omega, by simp [Dat.cnts], Only.refl _ _⟩ ?_
  rintro (kx : Int) (i : Int) w4 ⟨k, rfl, hkl, hx, e4⟩ J hJ
  refine BIf.dec (fun hlt => ?_) (fun hge => ?_)
  · obtain ⟨d, hd⟩ : ∃ d, l[k]? = some d := ⟨_, List.getElem?_eq_getElem (by omega)⟩
    have hcg := cnts_get hd
    have hct := cnts_take hd
    have hmd := markedF_get hm hd
    rw [← hx] at hmd
    have ht0 := ht d (mem_get hd)
    obtain ⟨p, es, hp, he, hc, his⟩ := isD_at (IsD.ext e4 _ _ h) hd
    obtain ⟨x_0, x_1, x_2, l_3, rfl, t_3⟩ := has_Pipe ht0
    obtain ⟨s_3, rfl, ws_0, ws_1, ws_2, is_3⟩ := cells_Pipe his
    simp only [Dat.cnt, Dat.cnts] at hcg hct
    simp only [Marked, MarkedF, Dat.cnt, Dat.cnts] at hmd
    obtain ⟨m_0, m_1, m_2, m_3, _⟩ := hmd
    try simp (disch := omega) only [w64]
    refine ⟨by omega, by omega, p, hp, _, hc 0 _ rfl, BIf.f (by rw [m_0, w64 (by omega) (by omega)]; first | (simp; done) | (simp; omega)) ?_⟩
    refine ⟨by omega, by omega, p, hp, _, hc 1 _ rfl, BIf.f (by rw [m_1, w64 (by omega) (by omega)]; first | (simp; done) | (simp; omega)) ?_⟩
    refine ⟨by omega, by omega, p, hp, _, hc 2 _ rfl, BIf.f (by rw [m_2, w64 (by omega) (by omega)]; first | (simp; done) | (simp; omega)) ?_⟩
    refine ⟨by omega, by omega, p, hp, s_3, hc 3 _ rfl, (c69 (k0 := kx + 1 + 1 + 1) t_3 is_3 (markedF_at m_3 (by omega)) (by omega) (by omega)).mono ?_⟩
    rintro _ w5 ⟨rfl, e5⟩
    refine ⟨_, rfl, BIf.f (decide_eq_false (by omega)) ?_⟩
    try simp (disch := omega) only [w64]
    have hc := fun m v hv => e5.cell (hc m v hv)
    exact hJ _ _ _ ⟨k + 1, by omega, by omega, by rw [hct]; omega, Only.trans e4 e5⟩ (by omega)
  · rw [List.take_of_length_le (by omega)] at hx
    exact ⟨by rw [hx], e4⟩

theorem c44 {d : Dat} {cs : List Value} {k0 : Int} {w : World} (ht : Has TyIpc d) (h : IsD w d cs) (hm : MarkedT TXT d k0) (h0 : 1 ≤ k0) (hk : k0 + d.cntT ≤ 1099511627776) : CallW Try.prog 44 #[.agg ⟨cs⟩, .int .i64 k0] w (fun v w' => v = .int .i64 (k0 + d.cntT) ∧ Ext w w') := by
 obtain ⟨x_0, l_1, l_2, l_3, rfl, t_1, t_2, t_3⟩ := has_Ipc ht
 obtain ⟨s_1, s_2, s_3, rfl, ws_0, is_1, is_2, is_3⟩ := cells_Ipc h
 simp only [Dat.cntT, Dat.cntTs] at hk
 simp only [MarkedT, MarkedTF, Dat.cntT, Dat.cntTs] at hm
 obtain ⟨_, m_1, m_2, m_3, _⟩ := hm
 refine go44 ?_
 unfold W44; (try delta qn ql qb qi qS qI qP qQ qR qU qA qC)
 refine alloc_step (fun w1 e hb n1 => ?_)
 refine ⟨s_1, hb.cell 1, (c80 (k0 := k0) t_1 (IsD.ext e _ _ is_1) (markedF_at m_1 (by omega)) (by omega) (by omega)).mono ?_⟩
 rintro _ w3 ⟨rfl, e3⟩
 have hb := hb.ext e3
 have e := Only.trans e e3
 refine ⟨_, rfl, BIf.f (decide_eq_false (by omega)) ?_⟩
 refine ⟨s_2, hb.cell 2, (c19 (k0 := k0 + (Dat.cnts l_1 : Nat)) t_2 (IsD.ext e _ _ is_2) (markedF_at m_2 (by omega)) (by omega) (by omega)).mono ?_⟩
 rintro _ w4 ⟨rfl, e4⟩
 have hb := hb.ext e4
 have e := Only.trans e e4
 refine ⟨_, rfl, BIf.f (decide_eq_false (by omega)) ?_⟩
 refine ⟨s_3, hb.cell 3, (c81 (k0 := k0 + (Dat.cnts l_1 : Nat) + (Dat.cnts l_2 : Nat)) t_3 (IsD.ext e _ _ is_3) (markedF_at m_3 (by omega)) (by omega) (by omega)).mono ?_⟩
 rintro _ w5 ⟨rfl, e5⟩
 have hb := hb.ext e5
 have e := Only.trans e e5
 refine ⟨_, rfl, BIf.f (decide_eq_false (by omega)) ?_⟩
 exact ⟨by congr 1 <;> simp only [Dat.cntT, Dat.cntTs] <;> omega, e⟩

end Go.Proofs.Ytbimoajgofcmbaa
