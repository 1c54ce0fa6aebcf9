/- Part 6 of 6: plain readings of code, rules for them, and a proof over them, joined by a program. Conditions: none. -/
import Derived.Test.YtbimoajgofcmbaaIcRun5
import Derived.Test.YtbimoajgofcmbaaRows
import Derived.WalkKit
import Derived.ProofKit
import Derived.OpenShut
import Derived.ShutString
import Derived.ChangeOld
import Derived.Below
import Derived.Carry
import Derived.SizedLaws
/- Ports, capabilities, pipes: the reference's Receive. Conditions: none. -/
set_option linter.unusedVariables false
set_option linter.unusedSimpArgs false
namespace Go.Proofs.Ytbimoajgofcmbaa
open Go Go.Den
theorem wf_setQ {d : DIpc} {k : Nat} {p : DPort} {q : List DMsg} (h : IWf d) (hq : ∀ m, m ∈ q → Byts m.Data) (hl : q.length ≤ 1048576) : IWf (setQ d k p q) := by
  refine ⟨fun x hx m hm => ?_, h.pipes, ⟨h.pw.pipes⟩, ⟨h.few.1, by show (d.Ports.set k _).length ≤ _; rw [List.length_set]; exact h.few.2.1, h.few.2.2⟩, fun x hx => ?_⟩
  · rcases List.mem_or_eq_of_mem_set hx with hx | rfl
    · exact h.msgs x hx m hm
    · exact hq m hm
  · rcases List.mem_or_eq_of_mem_set hx with hx | rfl
    · exact h.queues x hx
    · exact hl
set_option maxHeartbeats 2000000 in
theorem s118 {w0 w : World} {F : List Asr} {tp tc tq td : Sl} {r : RIpc} {o : DIpcOp} {c : DCap} {k0 : Nat} (h : SH w0 w (sP tp tc tq r ++ F)) (hw : IWf r.abs) (hi : IOk r.abs) (c2 : r.abs.Caps[k0]? = some c) :
    CallW Try.prog 118 #[iV r.Next tp tc tq, .agg ⟨opV o td⟩, .agg ⟨c.cells⟩] w (KS w0 F (recvI r.abs o c)) := by
  refine go118 (a0_0 := r.Next) (a0_1 := tp) (a0_2 := tc) (a0_3 := tq) (a1_0 := o.Kind) (a1_1 := o.Holder) (a1_2 := o.Id) (a1_3 := o.To) (a1_4 := o.Rights) (a1_5 := o.Cap) (a1_6 := o.N) (a1_7 := td) (a2_0 := c.Id) (a2_1 := c.Holder) (a2_2 := c.Port) (a2_3 := c.Rights) (a2_4 := c.Parent) ?_
  unfold W118
  have h : SH w0 w (rP tp r.Ports :: bP r.Ports :: rC tc r.Caps :: rQ tq r.Pipes :: bQ r.Pipes :: F) := h
  have hnx : 0 ≤ r.Next ∧ r.Next ≤ 1099511627776 := hi.next
  have hfc : r.Caps.length ≤ 128 := hi.caps
  have hfp : r.Ports.length ≤ 32 := by rw [← abs_ports]; exact hi.ports
  have htp := h.len 0 rfl
  have hcl := h.len 2 rfl
  rw [recs_len] at hcl htp
  refine h.alloc (fun w1 h e1 n1 => ?_)
  refine h.alloc (fun w2 h e2 n2 => ?_)
  refine h.alloc (fun w3 h e3 n3 => ?_)
  refine h.alloc (fun w4 h e4 n4 => ?_)
  refine h.alloc (fun w5 h e5 n5 => ?_)
  have h : SH w0 w5 (BR w4.heap.size 0 0 N0 0 :: BI w3.heap.size 0 N0 N0 N0 :: BC w2.heap.size c :: BO w1.heap.size o td :: BI w.heap.size r.Next tp tc tq :: rP tp r.Ports :: bP r.Ports :: rC tc r.Caps :: rQ tq r.Pipes :: bQ r.Pipes :: F) := h
  generalize w4.heap.size = rb at *
  generalize w3.heap.size = ib at *
  generalize w2.heap.size = cb at *
  generalize w1.heap.size = ob at *
  generalize w.heap.size = b at *
  refine ⟨_, h.cell 2 rfl rfl, c87.mono ?_⟩
  rintro _ w8 ⟨rfl, rfl⟩
  refine ⟨_, rfl, ?_⟩
  refine BIf.of (fun hx => errS (M := [_, _]) (by unfold recvI; rw [if_pos (by simpa using hx)]) h) (fun hx => ?_)
  have ha2 : ¬ amongB 2 c.Rights = false := by simpa using hx
  have hat : IpcAt w8 tp tc tq r.abs := ipc_at (F := F) (SH.drop (SH.drop (SH.drop (SH.drop (SH.drop h))))) hw
  refine ⟨_, h.cell 4 rfl rfl, tp, h.cell 4 rfl rfl, tc, h.cell 4 rfl rfl, tq, h.cell 4 rfl rfl, _, h.cell 2 rfl rfl, (c85 hat).mono ?_⟩
  rintro _ w40 ⟨rfl, e40⟩
  have h := h.to e40
  refine ⟨_, rfl, ?_⟩
  rcases portIx_cases r.abs c.Port with ⟨e1, e2, e3⟩ | ⟨kp, P, e1, e2, e3, e4⟩
  · have := (hi.cap k0 c c2).port
    omega
  obtain ⟨x, hx, rfl⟩ := map_get e2
  have hx : r.Ports[kp]? = some x := hx
  have hlk : kp < r.Ports.length := (List.getElem?_eq_some_iff.1 hx).1
  have hq8 : x.Q.length ≤ 8 := by have := (hi.port kp x.abs e2).few; have e : x.abs.Queue.length = x.Q.length := List.length_map ..; omega
  obtain ⟨q, hq⟩ := h.rowQ 5 rfl hx
  rw [e1]
  simp only [Int.toNat_natCast]
  refine ⟨tp, h.cell 4 rfl rfl, by omega, by omega, q, hq, x.q, h.rdR 5 rfl hq hx rfl, ?_⟩
  have g : SH w0 w40 (rM x.q x.Q :: bM x.Q :: bP (r.Ports.eraseIdx kp) :: BR rb 0 0 N0 0 :: BI ib 0 N0 N0 N0 :: BC cb c :: BO ob o td :: BI b r.Next tp tc tq :: rP tp r.Ports :: rC tc r.Caps :: rQ tq r.Pipes :: bQ r.Pipes :: F) := SH.allOut (As := [rM x.q x.Q, bM x.Q]) (((((((((h.front (n := 5) rfl).front (n := 5) rfl).front (n := 5) rfl).front (n := 5) rfl).front (n := 5) rfl).front (n := 5) rfl).front (n := 6) rfl)).bagOut hx)
  have hql := g.len 0 rfl
  have hqc := g.lenCap 0 rfl
  rw [recs_len] at hql
  have hqa : x.abs.Queue = x.Q.map RMsg.abs := rfl
  refine BIf.eq (fun h0 => errS (M := [_, _]) (by
    have : x.Q = [] := List.eq_nil_of_length_eq_zero (by omega)
    unfold recvI; rw [if_neg ha2, e3]; dsimp only; rw [hqa, this]; rfl) h) (fun h0 => ?_)
  clear h
  obtain ⟨m, rest, hQ⟩ : ∃ m rest, x.Q = m :: rest := by
    cases hxq : x.Q with
    | nil => rw [hxq] at hql; simp at hql; omega
    | cons m rest => exact ⟨m, rest, rfl⟩
  have hm0 : x.Q[0]? = some m := by rw [hQ]; rfl
  have hmok := (hi.port kp x.abs e2).msgs m.abs (List.mem_map.2 ⟨m, by rw [hQ]; simp, rfl⟩)
  have hmcap : 0 ≤ m.Cap := hmok.2.2.2.1
  have hmby := hw.msgs x.abs (List.mem_of_getElem? e2) m.abs (List.mem_map.2 ⟨m, by rw [hQ]; simp, rfl⟩)
  have hmbl : m.Data.length ≤ 1048576 := hmby.few
  obtain ⟨qm, hqm⟩ := g.rowQ 0 rfl hm0
  refine ⟨tp, g.cell 7 rfl rfl, by omega, by omega, q, hq, x.q, g.rdR 8 rfl hq hx rfl, by omega, by omega, qm, hqm, _, g.rdR 0 rfl hqm hm0 rfl, m.D, g.rdR 0 rfl hqm hm0 rfl, _, g.rdR 0 rfl hqm hm0 rfl, ?_⟩
  refine g.alloc (fun w76 g e76 n76 => ?_)
  refine g.put 0 rfl rfl rfl (fun w77 g n77 => ?_)
  generalize w40.heap.size = mb at *
  have g : SH w0 w77 (aB mb (m.cells.map Ce.v) :: rM x.q x.Q :: bM x.Q :: bP (r.Ports.eraseIdx kp) :: BR rb 0 0 N0 0 :: BI ib 0 N0 N0 N0 :: BC cb c :: BO ob o td :: BI b r.Next tp tc tq :: rP tp r.Ports :: rC tc r.Caps :: rQ tq r.Pipes :: bQ r.Pipes :: F) := g
  have g := g.drew
  refine ⟨tp, g.cell 8 rfl rfl, tp, g.cell 8 rfl rfl, by omega, by omega, q, hq, x.q, g.rdR 9 rfl hq hx rfl, by omega, by omega, ?_⟩
  refine g.alloc (fun w82 g e82 n82 => ?_)
  refine ⟨⟨x.q, g.rdR 10 rfl hq hx rfl, rfl⟩, ⟨tp, g.cell 9 rfl rfl, rfl⟩, ⟨tp, g.cell 9 rfl rfl, rfl⟩, ?_⟩
  have hsuf := RowAt.suf (f := RMsg.cells) (z := 3) (i := 1) (fun _ => rfl) (g.rowR 2 rfl) hql hqc (by omega)
  refine SH.appendR (f := RMsg.cells) (l := []) (us := x.Q.drop 1) (g.drop.nil (some ⟨w77.drew.heap.size, 0, none⟩) 3) hsuf (by simp; omega) (fun _ => rfl) rfl rfl (by decide) (by show (_ + _) * 40 ≤ _; simp; omega) plain_msg (fun q2 w87 g hq2l _ => ?_)
  refine ⟨⟨tp, g.cell 9 rfl rfl, rfl⟩, by omega, by omega, q, hq, ?_⟩
  have hdr : x.Q.drop 1 = rest := by rw [hQ]; rfl
  have g : SH w0 w87 (rM q2 rest :: aB mb (m.cells.map Ce.v) :: rM x.q x.Q :: bM x.Q :: bP (r.Ports.eraseIdx kp) :: BR rb 0 0 N0 0 :: BI ib 0 N0 N0 N0 :: BC cb c :: BO ob o td :: BI b r.Next tp tc tq :: rP tp (r.Ports.set kp x) :: rC tc r.Caps :: rQ tq r.Pipes :: bQ r.Pipes :: F) := by rw [← set_at hx, ← hdr]; exact g
  refine g.setR 10 (⟨x.Id, q2, rest⟩ : RPort) rfl hq hlk (by show 1 < 2; omega) rfl (fun w90 g n90 => ?_)
  have g : SH w0 w90 (rM q2 rest :: aB mb (m.cells.map Ce.v) :: rM x.q x.Q :: bM x.Q :: bP (r.Ports.eraseIdx kp) :: BR rb 0 0 N0 0 :: BI ib 0 N0 N0 N0 :: BC cb c :: BO ob o td :: BI b r.Next tp tc tq :: rP tp (r.Ports.set kp ⟨x.Id, q2, rest⟩) :: rC tc r.Caps :: rQ tq r.Pipes :: bQ r.Pipes :: F) := g
  rw [hQ] at g
  have g := SH.bagUn ((((g.dropAt 2).front (n := 1) rfl).front (n := 1) rfl).front (n := 2) rfl)
  have g : SH w0 w90 (rD m.D m.Data :: bM rest :: rM q2 rest :: aB mb (m.cells.map Ce.v) :: bP (r.Ports.eraseIdx kp) :: BR rb 0 0 N0 0 :: BI ib 0 N0 N0 N0 :: BC cb c :: BO ob o td :: BI b r.Next tp tc tq :: rP tp (r.Ports.set kp ⟨x.Id, q2, rest⟩) :: rC tc r.Caps :: rQ tq r.Pipes :: bQ r.Pipes :: F) := g
  have g := SH.bagIn (f := portA) (y := (⟨x.Id, q2, rest⟩ : RPort)) hx (SH.allIn (As := [rM q2 rest, bM rest]) (((((g.front (n := 3) rfl).front (n := 1) rfl).front (n := 4) rfl).front (n := 3) rfl).front (n := 4) rfl))
  have g := (((((((((g.front (n := 0) rfl).front (n := 8) rfl).front (n := 8) rfl).front (n := 8) rfl).front (n := 8) rfl).front (n := 8) rfl).front (n := 8) rfl).front (n := 8) rfl).front (n := 8) rfl)
  have hrr : ∃ rr : RIpc, rr = ⟨r.Next, r.Ports.set kp ⟨x.Id, q2, rest⟩, r.Caps, r.Pipes⟩ := ⟨_, rfl⟩
  have habs : (⟨r.Next, r.Ports.set kp ⟨x.Id, q2, rest⟩, r.Caps, r.Pipes⟩ : RIpc).abs = setQ r.abs kp x.abs (rest.map RMsg.abs) := by
    unfold RIpc.abs setQ
    rw [List.map_set]
    rfl
  have hw2 : IWf (⟨r.Next, r.Ports.set kp ⟨x.Id, q2, rest⟩, r.Caps, r.Pipes⟩ : RIpc).abs := by
    rw [habs]
    refine wf_setQ hw (fun y hy => hw.msgs x.abs (List.mem_of_getElem? e2) y ?_) ?_
    · rw [hqa, hQ]; exact List.mem_cons_of_mem _ hy
    · rw [List.length_map]; rw [hQ] at hq8; simp at hq8; omega
  have hres : recvI r.abs o c = (match capOf r.abs m.abs.Cap with
        | none => (setQ r.abs kp x.abs (rest.map RMsg.abs), (⟨0, 0, m.abs.Data, m.abs.From⟩ : DIpcRes))
        | some x2 => if 0 < m.abs.Cap ∧ r.abs.Caps.length < 128 then (addCap (setQ r.abs kp x.abs (rest.map RMsg.abs)) o.Holder x2.Port x2.Rights m.abs.Cap, ⟨0, r.abs.Next + 1, m.abs.Data, m.abs.From⟩) else (setQ r.abs kp x.abs (rest.map RMsg.abs), ⟨0, 0, m.abs.Data, m.abs.From⟩)) := by
    unfold recvI; rw [if_neg ha2, e3]; dsimp only; rw [hqa, hQ, e1, Int.toNat_natCast]; rfl
  rw [← habs] at hres
  generalize hps : r.Ports.set kp ⟨x.Id, q2, rest⟩ = ps at *
  have hpl : ps.length = r.Ports.length := by rw [← hps, List.length_set]
  have g : SH w0 w90 (rD m.D m.Data :: aB mb (m.cells.map Ce.v) :: BR rb 0 0 N0 0 :: BI ib 0 N0 N0 N0 :: BC cb c :: BO ob o td :: BI b r.Next tp tc tq :: rP tp ps :: bP ps :: rC tc r.Caps :: rQ tq r.Pipes :: bQ r.Pipes :: F) := g
  have g := g.drew
  refine JoinW.cut1 (fun (p : Option Addr) w' => ∃ (ab : Nat) (t : Sl), p = some ⟨ab, 0, none⟩ ∧ SH w0 w' (BR ab 0 0 t m.From :: rD t m.Data :: rD m.D m.Data :: aB mb (m.cells.map Ce.v) :: BR rb 0 0 N0 0 :: BI ib 0 N0 N0 N0 :: BC cb c :: BO ob o td :: BI b r.Next tp tc tq :: rP tp ps :: bP ps :: rC tc r.Caps :: rQ tq r.Pipes :: bQ r.Pipes :: F)) ?_ ?_
  · refine ⟨m.D, g.cell 1 rfl rfl, _, g.cell 1 rfl rfl, ?_, ?_, trivial⟩
    · refine g.alloc (fun w170 g e170 n170 => ?_)
      refine ⟨⟨_, g.cell 2 rfl rfl, rfl⟩, ⟨m.D, g.cell 2 rfl rfl, rfl⟩, ?_, ?_, trivial⟩
      · refine SH.appendN (k := .u8) (m := []) (us := m.Data) (g.drop.nil (some ⟨w90.drew.heap.size, 0, none⟩) 1) (g.rowN 1 rfl) rfl rfl (by decide) (by show (_ + _) * 1 ≤ _; simp; omega) (fun t180 w181 g ht180 _ => ?_)
        refine ⟨⟨_, g.cell 2 rfl rfl, rfl⟩, ?_, trivial⟩
        refine g.alloc (fun w183 g e183 n183 => ?_)
        refine ⟨⟨_, g.cell 3 rfl rfl, rfl⟩, ⟨m.D, g.cell 3 rfl rfl, rfl⟩, ?_, trivial⟩
        refine g.put 0 rfl rfl rfl (fun w186 g n186 => ?_)
        exact ⟨_, t180, rfl, g⟩
      · refine g.alloc (fun w173 g e173 n173 => ?_)
        refine ⟨⟨_, g.cell 3 rfl rfl, rfl⟩, ⟨m.D, g.cell 3 rfl rfl, rfl⟩, ?_, trivial⟩
        refine SH.appendN (k := .u8) (m := []) (us := m.Data) ((g.dropAt 1).nil (some ⟨w90.drew.heap.size, 0, none⟩) 1) (g.rowN 2 rfl) rfl rfl (by decide) (by show (_ + _) * 1 ≤ _; simp; omega) (fun t176 w177 g ht176 _ => ?_)
        refine ⟨⟨_, g.cell 3 rfl rfl, rfl⟩, ?_, trivial⟩
        refine g.put 1 rfl rfl rfl (fun w179 g n179 => ?_)
        exact ⟨_, t176, rfl, g.p1⟩
    · refine g.alloc (fun w160 g e160 n160 => ?_)
      refine ⟨⟨_, g.cell 2 rfl rfl, rfl⟩, ⟨m.D, g.cell 2 rfl rfl, rfl⟩, ?_, trivial⟩
      refine g.alloc (fun w163 g e163 n163 => ?_)
      refine ⟨⟨_, g.cell 3 rfl rfl, rfl⟩, ⟨m.D, g.cell 3 rfl rfl, rfl⟩, ?_, trivial⟩
      refine SH.appendN (k := .u8) (m := []) (us := m.Data) (g.drop.nil (some ⟨w160.heap.size, 0, none⟩) 1) (g.rowN 2 rfl) rfl rfl (by decide) (by show (_ + _) * 1 ≤ _; simp; omega) (fun t166 w167 g ht166 _ => ?_)
      refine ⟨⟨_, g.cell 3 rfl rfl, rfl⟩, ?_, trivial⟩
      refine g.put 1 rfl rfl rfl (fun w169 g n169 => ?_)
      exact ⟨_, t166, rfl, g.p1⟩
  clear g
  rintro (p : Option Addr) w93 ⟨ab, t, rfl, h⟩
  have hat2 : IpcAt w93 tp tc tq (⟨r.Next, ps, r.Caps, r.Pipes⟩ : RIpc).abs := ipc_at (F := F) (r := ⟨r.Next, ps, r.Caps, r.Pipes⟩) (h.drop.drop.drop.drop.drop.drop.drop.drop.drop) hw2
  refine ⟨_, h.cell 8 rfl rfl, tp, h.cell 8 rfl rfl, tc, h.cell 8 rfl rfl, tq, h.cell 8 rfl rfl, _, h.cell 3 rfl rfl, (c86 hat2).mono ?_⟩
  rintro _ w100 ⟨rfl, e100⟩
  have h := h.to e100
  have hcx : capIx (⟨r.Next, ps, r.Caps, r.Pipes⟩ : RIpc).abs m.Cap = capIx r.abs m.Cap := rfl
  rw [hcx]
  refine ⟨_, rfl, ?_⟩
  refine JoinW.cut0 (fun w' => ∃ (tc2 : Sl) (n : Int) (rr : RIpc), rr.abs = (recvI r.abs o c).1 ∧ (recvI r.abs o c).2 = ⟨0, n, m.Data, m.From⟩ ∧ rr.Ports = ps ∧ rr.Pipes = r.Pipes ∧ SH w0 w' (BR ab 0 n t m.From :: rD t m.Data :: rD m.D m.Data :: aB mb (m.cells.map Ce.v) :: BR rb 0 0 N0 0 :: BI ib 0 N0 N0 N0 :: BC cb c :: BO ob o td :: BI b rr.Next tp tc2 tq :: rP tp ps :: bP ps :: rC tc2 rr.Caps :: rQ tq r.Pipes :: bQ r.Pipes :: F)) ?_ ?_
  · refine ⟨_, h.cell 3 rfl rfl, ?_⟩
    refine JoinW.cut1 (fun (y : Bool) w' => y = (decide (0 < m.Cap) && decide (0 ≤ capIx r.abs m.Cap)) ∧ w' = w100) (BIf.dec (fun hz => ⟨?_, rfl⟩) (fun hz => ⟨?_, rfl⟩)) ?_
    · rw [Bool.eq_iff_iff]; simp; omega
    · rw [Bool.eq_iff_iff]; simp; omega
    rintro (y : Bool) w131 ⟨rfl, rfl⟩
    refine JoinW.cut1 (fun (y : Bool) w' => y = (decide (0 < m.Cap) && decide (0 ≤ capIx r.abs m.Cap) && decide (r.Caps.length < 128)) ∧ w' = w131) (BIf.of (fun hy => ⟨tc, h.cell 8 rfl rfl, by rw [hy, Bool.true_and, Bool.eq_iff_iff]; simp; omega, rfl⟩) (fun hy => ⟨by rw [hy]; rfl, rfl⟩)) ?_
    rintro (y : Bool) w134 ⟨rfl, rfl⟩
    rcases capIx_cases r.abs m.Cap with ⟨f1, f2, f3⟩ | ⟨k2, c', f1, f2, f3, f4⟩
    · refine BIf.f (by rw [f1]; simp) ?_
      have f2 : capOf r.abs m.abs.Cap = none := f2
      rw [f2] at hres
      exact ⟨tc, 0, ⟨r.Next, ps, r.Caps, r.Pipes⟩, by rw [hres], by rw [hres]; rfl, rfl, rfl, h⟩
    · have f2 : r.Caps[k2]? = some c' := f2
      have hl2 : k2 < r.Caps.length := (List.getElem?_eq_some_iff.1 f2).1
      have f3 : capOf r.abs m.abs.Cap = some c' := f3
      rw [f3] at hres
      rw [f1]
      by_cases hgo : 0 < m.Cap ∧ r.Caps.length < 128
      · refine BIf.t (by simp [hgo.1, hgo.2]) ?_
        have hres : recvI r.abs o c = (addCap (⟨r.Next, ps, r.Caps, r.Pipes⟩ : RIpc).abs o.Holder c'.Port c'.Rights m.Cap, ⟨0, r.Next + 1, m.Data, m.From⟩) := by rw [hres]; exact if_pos hgo
        have h := h.drew
        obtain ⟨q', hq'⟩ := h.rowQ 11 rfl f2
        simp only [Int.toNat_natCast]
        refine ⟨_, h.cell 8 rfl rfl, tp, h.cell 8 rfl rfl, tc, h.cell 8 rfl rfl, tq, h.cell 8 rfl rfl, _, h.cell 7 rfl rfl, tc, h.cell 8 rfl rfl, by omega, by omega, q', hq', _, h.rdR 11 rfl hq' f2 rfl, tc, h.cell 8 rfl rfl, by omega, by omega, q', hq', _, h.rdR 11 rfl hq' f2 rfl, _, h.cell 3 rfl rfl, ?_⟩
        refine (s96 ((((((((((((h.front (n := 10) rfl).front (n := 10) rfl).front (n := 10) rfl).front (n := 10) rfl).front (n := 10) rfl).front (n := 10) rfl).front (n := 10) rfl).front (n := 10) rfl).front (n := 10) rfl).front (n := 10) rfl).front (n := 10) rfl).front (n := 11) rfl) (by omega) (by omega) (by omega)).mono ?_
        rintro _ w148 ⟨tc2, rfl, h⟩
        refine ⟨_, tp, tc2, tq, rfl, ?_⟩
        refine h.put 9 rfl rfl rfl (fun w153 h n153 => ?_)
        refine ⟨_, h.cell 9 rfl rfl, ?_⟩
        refine h.setVP (b := ab) 1 rfl rfl (fun w156 h n156 => ?_)
        refine ⟨tc2, r.Next + 1, ⟨r.Next + 1, ps, r.Caps ++ [⟨r.Next + 1, o.Holder, c'.Port, c'.Rights, m.Cap⟩], r.Pipes⟩, by rw [hres]; rfl, by rw [hres], rfl, rfl, ?_⟩
        exact ((((((((((((h.front (n := 0) rfl).front (n := 11) rfl).front (n := 11) rfl).front (n := 11) rfl).front (n := 11) rfl).front (n := 11) rfl).front (n := 11) rfl).front (n := 11) rfl).front (n := 11) rfl).front (n := 11) rfl).front (n := 11) rfl).front (n := 11) rfl)
      · refine BIf.f (by rcases Decidable.not_and_iff_or_not.1 hgo with hh | hh <;> simp [hh]) ?_
        have hres : recvI r.abs o c = ((⟨r.Next, ps, r.Caps, r.Pipes⟩ : RIpc).abs, ⟨0, 0, m.Data, m.From⟩) := by rw [hres]; exact if_neg hgo
        exact ⟨tc, 0, ⟨r.Next, ps, r.Caps, r.Pipes⟩, by rw [hres], by rw [hres], rfl, rfl, h⟩
  clear h hres
  rintro w103 ⟨tc2, n, ⟨nx, ps2, cs2, qs2⟩, hr1, hr2, hp, hq2, h⟩
  have hp : ps2 = ps := hp
  have hq2 : qs2 = r.Pipes := hq2
  subst hp hq2
  have h := h.drew
  refine ⟨_, h.cell 8 rfl rfl, tp, h.cell 8 rfl rfl, tc2, h.cell 8 rfl rfl, tq, h.cell 8 rfl rfl, _, h.cellP 0 rfl rfl, _, h.cellP 0 rfl rfl, t, h.cellP 0 rfl rfl, _, h.cellP 0 rfl rfl, ?_⟩
  refine h.put 5 rfl rfl rfl (fun w113 h n113 => ?_)
  refine ⟨⟨_, h.cellP 0 rfl rfl, _, h.cellP 0 rfl rfl, t, h.cellP 0 rfl rfl, _, h.cellP 0 rfl rfl, rfl⟩, ?_⟩
  refine h.put 4 rfl rfl rfl (fun w119 h n119 => ?_)
  refine ⟨_, h.cell 5 rfl rfl, tp, h.cell 5 rfl rfl, tc2, h.cell 5 rfl rfl, tq, h.cell 5 rfl rfl, _, h.cell 4 rfl rfl, _, h.cell 4 rfl rfl, t, h.cell 4 rfl rfl, _, h.cell 4 rfl rfl, ?_⟩
  have h := ((((((((h.dropAt 8).dropAt 7).dropAt 6).dropAt 5).dropAt 4).dropAt 3).dropAt 2).dropAt 0)
  refine ⟨tp, tc2, tq, t, ⟨nx, ps2, cs2, r.Pipes⟩, by rw [hr2], hr1, ?_⟩
  rw [hr2]
  exact h
end Go.Proofs.Ytbimoajgofcmbaa

/- Ports, capabilities, pipes: the reference's WithPipe. Conditions: none. -/
set_option linter.unusedVariables false
set_option linter.unusedSimpArgs false
namespace Go.Proofs.Ytbimoajgofcmbaa
open Go Go.Den
def withP (d : DIpc) (o : DIpcOp) : IRes := match pipeOf d o.Id with
  | none => (d, resE 5)
  | some p => pipeI d o (pipeIx d o.Id).toNat p
abbrev BP (b : Nat) (p : RPipe) : Asr := aB b (p.cells.map Ce.v)
set_option maxHeartbeats 4000000 in
theorem s99 {w0 w : World} {F : List Asr} {tp tc tq td : Sl} {r : RIpc} {o : DIpcOp} (h : SH w0 w (sP tp tc tq r ++ F)) (hw : IWf r.abs) (hi : IOk r.abs) (hb : ByAt w0 td o.Data) (hbs : o.Data.length ≤ 1048576) :
    CallW Try.prog 99 #[iV r.Next tp tc tq, .agg ⟨opV o td⟩] w (KS w0 F (withP r.abs o)) := by
  refine go99 (a0_0 := r.Next) (a0_1 := tp) (a0_2 := tc) (a0_3 := tq) (a1_0 := o.Kind) (a1_1 := o.Holder) (a1_2 := o.Id) (a1_3 := o.To) (a1_4 := o.Rights) (a1_5 := o.Cap) (a1_6 := o.N) (a1_7 := td) ?_
  unfold W99
  have h : SH w0 w (rP tp r.Ports :: bP r.Ports :: rC tc r.Caps :: rQ tq r.Pipes :: bQ r.Pipes :: F) := h
  have hfq : r.Pipes.length ≤ 32 := by rw [← abs_pipes]; exact hi.pipes
  have hdl := hb.len
  have htq := h.len 3 rfl
  rw [recs_len] at htq
  refine h.alloc (fun w1 h e1 n1 => ?_)
  refine h.alloc (fun w2 h e2 n2 => ?_)
  refine h.alloc (fun w3 h e3 n3 => ?_)
  refine h.alloc (fun w4 h e4 n4 => ?_)
  have h : SH w0 w4 (BR w3.heap.size 0 0 N0 0 :: BI w2.heap.size 0 N0 N0 N0 :: BO w1.heap.size o td :: BI w.heap.size r.Next tp tc tq :: rP tp r.Ports :: bP r.Ports :: rC tc r.Caps :: rQ tq r.Pipes :: bQ r.Pipes :: F) := h
  generalize w3.heap.size = rb at *
  generalize w2.heap.size = ib at *
  generalize w1.heap.size = ob at *
  generalize w.heap.size = b at *
  have hat : IpcAt w4 tp tc tq r.abs := ipc_at (F := F) (h.drop.drop.drop.drop) hw
  refine ⟨_, h.cell 3 rfl rfl, tp, h.cell 3 rfl rfl, tc, h.cell 3 rfl rfl, tq, h.cell 3 rfl rfl, _, h.cell 2 rfl rfl, (c88 hat).mono ?_⟩
  rintro _ w11 ⟨rfl, e11⟩
  have h := h.to e11
  refine ⟨_, rfl, ?_⟩
  rcases pipeIx_cases r.abs o.Id with ⟨e1, e2, e3⟩ | ⟨kp, P, e1, e2, e3, e4⟩
  · rw [e1]
    exact BIf.t rfl (errS (M := [_]) (by unfold withP; rw [e2]) h)
  obtain ⟨p0, hx, rfl⟩ := map_get e2
  have hx : r.Pipes[kp]? = some p0 := hx
  have hax : r.abs.Pipes[kp]? = some p0.abs := e2
  have hlk : kp < r.Pipes.length := (List.getElem?_eq_some_iff.1 hx).1
  have hpo := hi.pipe kp p0.abs hax
  have hpr : 0 ≤ p0.R ∧ p0.R ≤ 64 := hpo.r
  have hpw : 0 ≤ p0.W ∧ p0.W ≤ 64 := hpo.w
  have hpd : p0.Data.length ≤ 512 := hpo.few
  have hst : withP r.abs o = pipeI r.abs o kp p0.abs := by unfold withP; rw [e3, e1]; rfl
  obtain ⟨q, hq⟩ := h.rowQ 7 rfl hx
  rw [e1]
  refine BIf.f (by simp) ?_
  simp only [Int.toNat_natCast]
  refine ⟨tq, h.cell 3 rfl rfl, by omega, by omega, q, hq, _, h.rdR 7 rfl hq hx rfl, _, h.rdR 7 rfl hq hx rfl, _, h.rdR 7 rfl hq hx rfl, p0.D, h.rdR 7 rfl hq hx rfl, ?_⟩
  refine h.alloc (fun w43 h e43 n43 => ?_)
  refine h.put 0 rfl rfl rfl (fun w44 h n44 => ?_)
  generalize w11.heap.size = pb at *
  have h : SH w0 w44 (BP pb p0 :: BR rb 0 0 N0 0 :: BI ib 0 N0 N0 N0 :: BO ob o td :: BI b r.Next tp tc tq :: rP tp r.Ports :: bP r.Ports :: rC tc r.Caps :: rQ tq r.Pipes :: bQ r.Pipes :: F) := h
  refine ⟨_, h.cell 3 rfl rfl, ?_⟩
  refine BIf.eq (fun k9 => ?_) (fun k9 => ?_)
  · -- ends
    have hst : withP r.abs o = endsI r.abs o kp p0.abs := by rw [hst]; exact if_pos k9
    refine ⟨_, h.cell 3 rfl rfl, _, h.cell 0 rfl rfl, ?_⟩
    rw [w64 (n := 0 - p0.R) (by omega) (by omega)]
    refine JoinW.cut1 (fun (x : Bool) w' => x = decide (o.To < -p0.R ∨ 64 - p0.R < o.To) ∧ w' = w44) (BIf.dec (fun hx => ⟨(decide_eq_true (by omega)).symm, rfl⟩) (fun hx => ⟨_, h.cell 3 rfl rfl, _, h.cell 0 rfl rfl, by rw [w64 (n := 64 - p0.R) (by omega) (by omega), Bool.eq_iff_iff, decide_eq_true_iff, decide_eq_true_iff]; omega, rfl⟩)) ?_
    rintro (x : Bool) w50 ⟨rfl, rfl⟩
    refine JoinW.cut1 (fun (x : Bool) w' => x = decide (o.To < -p0.R ∨ 64 - p0.R < o.To ∨ o.N < -p0.W) ∧ w' = w50) (BIf.dec (fun hx => ⟨(decide_eq_true (by omega)).symm, rfl⟩) (fun hx => ⟨_, h.cell 3 rfl rfl, _, h.cell 0 rfl rfl, by rw [w64 (n := 0 - p0.W) (by omega) (by omega), Bool.eq_iff_iff, decide_eq_true_iff, decide_eq_true_iff]; omega, rfl⟩)) ?_
    rintro (x : Bool) w53 ⟨rfl, rfl⟩
    refine JoinW.cut1 (fun (x : Bool) w' => x = decide (o.To < -p0.R ∨ 64 - p0.R < o.To ∨ o.N < -p0.W ∨ 64 - p0.W < o.N) ∧ w' = w53) (BIf.dec (fun hx => ⟨(decide_eq_true (by omega)).symm, rfl⟩) (fun hx => ⟨_, h.cell 3 rfl rfl, _, h.cell 0 rfl rfl, by rw [w64 (n := 64 - p0.W) (by omega) (by omega), Bool.eq_iff_iff, decide_eq_true_iff, decide_eq_true_iff]; omega, rfl⟩)) ?_
    rintro (x : Bool) w56 ⟨rfl, rfl⟩
    refine BIf.dec (fun hbd => errS (M := [_]) (by rw [hst]; unfold endsI; exact if_pos hbd) h.drop) (fun hbd => ?_)
    refine ⟨tq, h.cell 4 rfl rfl, _, h.cell 0 rfl rfl, _, h.cell 3 rfl rfl, by omega, by omega, q, hq, ?_⟩
    rw [w64 (n := p0.R + o.To) (by omega) (by omega)]
    rw [set_at hx] at h
    refine h.setR 8 (⟨p0.Id, p0.R + o.To, p0.W, p0.D, p0.Data⟩ : RPipe) rfl hq hlk (by show 1 < 4; omega) rfl (fun w85 h n85 => ?_)
    refine ⟨tq, h.cell 4 rfl rfl, _, h.cell 0 rfl rfl, _, h.cell 3 rfl rfl, by omega, by omega, q, hq, ?_⟩
    rw [w64 (n := p0.W + o.N) (by omega) (by omega)]
    refine h.setR 8 (⟨p0.Id, p0.R + o.To, p0.W + o.N, p0.D, p0.Data⟩ : RPipe) rfl hq hlk (by show 2 < 4; omega) rfl (fun w90 h n90 => ?_)
    have h : SH w0 w90 (BP pb p0 :: BR rb 0 0 N0 0 :: BI ib 0 N0 N0 N0 :: BO ob o td :: BI b r.Next tp tc tq :: rP tp r.Ports :: bP r.Ports :: rC tc r.Caps :: rQ tq (r.Pipes.set kp ⟨p0.Id, p0.R + o.To, p0.W + o.N, p0.D, p0.Data⟩) :: bQ (r.Pipes.set kp p0) :: F) := h
    rw [← set_at hx] at h
    have hx3 : (r.Pipes.set kp ⟨p0.Id, p0.R + o.To, p0.W + o.N, p0.D, p0.Data⟩)[kp]? = some ⟨p0.Id, p0.R + o.To, p0.W + o.N, p0.D, p0.Data⟩ := List.getElem?_set_self hlk
    have hpl2 : (r.Pipes.set kp (⟨p0.Id, p0.R + o.To, p0.W + o.N, p0.D, p0.Data⟩ : RPipe)).length = r.Pipes.length := List.length_set ..
    refine JoinW.cut0 (fun w' => ∃ (tq2 : Sl) (qs2 : List RPipe), (⟨r.Next, r.Ports, r.Caps, qs2⟩ : RIpc).abs = (withP r.abs o).1 ∧ (withP r.abs o).2 = resN 0 ∧ SH w0 w' (BP pb p0 :: BR rb 0 0 N0 0 :: BI ib 0 N0 N0 N0 :: BO ob o td :: BI b r.Next tp tc tq2 :: rP tp r.Ports :: bP r.Ports :: rC tc r.Caps :: rQ tq2 qs2 :: bQ qs2 :: F)) ?_ ?_
    · have h := h.drew
      refine ⟨tq, h.cell 4 rfl rfl, by omega, by omega, q, hq, _, h.rdR 8 rfl hq hx3 rfl, tq, h.cell 4 rfl rfl, by omega, by omega, q, hq, _, h.rdR 8 rfl hq hx3 rfl, ?_⟩
      show BIf (IntKind.i64.wrap (p0.R + o.To + (p0.W + o.N)) == 0) _ _
      rw [w64 (n := p0.R + o.To + (p0.W + o.N)) (by omega) (by omega)]
      refine BIf.eq (fun hz => ?_) (fun hz => ?_)
      · have hres : withP r.abs o = (⟨r.Next, r.abs.Ports, r.Caps, r.abs.Pipes.eraseIdx kp⟩, resN 0) := by rw [hst]; unfold endsI; exact (if_neg hbd).trans (if_pos hz)
        have h := h.drew
        have hlc := h.lenCap 8 rfl
        have hll := h.len 8 rfl
        rw [recs_len] at hll
        have hn1 : IntKind.i64.wrap ((kp : Int) + 1) = ((kp + 1 : Nat) : Int) := by rw [w64 (by omega) (by omega)]; omega
        rw [hn1]
        simp only [Int.toNat_natCast]
        refine ⟨tq, h.cell 4 rfl rfl, by omega, by omega, tq, h.cell 4 rfl rfl, by omega, by omega, ?_⟩
        refine h.alloc (fun w115 h e115 n115 => ?_)
        refine ⟨⟨tq, h.cell 5 rfl rfl, rfl⟩, ⟨tq, h.cell 5 rfl rfl, rfl⟩, ?_⟩
        have hpre := RowAt.pre (f := RPipe.cells) (z := 4) (i := kp) (fun _ => rfl) (h.rowR 9 rfl) (by omega)
        refine SH.appendR (f := RPipe.cells) (l := []) (us := (r.Pipes.set kp ⟨p0.Id, p0.R + o.To, p0.W + o.N, p0.D, p0.Data⟩).take kp) (h.drop.nil (some ⟨w90.drew.drew.heap.size, 0, none⟩) 4) hpre (by simp; omega) (fun _ => rfl) rfl rfl (by decide) (by show (_ + _) * 48 ≤ _; simp; omega) plain_pipe (fun t118 w119 h ht118 _ => ?_)
        refine ⟨⟨tq, h.cell 5 rfl rfl, rfl⟩, ?_⟩
        have hsuf := RowAt.suf (f := RPipe.cells) (z := 4) (i := kp + 1) (fun _ => rfl) (h.rowR 9 rfl) hll hlc (by omega)
        refine SH.appendR (f := RPipe.cells) (us := (r.Pipes.set kp ⟨p0.Id, p0.R + o.To, p0.W + o.N, p0.D, p0.Data⟩).drop (kp + 1)) h hsuf (by simp; omega) (fun _ => rfl) rfl rfl (by decide) (by show (_ + _) * 48 ≤ _; simp; omega) plain_pipe (fun t121 w122 h ht121 _ => ?_)
        refine h.setV 5 rfl rfl (fun w123 h n123 => ?_)
        have hel : ([] ++ (r.Pipes.set kp (⟨p0.Id, p0.R + o.To, p0.W + o.N, p0.D, p0.Data⟩ : RPipe)).take kp) ++ (r.Pipes.set kp (⟨p0.Id, p0.R + o.To, p0.W + o.N, p0.D, p0.Data⟩ : RPipe)).drop (kp + 1) = r.Pipes.eraseIdx kp := by
          rw [List.nil_append, List.take_set_of_le (Nat.le_refl _), List.drop_set_of_lt (by omega), List.eraseIdx_eq_take_drop_succ]
        rw [hel] at h
        have h := SH.bagErase (i := kp) (((((((((((h.dropAt 9).front (n := 0) rfl).front (n := 8) rfl).front (n := 8) rfl).front (n := 8) rfl).front (n := 8) rfl).front (n := 8) rfl).front (n := 8) rfl).front (n := 8) rfl).front (n := 8) rfl).front (n := 9) rfl)
        refine ⟨t121, r.Pipes.eraseIdx kp, ?_, by rw [hres], ((((((((((h.front (n := 0) rfl).front (n := 9) rfl).front (n := 9) rfl).front (n := 9) rfl).front (n := 9) rfl).front (n := 9) rfl).front (n := 9) rfl).front (n := 9) rfl).front (n := 9) rfl).front (n := 9) rfl)⟩
        rw [hres]
        unfold RIpc.abs
        dsimp only
        rw [map_erase]
      · have hres : withP r.abs o = (setP r.abs kp ⟨p0.Id, p0.R + o.To, p0.W + o.N, p0.Data⟩, resN 0) := by rw [hst]; unfold endsI; exact (if_neg hbd).trans (if_neg hz)
        have h1 := SH.bagOut (f := pipeA) ((((((((((h.front (n := 8) rfl).front (n := 8) rfl).front (n := 8) rfl).front (n := 8) rfl).front (n := 8) rfl).front (n := 8) rfl).front (n := 8) rfl).front (n := 8) rfl).front (n := 8) rfl).front (n := 9) rfl) hx
        have h1 : SH w0 w90.drew (pipeA ⟨p0.Id, p0.R + o.To, p0.W + o.N, p0.D, p0.Data⟩ :: aBag pipeA (r.Pipes.eraseIdx kp) :: _) := h1
        have h := SH.bagIn (f := pipeA) hx h1
        refine ⟨tq, _, ?_, by rw [hres], ((((((((((h.front (n := 0) rfl).front (n := 9) rfl).front (n := 9) rfl).front (n := 9) rfl).front (n := 9) rfl).front (n := 9) rfl).front (n := 9) rfl).front (n := 9) rfl).front (n := 9) rfl).front (n := 9) rfl)⟩
        rw [hres]
        unfold RIpc.abs setP
        rw [List.map_set]
        rfl
    clear h hx3
    rintro w92 ⟨tq2, qs2, hr1, hr2, h⟩
    refine ⟨_, h.cell 4 rfl rfl, tp, h.cell 4 rfl rfl, tc, h.cell 4 rfl rfl, tq2, h.cell 4 rfl rfl, ?_⟩
    refine h.put 2 rfl rfl rfl (fun w97 h n97 => ?_)
    refine h.put 1 rfl rfl rfl (fun w98 h n98 => ?_)
    refine ⟨_, h.cell 2 rfl rfl, tp, h.cell 2 rfl rfl, tc, h.cell 2 rfl rfl, tq2, h.cell 2 rfl rfl, _, h.cell 1 rfl rfl, _, h.cell 1 rfl rfl, N0, h.cell 1 rfl rfl, _, h.cell 1 rfl rfl, ?_⟩
    have h := ((((((h.dropAt 4).dropAt 3).dropAt 2).dropAt 1).dropAt 0)).nil none 1
    refine ⟨tp, tc, tq2, N0, ⟨r.Next, r.Ports, r.Caps, qs2⟩, by rw [hr2]; rfl, hr1, ?_⟩
    rw [hr2]
    exact h
  have g : SH w0 w44 (rD p0.D p0.Data :: bQ (r.Pipes.eraseIdx kp) :: BP pb p0 :: BR rb 0 0 N0 0 :: BI ib 0 N0 N0 N0 :: BO ob o td :: BI b r.Next tp tc tq :: rP tp r.Ports :: bP r.Ports :: rC tc r.Caps :: rQ tq r.Pipes :: F) := SH.bagOut (f := pipeA) ((((((((((h.front (n := 8) rfl).front (n := 8) rfl).front (n := 8) rfl).front (n := 8) rfl).front (n := 8) rfl).front (n := 8) rfl).front (n := 8) rfl).front (n := 8) rfl).front (n := 8) rfl).front (n := 9) rfl) hx
  have hdl2 := g.len 0 rfl
  have hdc := g.lenCap 0 rfl
  rw [nums_len] at hdl2
  have hdd : p0.abs.Data.length = p0.Data.length := rfl
  refine BIf.eq (fun k10 => ?_) (fun k10 => ?_)
  · -- bytes written
    have hst : withP r.abs o = writeI r.abs o kp p0.abs := by rw [hst]; exact (if_neg k9).trans (if_pos k10)
    refine ⟨_, h.cell 0 rfl rfl, ?_⟩
    refine BIf.eq (fun hr0 => errS (M := [_]) (by rw [hst]; unfold writeI; exact if_pos hr0) h.drop) (fun hr0 => ?_)
    refine ⟨td, h.cell 3 rfl rfl, ?_⟩
    have hnl : wlen o p0.abs ≤ o.Data.length ∧ wlen o p0.abs ≤ 512 := by unfold wlen; omega
    refine JoinW.cut1 (fun (n : Int) w' => n = ((wlen o p0.abs : Nat) : Int) ∧ w' = w44) ?_ ?_
    · refine ⟨p0.D, h.cell 0 rfl rfl, ?_⟩
      rw [w64 (n := 512 - (p0.D.len : Int)) (by omega) (by omega)]
      refine BIf.dec (fun hgt => ⟨p0.D, h.cell 0 rfl rfl, ?_, rfl⟩) (fun hgt => ⟨?_, rfl⟩)
      · rw [w64 (n := 512 - (p0.D.len : Int)) (by omega) (by omega)]; unfold wlen; omega
      · unfold wlen; omega
    rintro (n : Int) w158 ⟨rfl, rfl⟩
    refine JoinW.cut1 (fun (x : Bool) w' => x = decide (wlen o p0.abs = 0 ∧ 0 < o.Data.length) ∧ w' = w158) (BIf.eq (fun hz => ⟨td, h.cell 3 rfl rfl, by rw [Bool.eq_iff_iff, decide_eq_true_iff, decide_eq_true_iff]; omega, rfl⟩) (fun hz => ⟨(decide_eq_false (by omega)).symm, rfl⟩)) ?_
    rintro (x : Bool) w161 ⟨rfl, rfl⟩
    refine BIf.dec (fun hag => errS (M := [_]) (by rw [hst]; unfold writeI; exact (if_neg hr0).trans (if_pos hag)) h.drop) (fun hag => ?_)
    have hres : withP r.abs o = (setP r.abs kp ⟨p0.Id, p0.R, p0.W, p0.Data ++ o.Data.take (wlen o p0.abs)⟩, resN (wlen o p0.abs : Nat)) := by rw [hst]; unfold writeI; exact (if_neg hr0).trans (if_neg hag)
    rw [hres]
    clear h hres hag hst
    generalize wlen o p0.abs = n at *
    have g := g.drew
    have hcl := hb.cap
    simp only [Int.toNat_natCast]
    refine ⟨tq, g.cell 6 rfl rfl, p0.D, g.cell 2 rfl rfl, td, g.cell 5 rfl rfl, by omega, by omega, ?_⟩
    refine g.alloc (fun w189 g e189 n189 => ?_)
    refine ⟨⟨td, g.cell 6 rfl rfl, rfl⟩, ⟨p0.D, g.cell 3 rfl rfl, rfl⟩, ⟨tq, g.cell 7 rfl rfl, rfl⟩, ?_⟩
    refine SH.appendN (k := .u8) (m := []) (us := p0.Data) (g.drop.nil (some ⟨w161.drew.heap.size, 0, none⟩) 1) (g.rowN 1 rfl) rfl rfl (by decide) (by show (_ + _) * 1 ≤ _; simp; omega) (fun t193 w194 g ht193 _ => ?_)
    refine ⟨⟨td, g.cell 6 rfl rfl, rfl⟩, ⟨tq, g.cell 7 rfl rfl, rfl⟩, ?_⟩
    refine SH.appendN (k := .u8) (us := o.Data.take n) g (rowN_pre (hb.ext g.ext).row hnl.1) rfl rfl (by decide) (by show (_ + _) * 1 ≤ _; simp; omega) (fun t197 w198 g ht197 _ => ?_)
    refine ⟨⟨tq, g.cell 7 rfl rfl, rfl⟩, by omega, by omega, q, hq, ?_⟩
    have g : SH w0 w198 (rD t197 (p0.Data ++ o.Data.take n) :: rD p0.D p0.Data :: bQ (r.Pipes.eraseIdx kp) :: BP pb p0 :: BR rb 0 0 N0 0 :: BI ib 0 N0 N0 N0 :: BO ob o td :: BI b r.Next tp tc tq :: rP tp r.Ports :: bP r.Ports :: rC tc r.Caps :: rQ tq (r.Pipes.set kp p0) :: F) := by rw [← set_at hx]; exact g
    refine g.setR 11 (⟨p0.Id, p0.R, p0.W, t197, p0.Data ++ o.Data.take n⟩ : RPipe) rfl hq hlk (by show 3 < 4; omega) rfl (fun w201 g n201 => ?_)
    refine ⟨_, g.cell 7 rfl rfl, tp, g.cell 7 rfl rfl, tc, g.cell 7 rfl rfl, tq, g.cell 7 rfl rfl, ?_⟩
    refine g.put 5 rfl rfl rfl (fun w206 g n206 => ?_)
    refine g.put 4 rfl rfl rfl (fun w207 g n207 => ?_)
    refine ⟨_, g.cell 5 rfl rfl, tp, g.cell 5 rfl rfl, tc, g.cell 5 rfl rfl, tq, g.cell 5 rfl rfl, _, g.cell 4 rfl rfl, _, g.cell 4 rfl rfl, N0, g.cell 4 rfl rfl, _, g.cell 4 rfl rfl, ?_⟩
    have g : SH w0 w207 (rD t197 (p0.Data ++ o.Data.take n) :: rD p0.D p0.Data :: bQ (r.Pipes.eraseIdx kp) :: BP pb p0 :: BR rb 0 (n : Nat) N0 0 :: BI ib r.Next tp tc tq :: BO ob o td :: BI b r.Next tp tc tq :: rP tp r.Ports :: bP r.Ports :: rC tc r.Caps :: rQ tq (r.Pipes.set kp ⟨p0.Id, p0.R, p0.W, t197, p0.Data ++ o.Data.take n⟩) :: F) := g
    have g := SH.bagIn (f := pipeA) (y := (⟨p0.Id, p0.R, p0.W, t197, p0.Data ++ o.Data.take n⟩ : RPipe)) hx ((((((g.dropAt 7).dropAt 6).dropAt 5).dropAt 4).dropAt 3).dropAt 1)
    have g := ((((((g.front (n := 0) rfl).front (n := 4) rfl).front (n := 4) rfl).front (n := 4) rfl).front (n := 4) rfl)).nil none 1
    refine ⟨tp, tc, tq, N0, ⟨r.Next, r.Ports, r.Caps, r.Pipes.set kp ⟨p0.Id, p0.R, p0.W, t197, p0.Data ++ o.Data.take n⟩⟩, rfl, ?_, ?_⟩
    · unfold RIpc.abs setP
      rw [List.map_set]
      rfl
    · exact g
  have hst : withP r.abs o = readI r.abs o kp p0.abs := by rw [hst]; exact (if_neg k9).trans (if_neg k10)
  refine ⟨_, h.cell 3 rfl rfl, ?_⟩
  refine JoinW.cut1 (fun (x : Bool) w' => x = decide (o.N < 0 ∨ 1024 < o.N) ∧ w' = w44) (BIf.dec (fun hx => ⟨(decide_eq_true (.inl hx)).symm, rfl⟩) (fun hx => ⟨_, h.cell 3 rfl rfl, by rw [Bool.eq_iff_iff, decide_eq_true_iff, decide_eq_true_iff]; omega, rfl⟩)) ?_
  rintro (x : Bool) w222 ⟨rfl, rfl⟩
  refine BIf.dec (fun hbd => errS (M := [_]) (by rw [hst]; unfold readI; exact if_pos hbd) h.drop) (fun hbd => ?_)
  refine ⟨p0.D, h.cell 0 rfl rfl, ?_⟩
  refine JoinW.cut1 (fun (x : Bool) w' => x = decide (p0.Data.length = 0 ∧ 0 < p0.W) ∧ w' = w222) (BIf.eq (fun hz => ⟨_, h.cell 0 rfl rfl, by rw [Bool.eq_iff_iff, decide_eq_true_iff, decide_eq_true_iff]; omega, rfl⟩) (fun hz => ⟨(decide_eq_false (by omega)).symm, rfl⟩)) ?_
  rintro (x : Bool) w250 ⟨rfl, rfl⟩
  refine JoinW.cut1 (fun (x : Bool) w' => x = decide (p0.Data.length = 0 ∧ 0 < p0.W ∧ 0 < o.N) ∧ w' = w250) (BIf.dec (fun hz => ⟨_, h.cell 3 rfl rfl, by rw [Bool.eq_iff_iff, decide_eq_true_iff, decide_eq_true_iff]; omega, rfl⟩) (fun hz => ⟨(decide_eq_false (by omega)).symm, rfl⟩)) ?_
  rintro (x : Bool) w253 ⟨rfl, rfl⟩
  refine BIf.dec (fun hag => errS (M := [_]) (by rw [hst]; unfold readI; exact (if_neg hbd).trans (if_pos hag)) h.drop) (fun hag => ?_)
  have hres : withP r.abs o = (setP r.abs kp ⟨p0.Id, p0.R, p0.W, p0.Data.drop (rlen o p0.abs)⟩, ⟨0, 0, p0.Data.take (rlen o p0.abs), 0⟩) := by rw [hst]; unfold readI; exact (if_neg hbd).trans (if_neg hag)
  rw [hres]
  have hnl : rlen o p0.abs ≤ p0.Data.length := by unfold rlen; omega
  refine ⟨_, h.cell 3 rfl rfl, ?_⟩
  refine JoinW.cut1 (fun (n : Int) w' => n = ((rlen o p0.abs : Nat) : Int) ∧ w' = w253) ?_ ?_
  · refine ⟨p0.D, h.cell 0 rfl rfl, ?_⟩
    refine BIf.dec (fun hgt => ⟨p0.D, h.cell 0 rfl rfl, ?_, rfl⟩) (fun hgt => ⟨?_, rfl⟩)
    · unfold rlen; omega
    · unfold rlen; omega
  rintro (n : Int) w281 ⟨rfl, rfl⟩
  clear h hres hag hst
  generalize rlen o p0.abs = n at *
  have g := g.drew
  simp only [Int.toNat_natCast]
  refine ⟨tq, g.cell 6 rfl rfl, p0.D, g.cell 2 rfl rfl, by omega, by omega, ?_⟩
  refine g.alloc (fun w284 g e284 n284 => ?_)
  refine ⟨⟨p0.D, g.cell 3 rfl rfl, rfl⟩, ⟨tq, g.cell 7 rfl rfl, rfl⟩, ?_⟩
  refine SH.appendN (k := .u8) (m := []) (us := p0.Data.drop n) (g.drop.nil (some ⟨w281.drew.heap.size, 0, none⟩) 1) (rowN_suf (g.rowN 1 rfl) hdl2 hdc hnl) rfl rfl (by decide) (by show (_ + _) * 1 ≤ _; simp; omega) (fun t287 w288 g ht287 _ => ?_)
  refine ⟨⟨tq, g.cell 7 rfl rfl, rfl⟩, by omega, by omega, q, hq, ?_⟩
  have g : SH w0 w288 (rD t287 (p0.Data.drop n) :: rD p0.D p0.Data :: bQ (r.Pipes.eraseIdx kp) :: BP pb p0 :: BR rb 0 0 N0 0 :: BI ib 0 N0 N0 N0 :: BO ob o td :: BI b r.Next tp tc tq :: rP tp r.Ports :: bP r.Ports :: rC tc r.Caps :: rQ tq (r.Pipes.set kp p0) :: F) := by rw [← set_at hx]; exact g
  refine g.setR 11 (⟨p0.Id, p0.R, p0.W, t287, p0.Data.drop n⟩ : RPipe) rfl hq hlk (by show 3 < 4; omega) rfl (fun w291 g n291 => ?_)
  have g := g.drew
  refine ⟨_, g.cell 7 rfl rfl, tp, g.cell 7 rfl rfl, tc, g.cell 7 rfl rfl, tq, g.cell 7 rfl rfl, p0.D, g.cell 3 rfl rfl, by omega, by omega, ?_⟩
  refine g.alloc (fun w297 g e297 n297 => ?_)
  refine ⟨⟨p0.D, g.cell 4 rfl rfl, rfl⟩, ⟨_, g.cell 8 rfl rfl, tp, g.cell 8 rfl rfl, tc, g.cell 8 rfl rfl, tq, g.cell 8 rfl rfl, rfl⟩, ?_⟩
  refine SH.appendN (k := .u8) (m := []) (us := p0.Data.take n) (g.drop.nil (some ⟨w291.drew.heap.size, 0, none⟩) 1) (rowN_pre (g.rowN 2 rfl) hnl) rfl rfl (by decide) (by show (_ + _) * 1 ≤ _; simp; omega) (fun t303 w304 g ht303 _ => ?_)
  refine ⟨⟨_, g.cell 8 rfl rfl, tp, g.cell 8 rfl rfl, tc, g.cell 8 rfl rfl, tq, g.cell 8 rfl rfl, rfl⟩, ?_⟩
  refine g.put 6 rfl rfl rfl (fun w309 g n309 => ?_)
  refine g.put 5 rfl rfl rfl (fun w310 g n310 => ?_)
  refine ⟨_, g.cell 6 rfl rfl, tp, g.cell 6 rfl rfl, tc, g.cell 6 rfl rfl, tq, g.cell 6 rfl rfl, _, g.cell 5 rfl rfl, _, g.cell 5 rfl rfl, t303, g.cell 5 rfl rfl, _, g.cell 5 rfl rfl, ?_⟩
  have g : SH w0 w310 (rD t303 (p0.Data.take n) :: rD t287 (p0.Data.drop n) :: rD p0.D p0.Data :: bQ (r.Pipes.eraseIdx kp) :: BP pb p0 :: BR rb 0 0 t303 0 :: BI ib r.Next tp tc tq :: BO ob o td :: BI b r.Next tp tc tq :: rP tp r.Ports :: bP r.Ports :: rC tc r.Caps :: rQ tq (r.Pipes.set kp ⟨p0.Id, p0.R, p0.W, t287, p0.Data.drop n⟩) :: F) := g
  have g := SH.bagIn (f := pipeA) (y := (⟨p0.Id, p0.R, p0.W, t287, p0.Data.drop n⟩ : RPipe)) hx (((((((((g.dropAt 8).dropAt 7).dropAt 6).dropAt 5).dropAt 4).dropAt 2).front (n := 0) rfl).front (n := 2) rfl).front (n := 2) rfl)
  refine ⟨tp, tc, tq, t303, ⟨r.Next, r.Ports, r.Caps, r.Pipes.set kp ⟨p0.Id, p0.R, p0.W, t287, p0.Data.drop n⟩⟩, rfl, ?_, ?_⟩
  · unfold RIpc.abs setP
    rw [List.map_set]
    rfl
  · exact ((((((g.front (n := 0) rfl).front (n := 5) rfl).front (n := 5) rfl).front (n := 5) rfl).front (n := 5) rfl).front (n := 5) rfl)
end Go.Proofs.Ytbimoajgofcmbaa

/- Ports, capabilities, pipes: the reference's WithCap. Conditions: none. -/
set_option linter.unusedVariables false
set_option linter.unusedSimpArgs false
namespace Go.Proofs.Ytbimoajgofcmbaa
open Go Go.Den
noncomputable def withC (d : DIpc) (o : DIpcOp) : IRes := match capOf d o.Id with
  | none => (d, resE 5)
  | some c => if c.Holder ≠ o.Holder then (d, resE 5) else capI d o c
set_option maxHeartbeats 4000000 in
theorem s100 {w0 w : World} {F : List Asr} {tp tc tq td : Sl} {r : RIpc} {o : DIpcOp} (h : SH w0 w (sP tp tc tq r ++ F)) (hw : IWf r.abs) (hi : IOk r.abs) (hb : ByAt w0 td o.Data) (hbs : o.Data.length ≤ 1048576) :
    CallW Try.prog 100 #[iV r.Next tp tc tq, .agg ⟨opV o td⟩] w (KS w0 F (withC r.abs o)) := by
  refine go100 (a0_0 := r.Next) (a0_1 := tp) (a0_2 := tc) (a0_3 := tq) (a1_0 := o.Kind) (a1_1 := o.Holder) (a1_2 := o.Id) (a1_3 := o.To) (a1_4 := o.Rights) (a1_5 := o.Cap) (a1_6 := o.N) (a1_7 := td) ?_
  unfold W100
  have h : SH w0 w (rP tp r.Ports :: bP r.Ports :: rC tc r.Caps :: rQ tq r.Pipes :: bQ r.Pipes :: F) := h
  have hnx : 0 ≤ r.Next ∧ r.Next ≤ 1099511627776 := hi.next
  have hfc : r.Caps.length ≤ 128 := hi.caps
  have hfp : r.Ports.length ≤ 32 := by rw [← abs_ports]; exact hi.ports
  have hcl := h.len 2 rfl
  rw [recs_len] at hcl
  refine h.alloc (fun w1 h e1 n1 => ?_)
  refine h.alloc (fun w2 h e2 n2 => ?_)
  refine h.alloc (fun w3 h e3 n3 => ?_)
  refine h.alloc (fun w4 h e4 n4 => ?_)
  have h : SH w0 w4 (BR w3.heap.size 0 0 N0 0 :: BI w2.heap.size 0 N0 N0 N0 :: BO w1.heap.size o td :: BI w.heap.size r.Next tp tc tq :: rP tp r.Ports :: bP r.Ports :: rC tc r.Caps :: rQ tq r.Pipes :: bQ r.Pipes :: F) := h
  generalize w3.heap.size = rb at *
  generalize w2.heap.size = ib at *
  generalize w1.heap.size = ob at *
  generalize w.heap.size = b at *
  have hat : IpcAt w4 tp tc tq r.abs := ipc_at (F := F) (h.drop.drop.drop.drop) hw
  refine ⟨_, h.cell 3 rfl rfl, tp, h.cell 3 rfl rfl, tc, h.cell 3 rfl rfl, tq, h.cell 3 rfl rfl, _, h.cell 2 rfl rfl, (c86 hat).mono ?_⟩
  rintro _ w11 ⟨rfl, e11⟩
  have h := h.to e11
  refine ⟨_, rfl, ?_⟩
  rcases capIx_cases r.abs o.Id with ⟨e1, e2, e3⟩ | ⟨k0, c, e1, e2, e3, e4⟩
  · rw [e1]
    have h := h.drew
    refine JoinW.cut1 (fun (x : Bool) w' => x = true ∧ w' = w11.drew) (BIf.t rfl ⟨rfl, rfl⟩) ?_
    rintro (x : Bool) w15 ⟨rfl, rfl⟩
    exact BIf.t rfl (errS (M := [_]) (by unfold withC; rw [e2]) h)
  have e2' : r.Caps[k0]? = some c := e2
  have hlk : k0 < r.Caps.length := (List.getElem?_eq_some_iff.1 e2').1
  have h := h.drew
  obtain ⟨q, hq⟩ := h.rowQ 6 rfl e2'
  rw [e1]
  simp only [Int.toNat_natCast]
  refine JoinW.cut1 (fun (x : Bool) w' => x = (c.Holder != o.Holder) ∧ w' = w11.drew) (BIf.f (by simp) ⟨tc, h.cell 3 rfl rfl, by omega, by omega, q, hq, _, h.rdR 6 rfl hq e2' rfl, _, h.cell 2 rfl rfl, rfl, rfl⟩) ?_
  rintro (x : Bool) w15 ⟨rfl, rfl⟩
  refine BIf.ne (fun hh => errS (M := [_]) (by unfold withC; rw [e3]; exact if_pos hh) h) (fun hh => ?_)
  have hst : withC r.abs o = capI r.abs o c := by unfold withC; rw [e3]; exact if_neg (fun hn => hn hh)
  refine ⟨_, h.cell 2 rfl rfl, ?_⟩
  refine BIf.eq (fun k2 => ?_) (fun k2 => ?_)
  · have h := h.drew
    rw [hst, cap_2 k2]
    refine ⟨_, h.cell 3 rfl rfl, tp, h.cell 3 rfl rfl, tc, h.cell 3 rfl rfl, tq, h.cell 3 rfl rfl, _, h.cell 2 rfl rfl, _, h.cell 2 rfl rfl, _, h.cell 2 rfl rfl, _, h.cell 2 rfl rfl, _, h.cell 2 rfl rfl, _, h.cell 2 rfl rfl, _, h.cell 2 rfl rfl, td, h.cell 2 rfl rfl, tc, h.cell 3 rfl rfl, by omega, by omega, q, hq, _, h.rdR 6 rfl hq e2' rfl, _, h.rdR 6 rfl hq e2' rfl, _, h.rdR 6 rfl hq e2' rfl, _, h.rdR 6 rfl hq e2' rfl, _, h.rdR 6 rfl hq e2' rfl, ?_⟩
    exact retS (X := [BO ob o td, BI b r.Next tp tc tq]) (s115 (r := r) (o := o) (c := c) (((((((((h.front (n := 3) rfl).front (n := 3) rfl).front (n := 3) rfl).front (n := 3) rfl).front (n := 8) rfl).front (n := 8) rfl).front (n := 8) rfl).front (n := 8) rfl).front (n := 8) rfl) (by omega) (by omega))
  refine BIf.eq (fun k3 => ?_) (fun k3 => ?_)
  · rw [hst, cap_3 k3]
    refine ⟨_, h.cell 3 rfl rfl, tp, h.cell 3 rfl rfl, tc, h.cell 3 rfl rfl, tq, h.cell 3 rfl rfl, _, h.cell 2 rfl rfl, ?_⟩
    exact retS (X := [BO ob o td, BI b r.Next tp tc tq]) (s116 (r := r) (((((((((h.front (n := 3) rfl).front (n := 3) rfl).front (n := 3) rfl).front (n := 3) rfl).front (n := 8) rfl).front (n := 8) rfl).front (n := 8) rfl).front (n := 8) rfl).front (n := 8) rfl) hw hi)
  refine BIf.eq (fun k4 => ?_) (fun k4 => ?_)
  · rw [hst, cap_4 k4]
    refine ⟨_, h.cell 3 rfl rfl, tp, h.cell 3 rfl rfl, tc, h.cell 3 rfl rfl, tq, h.cell 3 rfl rfl, _, h.cell 2 rfl rfl, ?_⟩
    refine (s97 (((((((((h.front (n := 3) rfl).front (n := 3) rfl).front (n := 3) rfl).front (n := 3) rfl).front (n := 8) rfl).front (n := 8) rfl).front (n := 8) rfl).front (n := 8) rfl).front (n := 8) rfl) hw e1 e2').mono ?_
    rintro _ w111 ⟨tc2, rfl, h⟩
    refine ⟨_, tp, tc2, tq, rfl, ?_⟩
    have hdl : (dropC r.Caps o.Id c.Parent).length ≤ 128 := by
      unfold dropC; rw [List.length_map]
      have := List.length_filter_le (fun x : DCap => x.Id != o.Id) r.Caps; omega
    refine (s98 h (by omega) (by omega)).mono ?_
    rintro _ w117 ⟨tp2, rfl, h⟩
    refine ⟨_, tp2, tc2, tq, rfl, ?_⟩
    refine h.put 6 rfl rfl rfl (fun w122 h n122 => ?_)
    refine h.put 5 rfl rfl rfl (fun w123 h n123 => ?_)
    refine ⟨_, h.cell 6 rfl rfl, tp2, h.cell 6 rfl rfl, tc2, h.cell 6 rfl rfl, tq, h.cell 6 rfl rfl, _, h.cell 5 rfl rfl, _, h.cell 5 rfl rfl, N0, h.cell 5 rfl rfl, _, h.cell 5 rfl rfl, ?_⟩
    have h := (((((h.dropAt 8).dropAt 7).dropAt 6).dropAt 5)).nil none 1
    exact ⟨tp2, tc2, tq, N0, dropR r o.Id c.Parent, rfl, drop_abs e3, h⟩
  refine BIf.eq (fun k5 => ?_) (fun k5 => ?_)
  · have h := h.drew
    rw [hst, cap_5 k5]
    refine ⟨_, h.cell 3 rfl rfl, tp, h.cell 3 rfl rfl, tc, h.cell 3 rfl rfl, tq, h.cell 3 rfl rfl, _, h.cell 2 rfl rfl, _, h.cell 2 rfl rfl, _, h.cell 2 rfl rfl, _, h.cell 2 rfl rfl, _, h.cell 2 rfl rfl, _, h.cell 2 rfl rfl, _, h.cell 2 rfl rfl, td, h.cell 2 rfl rfl, tc, h.cell 3 rfl rfl, by omega, by omega, q, hq, _, h.rdR 6 rfl hq e2' rfl, _, h.rdR 6 rfl hq e2' rfl, _, h.rdR 6 rfl hq e2' rfl, _, h.rdR 6 rfl hq e2' rfl, _, h.rdR 6 rfl hq e2' rfl, ?_⟩
    exact retS (X := [BO ob o td, BI b r.Next tp tc tq]) (s117 (r := r) (o := o) (c := c) (((((((((h.front (n := 3) rfl).front (n := 3) rfl).front (n := 3) rfl).front (n := 3) rfl).front (n := 8) rfl).front (n := 8) rfl).front (n := 8) rfl).front (n := 8) rfl).front (n := 8) rfl) hw hi hb hbs e2)
  have h := h.drew
  have hcr : capI r.abs o c = recvI r.abs o c := by unfold capI; rw [if_neg k2, if_neg k3, if_neg k4, if_neg k5]
  rw [hst, hcr]
  refine ⟨_, h.cell 3 rfl rfl, tp, h.cell 3 rfl rfl, tc, h.cell 3 rfl rfl, tq, h.cell 3 rfl rfl, _, h.cell 2 rfl rfl, _, h.cell 2 rfl rfl, _, h.cell 2 rfl rfl, _, h.cell 2 rfl rfl, _, h.cell 2 rfl rfl, _, h.cell 2 rfl rfl, _, h.cell 2 rfl rfl, td, h.cell 2 rfl rfl, tc, h.cell 3 rfl rfl, by omega, by omega, q, hq, _, h.rdR 6 rfl hq e2' rfl, _, h.rdR 6 rfl hq e2' rfl, _, h.rdR 6 rfl hq e2' rfl, _, h.rdR 6 rfl hq e2' rfl, _, h.rdR 6 rfl hq e2' rfl, ?_⟩
  exact retS (X := [BO ob o td, BI b r.Next tp tc tq]) (s118 (r := r) (o := o) (c := c) (td := td) (((((((((h.front (n := 3) rfl).front (n := 3) rfl).front (n := 3) rfl).front (n := 3) rfl).front (n := 8) rfl).front (n := 8) rfl).front (n := 8) rfl).front (n := 8) rfl).front (n := 8) rfl) hw hi e2)
end Go.Proofs.Ytbimoajgofcmbaa

/- Ports, capabilities, pipes: the reference's step. Conditions: none. -/
set_option linter.unusedVariables false
set_option linter.unusedSimpArgs false
namespace Go.Proofs.Ytbimoajgofcmbaa
open Go Go.Den
theorem step_wp {d : DIpc} {o : DIpcOp} (h : ¬ BadO o) (k : 9 ≤ o.Kind) : stepI d o = withP d o := by unfold stepI withP; rw [if_neg h, if_neg (by omega), if_neg (by omega), if_neg (by omega), if_pos k] <;> rfl
theorem step_wc {d : DIpc} {o : DIpcOp} (h : ¬ BadO o) (k : 2 ≤ o.Kind ∧ o.Kind ≤ 6) : stepI d o = withC d o := by unfold stepI withC; rw [if_neg h, if_neg (by omega), if_neg (by omega), if_neg (by omega), if_neg (by omega)] <;> rfl
def idsF (cs : List DCap) (hl : Int) : List Int := (cs.filter (fun c => c.Holder == hl)).map DCap.Id
theorem nd_fil {cs : List DCap} {k : Nat} {c : DCap} (hnd : (cs.map DCap.Id).Nodup) (hk : cs[k]? = some c) : cs.filter (fun x => x.Id != c.Id) = cs.take k ++ cs.drop (k + 1) := by
  have hlt := (List.getElem?_eq_some_iff.1 hk).1
  have he : cs[k] = c := (List.getElem?_eq_some_iff.1 hk).2
  have huniq : ∀ (j : Nat) (y : DCap), cs[j]? = some y → y.Id = c.Id → j = k := fun j y hj hy =>
    nd_get hnd (x := c.Id) (by rw [List.getElem?_map, hj]; simp [hy]) (by rw [List.getElem?_map, hk]; rfl)
  have e : cs = cs.take k ++ c :: cs.drop (k + 1) := by rw [← he, List.getElem_cons_drop hlt, List.take_append_drop]
  conv => lhs; rw [e]
  rw [List.filter_append, List.filter_cons_of_neg (by simp)]
  congr 1
  · refine List.filter_eq_self.2 (fun y hy => ?_)
    obtain ⟨j, hj⟩ := List.getElem?_of_mem hy
    have hjk : j < k := by have := (List.getElem?_eq_some_iff.1 hj).1; simp at this; omega
    rw [List.getElem?_take_of_lt hjk] at hj
    have hne : y.Id ≠ c.Id := fun h => by have := huniq j y hj h; omega
    simpa using hne
  · refine List.filter_eq_self.2 (fun y hy => ?_)
    obtain ⟨j, hj⟩ := List.getElem?_of_mem hy
    rw [List.getElem?_drop] at hj
    have hne : y.Id ≠ c.Id := fun h => by have := huniq _ y hj h; omega
    simpa using hne
theorem dropC_nd {cs : List DCap} {id up : Int} (hnd : (cs.map DCap.Id).Nodup) : ((dropC cs id up).map DCap.Id).Nodup := by
  have e : (dropC cs id up).map DCap.Id = (cs.filter (fun x => x.Id != id)).map DCap.Id := by
    unfold dropC
    rw [List.map_map]
    refine List.map_congr_left (fun x _ => ?_)
    exact re_id _ _ _
  rw [e]
  exact hnd.sublist ((List.filter_sublist).map _)
theorem re_holder (id up : Int) (x : DCap) : (reCap id up x).Holder = x.Holder := by unfold reCap; split <;> rfl
theorem idsF_drop {cs : List DCap} {id up hl : Int} : idsF (dropC cs id up) hl = ((cs.filter (fun x => x.Id != id)).filter (fun c => c.Holder == hl)).map DCap.Id := by
  unfold idsF dropC
  rw [List.filter_map, List.map_map]
  have e1 : (fun c : DCap => c.Holder == hl) ∘ reCap id up = fun c => c.Holder == hl := by
    funext x
    show ((reCap id up x).Holder == hl) = _
    rw [re_holder]
  rw [e1]
  refine List.map_congr_left (fun x _ => ?_)
  exact re_id _ _ _
theorem ids_drop {cs : List DCap} {k : Nat} {c : DCap} {up hl : Int} (hnd : (cs.map DCap.Id).Nodup) (hk : cs[k]? = some c) (hh : c.Holder = hl) (hpre : ∀ x, x ∈ cs.take k → x.Holder ≠ hl) : idsF cs hl = c.Id :: idsF (dropC cs c.Id up) hl := by
  have hlt := (List.getElem?_eq_some_iff.1 hk).1
  have he : cs[k] = c := (List.getElem?_eq_some_iff.1 hk).2
  have e : cs = cs.take k ++ c :: cs.drop (k + 1) := by rw [← he, List.getElem_cons_drop hlt, List.take_append_drop]
  have hno : (cs.take k).filter (fun c => c.Holder == hl) = [] := List.filter_eq_nil_iff.2 (fun x hx => by simpa using hpre x hx)
  rw [idsF_drop, nd_fil hnd hk, List.filter_append, hno, List.nil_append]
  unfold idsF
  conv => lhs; rw [e]
  rw [List.filter_append, hno, List.nil_append, List.filter_cons_of_pos (by simpa using hh)]
  rfl
theorem dropC_take {cs : List DCap} {k : Nat} {c : DCap} {up hl : Int} (hnd : (cs.map DCap.Id).Nodup) (hk : cs[k]? = some c) (hpre : ∀ x, x ∈ cs.take k → x.Holder ≠ hl) : ∀ x, x ∈ (dropC cs c.Id up).take k → x.Holder ≠ hl := by
  have hlt := (List.getElem?_eq_some_iff.1 hk).1
  intro x hx
  unfold dropC at hx
  rw [nd_fil hnd hk, ← List.map_take, List.take_append_of_le_length (by simp; omega), List.take_take, Nat.min_self] at hx
  obtain ⟨y, hy, rfl⟩ := List.mem_map.1 hx
  rw [re_holder]
  exact hpre y hy
theorem dropC_len {cs : List DCap} {k : Nat} {c : DCap} {up : Int} (hnd : (cs.map DCap.Id).Nodup) (hk : cs[k]? = some c) : (dropC cs c.Id up).length + 1 = cs.length := by
  have hlt := (List.getElem?_eq_some_iff.1 hk).1
  unfold dropC
  rw [List.length_map, nd_fil hnd hk, List.length_append, List.length_take, List.length_drop]
  omega
theorem nd_ix {d : DIpc} {k : Nat} {c : DCap} (hnd : (d.Caps.map DCap.Id).Nodup) (hk : d.Caps[k]? = some c) : capIx d c.Id = k ∧ capOf d c.Id = some c := by
  rcases capIx_cases d c.Id with ⟨_, _, e3⟩ | ⟨k', c', e1, e2, e3, e4⟩
  · exact absurd rfl (e3 c (List.mem_of_getElem? hk))
  · have hkk : k' = k := nd_get hnd (x := c.Id) (by rw [List.getElem?_map, e2]; simp [e4]) (by rw [List.getElem?_map, hk]; rfl)
    subst hkk
    rw [hk] at e2
    cases e2
    exact ⟨e1, e3⟩
theorem wf_caps {r : RIpc} {cs : List DCap} (h : IWf r.abs) (hl : cs.length ≤ 1048576) : IWf (⟨r.Next, r.Ports, cs, r.Pipes⟩ : RIpc).abs :=
  ⟨h.msgs, h.pipes, ⟨h.pw.pipes⟩, ⟨hl, h.few.2.1, h.few.2.2⟩, h.queues⟩
set_option maxHeartbeats 4000000 in
theorem s67 {w0 w : World} {F : List Asr} {tp tc tq td : Sl} {r : RIpc} {o : DIpcOp} (h : SH w0 w (sP tp tc tq r ++ F)) (hw : IWf r.abs) (hi : IOk r.abs) (hb : ByAt w0 td o.Data) (hbs : o.Data.length ≤ 1048576) :
    CallW Try.prog 67 #[iV r.Next tp tc tq, .agg ⟨opV o td⟩] w (KS w0 F (stepI r.abs o)) := by
  refine go67 (a0_0 := r.Next) (a0_1 := tp) (a0_2 := tc) (a0_3 := tq) (a1_0 := o.Kind) (a1_1 := o.Holder) (a1_2 := o.Id) (a1_3 := o.To) (a1_4 := o.Rights) (a1_5 := o.Cap) (a1_6 := o.N) (a1_7 := td) ?_
  unfold W67
  have h : SH w0 w (rP tp r.Ports :: bP r.Ports :: rC tc r.Caps :: rQ tq r.Pipes :: bQ r.Pipes :: F) := h
  have hnx : 0 ≤ r.Next ∧ r.Next ≤ 1099511627776 := hi.next
  have hfc : r.Caps.length ≤ 128 := hi.caps
  have hfp : r.Ports.length ≤ 32 := by rw [← abs_ports]; exact hi.ports
  have hfq : r.Pipes.length ≤ 32 := by rw [← abs_pipes]; exact hi.pipes
  have htp := h.len 0 rfl
  have hcl := h.len 2 rfl
  have htq := h.len 3 rfl
  rw [recs_len] at hcl htp htq
  refine h.alloc (fun w1 h e1 n1 => ?_)
  refine h.alloc (fun w2 h e2 n2 => ?_)
  refine h.alloc (fun w3 h e3 n3 => ?_)
  refine h.alloc (fun w4 h e4 n4 => ?_)
  have h : SH w0 w4 (BR w3.heap.size 0 0 N0 0 :: BI w2.heap.size 0 N0 N0 N0 :: BO w1.heap.size o td :: BI w.heap.size r.Next tp tc tq :: rP tp r.Ports :: bP r.Ports :: rC tc r.Caps :: rQ tq r.Pipes :: bQ r.Pipes :: F) := h
  generalize w3.heap.size = rb at *
  generalize w2.heap.size = ib at *
  generalize w1.heap.size = ob at *
  generalize w.heap.size = b at *
  refine ⟨_, h.cell 2 rfl rfl, c84.mono ?_⟩
  rintro _ w7 ⟨rfl, rfl⟩
  refine ⟨_, rfl, ?_⟩
  refine JoinW.cut1 (fun (x : Bool) w' => x = decide (o.Holder < 0 ∨ 64 ≤ o.Holder ∨ o.Kind < 1) ∧ w' = w7) (BIf.of (fun hx => ⟨?_, rfl⟩) (fun hx => ⟨_, h.cell 2 rfl rfl, ?_, rfl⟩)) ?_
  · rw [Bool.eq_iff_iff]; simp at hx ⊢; omega
  · rw [Bool.eq_iff_iff]; simp at hx ⊢; omega
  rintro (x : Bool) w11 ⟨rfl, rfl⟩
  refine JoinW.cut1 (fun (x : Bool) w' => x = decide (BadO o) ∧ w' = w11) (BIf.dec (fun hx => ⟨(decide_eq_true (by unfold BadO; omega)).symm, rfl⟩) (fun hx => ⟨_, h.cell 2 rfl rfl, by rw [Bool.eq_iff_iff, decide_eq_true_iff, decide_eq_true_iff]; unfold BadO; omega, rfl⟩)) ?_
  rintro (x : Bool) w14 ⟨rfl, rfl⟩
  refine BIf.dec (fun hbad => errS (M := [_]) (step_bad hbad) h) (fun hbad => ?_)
  have hbad2 := hbad
  unfold BadO at hbad2
  refine ⟨_, h.cell 2 rfl rfl, ?_⟩
  refine BIf.eq (fun k1 => ?_) (fun k1 => ?_)
  · -- a new port
    refine ⟨tp, h.cell 3 rfl rfl, ?_⟩
    refine JoinW.cut1 (fun (x : Bool) w' => x = decide (32 ≤ r.Ports.length ∨ 128 ≤ r.Caps.length) ∧ w' = w14) (BIf.dec (fun e => ⟨(decide_eq_true (.inl (by omega))).symm, rfl⟩) (fun e => ⟨tc, h.cell 3 rfl rfl, by rw [Bool.eq_iff_iff, decide_eq_true_iff, decide_eq_true_iff]; omega, rfl⟩)) ?_
    rintro (x : Bool) w43 ⟨rfl, rfl⟩
    have hst := step_1 (d := r.abs) hbad k1
    refine BIf.dec (fun hfull => errS (M := [_]) (by rw [hst]; unfold newPort; rw [if_pos (by rw [abs_ports]; exact hfull)]) h) (fun hfull => ?_)
    have hres : stepI r.abs o = (⟨r.Next + 2, r.abs.Ports ++ [⟨r.Next + 1, []⟩], r.Caps ++ [⟨r.Next + 2, o.Holder, r.Next + 1, 7, 0⟩], r.abs.Pipes⟩, resN (r.Next + 2)) := by rw [hst]; unfold newPort; rw [if_neg (by rw [abs_ports]; exact hfull)]; rfl
    rw [hres]
    refine ⟨_, h.cell 3 rfl rfl, ?_⟩
    rw [w64 (n := r.Next + 1) (by omega) (by omega)]
    refine h.setV 3 rfl rfl (fun w69 h n69 => ?_)
    refine ⟨tp, h.cell 3 rfl rfl, _, h.cell 3 rfl rfl, ?_⟩
    refine h.alloc (fun w72 h e72 n72 => ?_)
    refine LetW_iff.2 (SH.appendR1 (f := RPort.cells) (x := ⟨r.Next + 1, ⟨some ⟨w69.heap.size, 0, none⟩, 0, 0⟩, []⟩) ((((((h.dropAt 0).front (n := 3) rfl).front (n := 3) rfl).front (n := 3) rfl).front (n := 3) rfl).front (n := 4) rfl) rfl rfl rfl (by decide) (by show (_ + _) * 32 ≤ _; omega) (plain_port _) (fun tp2 w75 h htp2 _ => ?_))
    refine h.setV 4 rfl rfl (fun w76 h n76 => ?_)
    have h : SH w0 w76 (rP tp2 (r.Ports ++ [⟨r.Next + 1, ⟨some ⟨w69.heap.size, 0, none⟩, 0, 0⟩, []⟩]) :: BR rb 0 0 N0 0 :: BI ib 0 N0 N0 N0 :: BO ob o td :: BI b (r.Next + 1) tp2 tc tq :: bP r.Ports :: rC tc r.Caps :: rQ tq r.Pipes :: bQ r.Pipes :: F) := h
    refine ⟨_, h.cell 4 rfl rfl, tp2, h.cell 4 rfl rfl, tc, h.cell 4 rfl rfl, tq, h.cell 4 rfl rfl, _, h.cell 3 rfl rfl, _, h.cell 4 rfl rfl, ?_⟩
    refine (s96 (((((((h.front (n := 5) rfl).front (n := 5) rfl).front (n := 5) rfl).front (n := 5) rfl).front (n := 5) rfl).front (n := 5) rfl).front (n := 6) rfl) (by omega) (by omega) (by omega)).mono ?_
    rintro _ w84 ⟨tc2, rfl, h⟩
    refine ⟨_, tp2, tc2, tq, rfl, ?_⟩
    refine h.put 5 rfl rfl rfl (fun w89 h n89 => ?_)
    have h := h.drew
    refine ⟨_, h.cell 5 rfl rfl, tp2, h.cell 5 rfl rfl, tc2, h.cell 5 rfl rfl, tq, h.cell 5 rfl rfl, _, h.cell 5 rfl rfl, ?_⟩
    refine h.put 3 rfl rfl rfl (fun w95 h n95 => ?_)
    refine ⟨⟨_, h.cell 5 rfl rfl, rfl⟩, ?_⟩
    refine h.put 2 rfl rfl rfl (fun w97 h n97 => ?_)
    refine ⟨_, h.cell 3 rfl rfl, tp2, h.cell 3 rfl rfl, tc2, h.cell 3 rfl rfl, tq, h.cell 3 rfl rfl, _, h.cell 2 rfl rfl, _, h.cell 2 rfl rfl, N0, h.cell 2 rfl rfl, _, h.cell 2 rfl rfl, ?_⟩
    have h := (((((((((h.dropAt 5).dropAt 4).dropAt 3).dropAt 2).front (n := 0) rfl).front (n := 1) rfl).front (n := 2) rfl)).bagNil msgA).nil (some ⟨w69.heap.size, 0, none⟩) 3
    have h := SH.bagSnoc (f := portA) (x := (⟨r.Next + 1, ⟨some ⟨w69.heap.size, 0, none⟩, 0, 0⟩, []⟩ : RPort)) (SH.allIn (As := [rM ⟨some ⟨w69.heap.size, 0, none⟩, 0, 0⟩ [], bM []]) h)
    have h := (((h.front (n := 0) rfl).front (n := 1) rfl)).nil none 1
    have e : r.Next + 1 + 1 = r.Next + 2 := by omega
    rw [e] at h
    refine ⟨tp2, tc2, tq, N0, ⟨r.Next + 2, r.Ports ++ [⟨r.Next + 1, ⟨some ⟨w69.heap.size, 0, none⟩, 0, 0⟩, []⟩], r.Caps ++ [⟨r.Next + 2, o.Holder, r.Next + 1, 7, 0⟩], r.Pipes⟩, ?_, ?_, ?_⟩
    · rw [e]; rfl
    · unfold RIpc.abs
      rw [List.map_append]
      rfl
    · exact h
  refine BIf.eq (fun k7 => ?_) (fun k7 => ?_)
  · -- a holder gone
    have hst : stepI r.abs o = goneI r.abs o := step_7 hbad k7
    have hnd : (r.Caps.map DCap.Id).Nodup := by
      rw [List.nodup_iff_pairwise_ne, List.pairwise_map]
      refine List.pairwise_iff_getElem.2 (fun i j hi2 hj hij => ?_)
      have := (cap_mono hi (List.getElem?_eq_getElem (l := r.abs.Caps) hi2) (List.getElem?_eq_getElem (l := r.abs.Caps) hj)).1.2 hij
      exact fun he => absurd this (by have : (r.abs.Caps[i]).Id = (r.abs.Caps[j]).Id := he; omega)
    refine LoopW.m2 (fun (n : Int) (i : Int) w' => ∃ (tc2 : Sl) (cs : List DCap) (k m : Nat), i = k ∧ n = m ∧ k ≤ cs.length ∧ cs.length + m = r.Caps.length ∧ (cs.map DCap.Id).Nodup ∧ (∀ x, x ∈ cs.take k → x.Holder ≠ o.Holder) ∧ m + (idsF cs o.Holder).length = (idsOf r.abs o.Holder).length ∧ (idsF cs o.Holder).foldl dropF (⟨r.Next, r.Ports, cs, r.Pipes⟩ : RIpc).abs = (idsOf r.abs o.Holder).foldl dropF r.abs ∧
      SH w0 w' (BR rb 0 0 N0 0 :: BI ib 0 N0 N0 N0 :: BO ob o td :: BI b r.Next tp tc2 tq :: rP tp r.Ports :: bP r.Ports :: rC tc2 cs :: rQ tq r.Pipes :: bQ r.Pipes :: F)) (fun (n : Int) (i : Int) _ => ((r.Caps.length : Int) - n - i).toNat) ⟨tc, r.Caps, 0, 0, rfl, rfl, by omega, by omega, hnd, by simp, by rw [Nat.zero_add]; rfl, rfl, h⟩ ?_
    clear h
    rintro (n : Int) (i : Int) wl ⟨tc2, cs, k, m, rfl, rfl, hk, hcm, hnd2, hpre, hids, hfold, h⟩ J hJ
    have hcl2 := h.len 6 rfl
    rw [recs_len] at hcl2
    refine ⟨tc2, h.cell 3 rfl rfl, BIf.dec (fun hlt => ?_) (fun hge => ?_)⟩
    · have hget : cs[k]? = some cs[k] := List.getElem?_eq_getElem (by omega)
      generalize cs[k] = y at *
      have h := h.drew
      obtain ⟨q, hq⟩ := h.rowQ 6 rfl hget
      simp only [Int.toNat_natCast]
      refine ⟨tc2, h.cell 3 rfl rfl, by omega, by omega, q, hq, _, h.rdR 6 rfl hq hget rfl, _, h.cell 2 rfl rfl, ?_⟩
      refine BIf.eq (fun he => ?_) (fun he => ?_)
      · have h := h.drew
        refine ⟨_, h.cell 3 rfl rfl, tp, h.cell 3 rfl rfl, tc2, h.cell 3 rfl rfl, tq, h.cell 3 rfl rfl, tc2, h.cell 3 rfl rfl, by omega, by omega, q, hq, _, h.rdR 6 rfl hq hget rfl, ?_⟩
        have hix := nd_ix (d := (⟨r.Next, r.Ports, cs, r.Pipes⟩ : RIpc).abs) hnd2 hget
        refine (s97 (r := ⟨r.Next, r.Ports, cs, r.Pipes⟩) (((((((((h.front (n := 3) rfl).front (n := 3) rfl).front (n := 3) rfl).front (n := 3) rfl).front (n := 8) rfl).front (n := 8) rfl).front (n := 8) rfl).front (n := 8) rfl).front (n := 8) rfl) (wf_caps hw (by omega)) hix.1 hget).mono ?_
        rintro _ w124 ⟨tc3, rfl, h⟩
        refine ⟨_, tp, tc3, tq, rfl, ?_⟩
        refine h.put 8 rfl rfl rfl (fun w129 h n129 => ?_)
        rw [w64 (n := (m : Int) + 1) (by omega) (by omega)]
        have hdl := dropC_len (up := y.Parent) hnd2 hget
        have hid := ids_drop (up := y.Parent) hnd2 hget he hpre
        refine hJ _ _ _ ⟨tc3, dropC cs y.Id y.Parent, k, m + 1, rfl, by omega, by omega, by omega, dropC_nd hnd2, dropC_take hnd2 hget hpre, ?_, ?_, (((((((((h.front (n := 4) rfl).front (n := 4) rfl).front (n := 4) rfl).front (n := 4) rfl).front (n := 4) rfl).front (n := 8) rfl).front (n := 8) rfl).front (n := 8) rfl).front (n := 8) rfl)⟩ (by omega)
        · rw [hid, List.length_cons] at hids; omega
        · rw [← hfold, hid, List.foldl_cons]
          congr 1
          have : dropF (⟨r.Next, r.Ports, cs, r.Pipes⟩ : RIpc).abs y.Id = ⟨r.Next, r.Ports.map RPort.abs, dropC cs y.Id y.Parent, r.Pipes.map RPipe.abs⟩ := by
            unfold dropF
            rw [hix.2]
            rfl
          exact this.symm
      · rw [w64 (n := (k : Int) + 1) (by omega) (by omega)]
        refine hJ _ _ _ ⟨tc2, cs, k + 1, m, by omega, rfl, by omega, hcm, hnd2, fun x hx => ?_, hids, hfold, h⟩ (by omega)
        rw [take_snoc' hget] at hx
        rcases List.mem_append.1 hx with hx | hx
        · exact hpre x hx
        · rw [List.mem_singleton.1 hx]; exact he
    · have hke : k = cs.length := by omega
      rw [hke, List.take_length] at hpre
      have hnil : idsF cs o.Holder = [] := by
        unfold idsF
        rw [List.filter_eq_nil_iff.2 (fun x hx => by simpa using hpre x hx)]
        rfl
      rw [hnil] at hids hfold
      refine ⟨_, h.cell 3 rfl rfl, tp, h.cell 3 rfl rfl, tc2, h.cell 3 rfl rfl, tq, h.cell 3 rfl rfl, ?_⟩
      refine (s98 (((((((h.front (n := 3) rfl).front (n := 3) rfl).front (n := 3) rfl).front (n := 3) rfl).front (n := 6) rfl).front (n := 6) rfl).front (n := 6) rfl) (by omega) (by omega)).mono ?_
      rintro _ w135 ⟨tp2, rfl, h⟩
      refine ⟨_, tp2, tc2, tq, rfl, ?_⟩
      refine h.put 4 rfl rfl rfl (fun w140 h n140 => ?_)
      refine h.put 3 rfl rfl rfl (fun w141 h n141 => ?_)
      refine ⟨_, h.cell 4 rfl rfl, tp2, h.cell 4 rfl rfl, tc2, h.cell 4 rfl rfl, tq, h.cell 4 rfl rfl, _, h.cell 3 rfl rfl, _, h.cell 3 rfl rfl, N0, h.cell 3 rfl rfl, _, h.cell 3 rfl rfl, ?_⟩
      have h := (((((h.dropAt 6).dropAt 5).dropAt 4).dropAt 3)).nil none 1
      have hfold : (⟨r.Next, r.Ports, cs, r.Pipes⟩ : RIpc).abs = (idsOf r.abs o.Holder).foldl dropF r.abs := hfold
      have hm : m = (idsOf r.abs o.Holder).length := by simpa using hids
      have hres : stepI r.abs o = (cleanF (⟨r.Next, r.Ports, cs, r.Pipes⟩ : RIpc).abs, resN (m : Int)) := by rw [hst]; unfold goneI; rw [← hfold, hm]
      rw [hres]
      refine ⟨tp2, tc2, tq, N0, ⟨r.Next, r.Ports.filter (hasR cs), cs, r.Pipes⟩, rfl, ?_, h⟩
      unfold cleanF RIpc.abs
      dsimp only
      rw [filter_abs]
  refine BIf.eq (fun k8 => ?_) (fun k8 => ?_)
  · -- a new pipe
    have hst := step_8 (d := r.abs) hbad k8
    refine ⟨tq, h.cell 3 rfl rfl, BIf.dec (fun hfull => errS (M := [_]) (by rw [hst]; unfold newPipe; rw [if_pos (by rw [abs_pipes]; omega)]) h) (fun hfull => ?_)⟩
    have hres : stepI r.abs o = (⟨r.Next + 1, r.abs.Ports, r.Caps, r.abs.Pipes ++ [⟨r.Next + 1, 1, 1, []⟩]⟩, resN (r.Next + 1)) := by rw [hst]; unfold newPipe; rw [if_neg (by rw [abs_pipes]; omega)]; rfl
    rw [hres]
    refine ⟨_, h.cell 3 rfl rfl, ?_⟩
    rw [w64 (n := r.Next + 1) (by omega) (by omega)]
    refine h.setV 3 rfl rfl (fun w176 h n176 => ?_)
    refine ⟨tq, h.cell 3 rfl rfl, _, h.cell 3 rfl rfl, ?_⟩
    refine LetW_iff.2 (SH.appendR1 (f := RPipe.cells) (x := ⟨r.Next + 1, 1, 1, N0, []⟩) ((((((((h.front (n := 6) rfl).front (n := 6) rfl).front (n := 6) rfl).front (n := 6) rfl).front (n := 6) rfl).front (n := 6) rfl).front (n := 6) rfl).front (n := 7) rfl) rfl rfl rfl (by decide) (by show (_ + _) * 48 ≤ _; omega) (plain_pipe _) (fun tq2 w181 h htq2 _ => ?_))
    refine h.setV 4 rfl rfl (fun w182 h n182 => ?_)
    have h : SH w0 w182 (rQ tq2 (r.Pipes ++ [⟨r.Next + 1, 1, 1, N0, []⟩]) :: BR rb 0 0 N0 0 :: BI ib 0 N0 N0 N0 :: BO ob o td :: BI b (r.Next + 1) tp tc tq2 :: rP tp r.Ports :: bP r.Ports :: rC tc r.Caps :: bQ r.Pipes :: F) := h
    have h := h.drew
    refine ⟨_, h.cell 4 rfl rfl, tp, h.cell 4 rfl rfl, tc, h.cell 4 rfl rfl, tq2, h.cell 4 rfl rfl, _, h.cell 4 rfl rfl, ?_⟩
    refine h.put 2 rfl rfl rfl (fun w188 h n188 => ?_)
    refine ⟨⟨_, h.cell 4 rfl rfl, rfl⟩, ?_⟩
    refine h.put 1 rfl rfl rfl (fun w190 h n190 => ?_)
    refine ⟨_, h.cell 2 rfl rfl, tp, h.cell 2 rfl rfl, tc, h.cell 2 rfl rfl, tq2, h.cell 2 rfl rfl, _, h.cell 1 rfl rfl, _, h.cell 1 rfl rfl, N0, h.cell 1 rfl rfl, _, h.cell 1 rfl rfl, ?_⟩
    have h := ((((((((((h.dropAt 4).dropAt 3).dropAt 2).dropAt 1).front (n := 0) rfl).front (n := 3) rfl).front (n := 3) rfl).front (n := 3) rfl).front (n := 4) rfl)).nil none 1
    have h := SH.bagSnoc (f := pipeA) (x := (⟨r.Next + 1, 1, 1, N0, []⟩ : RPipe)) h
    have h := ((((((h.front (n := 0) rfl).front (n := 4) rfl).front (n := 4) rfl).front (n := 4) rfl).front (n := 4) rfl)).nil none 1
    refine ⟨tp, tc, tq2, N0, ⟨r.Next + 1, r.Ports, r.Caps, r.Pipes ++ [⟨r.Next + 1, 1, 1, N0, []⟩]⟩, rfl, ?_, ?_⟩
    · unfold RIpc.abs
      rw [List.map_append]
      rfl
    · exact h
  refine JoinW.cut1 (fun (x : Bool) w' => x = decide (9 ≤ o.Kind) ∧ w' = w14) (BIf.eq (fun e => ⟨by rw [Bool.eq_iff_iff]; simp; omega, rfl⟩) (fun e => BIf.eq (fun e2 => ⟨by rw [Bool.eq_iff_iff]; simp; omega, rfl⟩) (fun e2 => ⟨by rw [Bool.eq_iff_iff]; simp; omega, rfl⟩))) ?_
  rintro (x : Bool) w201 ⟨rfl, rfl⟩
  refine BIf.dec (fun h9 => ?_) (fun h9 => ?_)
  · rw [step_wp hbad h9]
    refine ⟨_, h.cell 3 rfl rfl, tp, h.cell 3 rfl rfl, tc, h.cell 3 rfl rfl, tq, h.cell 3 rfl rfl, _, h.cell 2 rfl rfl, _, h.cell 2 rfl rfl, _, h.cell 2 rfl rfl, _, h.cell 2 rfl rfl, _, h.cell 2 rfl rfl, _, h.cell 2 rfl rfl, _, h.cell 2 rfl rfl, td, h.cell 2 rfl rfl, ?_⟩
    exact retS (X := [BO ob o td, BI b r.Next tp tc tq]) (s99 (r := r) (o := o) (((((((((h.front (n := 3) rfl).front (n := 3) rfl).front (n := 3) rfl).front (n := 3) rfl).front (n := 8) rfl).front (n := 8) rfl).front (n := 8) rfl).front (n := 8) rfl).front (n := 8) rfl) hw hi hb hbs)
  · rw [step_wc hbad (by omega)]
    refine ⟨_, h.cell 3 rfl rfl, tp, h.cell 3 rfl rfl, tc, h.cell 3 rfl rfl, tq, h.cell 3 rfl rfl, _, h.cell 2 rfl rfl, _, h.cell 2 rfl rfl, _, h.cell 2 rfl rfl, _, h.cell 2 rfl rfl, _, h.cell 2 rfl rfl, _, h.cell 2 rfl rfl, _, h.cell 2 rfl rfl, td, h.cell 2 rfl rfl, ?_⟩
    exact retS (X := [BO ob o td, BI b r.Next tp tc tq]) (s100 (r := r) (o := o) (((((((((h.front (n := 3) rfl).front (n := 3) rfl).front (n := 3) rfl).front (n := 3) rfl).front (n := 8) rfl).front (n := 8) rfl).front (n := 8) rfl).front (n := 8) rfl).front (n := 8) rfl) hw hi hb hbs)
end Go.Proofs.Ytbimoajgofcmbaa

/- Ports, capabilities, pipes: a state that can be stays one (plain). Conditions: none. -/
set_option linter.unusedVariables false
set_option linter.unusedSimpArgs false
namespace Go.Proofs.Ytbimoajgofcmbaa
open Go Go.Den
structure CapJ (d : DIpc) (c : DCap) : Prop where
  id1 : 1 ≤ c.Id
  idN : c.Id ≤ d.Next
  hold : 0 ≤ c.Holder ∧ c.Holder < 64
  r1 : 1 ≤ c.Rights
  r7 : c.Rights ≤ 7
  port : ∃ p, p ∈ d.Ports ∧ p.Id = c.Port
  par : c.Parent = 0 ∨ ∃ p, p ∈ d.Caps ∧ p.Id = c.Parent ∧ p.Id < c.Id ∧ p.Port = c.Port ∧ amongB c.Rights p.Rights = true
structure MsgJ (d : DIpc) (m : DMsg) : Prop where
  ok : MsgOk d m
  rng : ∀ x, x ∈ m.Data → 0 ≤ x ∧ x ≤ 255
structure PortJ (d : DIpc) (p : DPort) : Prop where
  id1 : 1 ≤ p.Id
  idN : p.Id ≤ d.Next
  few : p.Queue.length ≤ 8
  noCap : ∀ c, c ∈ d.Caps → c.Id ≠ p.Id
  noPipe : ∀ c, c ∈ d.Pipes → c.Id ≠ p.Id
  msgs : ∀ m, m ∈ p.Queue → MsgJ d m
structure PipeJ (d : DIpc) (p : DPipe) : Prop where
  id1 : 1 ≤ p.Id
  idN : p.Id ≤ d.Next
  noCap : ∀ c, c ∈ d.Caps → c.Id ≠ p.Id
  few : p.Data.length ≤ 512
  r : 0 ≤ p.Readers ∧ p.Readers ≤ 64
  w : 0 ≤ p.Writers ∧ p.Writers ≤ 64
  pos : 0 < p.Readers + p.Writers
  rng : ∀ x, x ∈ p.Data → 0 ≤ x ∧ x ≤ 255
structure J0 (d : DIpc) : Prop where
  nx : 0 ≤ d.Next
  caps : d.Caps.length ≤ 128
  ports : d.Ports.length ≤ 32
  pipes : d.Pipes.length ≤ 32
  cs : d.Caps.Pairwise (fun a b => a.Id < b.Id)
  ps : d.Ports.Pairwise (fun a b => a.Id < b.Id)
  qs : d.Pipes.Pairwise (fun a b => a.Id < b.Id)
  cap : ∀ c, c ∈ d.Caps → CapJ d c
  port : ∀ p, p ∈ d.Ports → PortJ d p
  pipe : ∀ p, p ∈ d.Pipes → PipeJ d p
def HasJ (d : DIpc) : Prop := ∀ p, p ∈ d.Ports → hasCap d.Caps p = true
theorem pw_sorted {α : Type} {f : α → Int} {l : List α} (h : l.Pairwise (fun a b => f a < f b)) {i : Nat} {x z : α} (hx : l[i]? = some x) (hi : 0 < i) (hz : l[i - 1]? = some z) : f z < f x := by
  obtain ⟨h1, e1⟩ := List.getElem?_eq_some_iff.1 hx
  obtain ⟨h2, e2⟩ := List.getElem?_eq_some_iff.1 hz
  have := List.pairwise_iff_getElem.1 h (i - 1) i h2 h1 (by omega)
  rw [e1, e2] at this
  exact this
theorem pw_uniq {α : Type} {f : α → Int} {l : List α} (h : l.Pairwise (fun a b => f a < f b)) {x y : α} (hx : x ∈ l) (hy : y ∈ l) (he : f x = f y) : x = y := by
  obtain ⟨i, hi⟩ := List.getElem?_of_mem hx
  obtain ⟨j, hj⟩ := List.getElem?_of_mem hy
  obtain ⟨h1, e1⟩ := List.getElem?_eq_some_iff.1 hi
  obtain ⟨h2, e2⟩ := List.getElem?_eq_some_iff.1 hj
  have hp := List.pairwise_iff_getElem.1 h
  rcases Nat.lt_trichotomy i j with hlt | hee | hlt
  · have := hp i j h1 h2 hlt; rw [e1, e2] at this; omega
  · subst hee; rw [← e1, ← e2]
  · have := hp j i h2 h1 hlt; rw [e1, e2] at this; omega
theorem J0.iok {d : DIpc} (h : J0 d) (hh : HasJ d) (hn : d.Next ≤ 1099511627776) : IOk d := by
  refine ⟨⟨h.nx, hn⟩, h.caps, h.ports, h.pipes, fun i c hc => ?_, fun i p hp => ?_, fun i p hp => ?_⟩
  · have hm := List.mem_of_getElem? hc
    have hj := h.cap c hm
    refine ⟨hj.id1, hj.idN, fun z hi hz => pw_sorted h.cs hc hi hz, hj.hold, hj.r1, hj.r7, ?_, ?_⟩
    · obtain ⟨p, hp, he⟩ := hj.port
      rcases portIx_cases d c.Port with ⟨_, _, e3⟩ | ⟨k, _, e1, _⟩
      · exact absurd he (e3 p hp)
      · omega
    · rcases hj.par with h0 | ⟨p, hp, h1, h2, h3, h4⟩
      · exact .inl h0
      · rcases capIx_cases d c.Parent with ⟨_, _, e3⟩ | ⟨k, p', e1, e2, _, e4⟩
        · exact absurd h1 (e3 p hp)
        · have : p' = p := pw_uniq h.cs (List.mem_of_getElem? e2) hp (by rw [e4, h1])
          subst this
          exact .inr ⟨k, p', e1, e2, by omega, h3, h4⟩
  · have hm := List.mem_of_getElem? hp
    have hj := h.port p hm
    refine ⟨hj.id1, hj.idN, fun z hi hz => pw_sorted h.ps hp hi hz, hj.few, ?_, ?_, fun m hm => (hj.msgs m hm).ok, ?_⟩
    · rcases capIx_cases d p.Id with ⟨e1, _, _⟩ | ⟨k, c, _, e2, _, e4⟩
      · omega
      · exact absurd e4 (hj.noCap c (List.mem_of_getElem? e2))
    · rcases pipeIx_cases d p.Id with ⟨e1, _, _⟩ | ⟨k, c, _, e2, _, e4⟩
      · omega
      · exact absurd e4 (hj.noPipe c (List.mem_of_getElem? e2))
    · obtain ⟨c, hc, he⟩ := List.any_eq_true.1 (hh p hm)
      exact ⟨c, hc, by simpa using he⟩
  · have hm := List.mem_of_getElem? hp
    have hj := h.pipe p hm
    refine ⟨hj.id1, hj.idN, fun z hi hz => pw_sorted h.qs hp hi hz, ?_, hj.few, hj.r, hj.w, hj.pos⟩
    rcases capIx_cases d p.Id with ⟨e1, _, _⟩ | ⟨k, c, _, e2, _, e4⟩
    · omega
    · exact absurd e4 (hj.noCap c (List.mem_of_getElem? e2))
theorem lit_wf {n : Int} (h0 : 0 ≤ n) (h1 : n ≤ 64) : (Lit.int .i64 n).wf = true := by
  simp only [Lit.wf, Bool.and_eq_true, decide_eq_true_eq]
  exact ⟨by show (-9223372036854775808 : Int) ≤ n; omega, by show n ≤ (9223372036854775807 : Int); omega⟩
theorem J0.wf {d : DIpc} (h : J0 d) : IWf d := by
  refine ⟨fun p hp m hm => ⟨((h.port p hp).msgs m hm).rng, ?_⟩, fun p hp => ⟨(h.pipe p hp).rng, ?_⟩, ⟨fun x hx => ?_⟩, ⟨?_, ?_, ?_⟩, fun p hp => ?_⟩
  · have := ((h.port p hp).msgs m hm).ok.2.2.1; omega
  · have := (h.pipe p hp).few; omega
  · exact ⟨lit_wf (h.pipe x hx).r.1 (h.pipe x hx).r.2, lit_wf (h.pipe x hx).w.1 (h.pipe x hx).w.2⟩
  · have := h.caps; omega
  · have := h.ports; omega
  · have := h.pipes; omega
  · have := (h.port p hp).few; omega
theorem j_empty : J0 ⟨0, [], [], []⟩ ∧ HasJ ⟨0, [], [], []⟩ :=
  ⟨⟨by decide, by decide, by decide, by decide, List.Pairwise.nil, List.Pairwise.nil, List.Pairwise.nil, fun c hc => by simp at hc, fun c hc => by simp at hc, fun c hc => by simp at hc⟩, fun p hp => by simp at hp⟩
end Go.Proofs.Ytbimoajgofcmbaa

/- Ports, capabilities, pipes: each kind of operation keeps a state that can be (plain). Conditions: none. -/
set_option linter.unusedVariables false
set_option linter.unusedSimpArgs false
namespace Go.Proofs.Ytbimoajgofcmbaa
open Go Go.Den
theorem am_refl_fin : ∀ y : Fin 8, amongB ((y.val : Nat) : Int) ((y.val : Nat) : Int) = true := by decide
theorem am_refl {y : Int} (h1 : 1 ≤ y) (h2 : y ≤ 7) : amongB y y = true := by
  have := am_refl_fin ⟨y.toNat, by omega⟩; simp only at this; rwa [show ((y.toNat : Nat) : Int) = y by omega] at this
set_option maxRecDepth 20000 in
theorem am_trans_fin : ∀ x y z : Fin 8, amongB ((x.val : Nat) : Int) ((y.val : Nat) : Int) = true → amongB ((y.val : Nat) : Int) ((z.val : Nat) : Int) = true → amongB ((x.val : Nat) : Int) ((z.val : Nat) : Int) = true := by decide
theorem am_trans {x y z : Int} (h1 : 1 ≤ x) (h2 : x ≤ 7) (h3 : 1 ≤ y) (h4 : y ≤ 7) (h5 : 1 ≤ z) (h6 : z ≤ 7) (ha : amongB x y = true) (hb : amongB y z = true) : amongB x z = true := by
  have := am_trans_fin ⟨x.toNat, by omega⟩ ⟨y.toNat, by omega⟩ ⟨z.toNat, by omega⟩
  simp only at this
  rw [show ((x.toNat : Nat) : Int) = x by omega, show ((y.toNat : Nat) : Int) = y by omega, show ((z.toNat : Nat) : Int) = z by omega] at this
  exact this ha hb
theorem MsgJ.up {d d' : DIpc} {m : DMsg} (h : MsgJ d m) (hn : d.Next ≤ d'.Next) : MsgJ d' m := by
  obtain ⟨⟨a, b, c, e, f⟩, g⟩ := h
  exact ⟨⟨a, b, c, e, by omega⟩, g⟩
theorem pw_snoc {α : Type} {f : α → Int} {l : List α} {x : α} (h : l.Pairwise (fun a b => f a < f b)) (hx : ∀ y, y ∈ l → f y < f x) : (l ++ [x]).Pairwise (fun a b => f a < f b) := by
  rw [List.pairwise_append]
  exact ⟨h, by simp, fun a ha b hb => by rw [List.mem_singleton.1 hb]; exact hx a ha⟩
theorem j_capSnoc {d : DIpc} {hl p r par : Int} (h : J0 d) (hf : d.Caps.length < 128) (h0 : 0 ≤ hl ∧ hl < 64) (r1 : 1 ≤ r) (r7 : r ≤ 7) (hp : ∃ x, x ∈ d.Ports ∧ x.Id = p)
    (hpar : par = 0 ∨ ∃ c, c ∈ d.Caps ∧ c.Id = par ∧ c.Port = p ∧ amongB r c.Rights = true) : J0 (addCap d hl p r par) := by
  have hnx := h.nx
  refine ⟨by show 0 ≤ d.Next + 1; omega, by show List.length (_ ++ _) ≤ _; rw [List.length_append]; simp; omega, h.ports, h.pipes, pw_snoc h.cs (fun y hy => by have := (h.cap y hy).idN; show y.Id < d.Next + 1; omega), h.ps, h.qs, fun c hc => ?_, fun q hq => ?_, fun q hq => ?_⟩
  · rcases List.mem_append.1 hc with hc | hc
    · have hj := h.cap c hc
      refine ⟨hj.id1, by have := hj.idN; show c.Id ≤ d.Next + 1; omega, hj.hold, hj.r1, hj.r7, hj.port, ?_⟩
      rcases hj.par with h1 | ⟨x, hx, h2⟩
      · exact .inl h1
      · exact .inr ⟨x, List.mem_append_left _ hx, h2⟩
    · rw [List.mem_singleton.1 hc]
      refine ⟨by show 1 ≤ d.Next + 1; omega, Int.le_refl _, h0, r1, r7, hp, ?_⟩
      rcases hpar with h1 | ⟨x, hx, h2, h3, h4⟩
      · exact .inl h1
      · exact .inr ⟨x, List.mem_append_left _ hx, h2, by have := (h.cap x hx).idN; show x.Id < d.Next + 1; omega, h3, h4⟩
  · have hj := h.port q hq
    refine ⟨hj.id1, by have := hj.idN; show q.Id ≤ d.Next + 1; omega, hj.few, fun c hc => ?_, hj.noPipe, fun m hm => (hj.msgs m hm).up (by show d.Next ≤ d.Next + 1; omega)⟩
    rcases List.mem_append.1 hc with hc | hc
    · exact hj.noCap c hc
    · rw [List.mem_singleton.1 hc]; have := hj.idN; show d.Next + 1 ≠ q.Id; omega
  · have hj := h.pipe q hq
    refine ⟨hj.id1, by have := hj.idN; show q.Id ≤ d.Next + 1; omega, fun c hc => ?_, hj.few, hj.r, hj.w, hj.pos, hj.rng⟩
    rcases List.mem_append.1 hc with hc | hc
    · exact hj.noCap c hc
    · rw [List.mem_singleton.1 hc]; have := hj.idN; show d.Next + 1 ≠ q.Id; omega
theorem has_app {cs : List DCap} {x : DCap} {p : DPort} (h : hasCap cs p = true) : hasCap (cs ++ [x]) p = true := by
  unfold hasCap at h ⊢
  rw [List.any_append, h]; rfl
theorem j_portSnoc {d : DIpc} (h : J0 d) (hf : d.Ports.length < 32) : J0 ⟨d.Next + 1, d.Ports ++ [⟨d.Next + 1, []⟩], d.Caps, d.Pipes⟩ := by
  have hnx := h.nx
  refine ⟨by show 0 ≤ d.Next + 1; omega, h.caps, by show List.length (_ ++ _) ≤ _; rw [List.length_append]; simp; omega, h.pipes, h.cs, pw_snoc h.ps (fun y hy => by have := (h.port y hy).idN; show y.Id < d.Next + 1; omega), h.qs, fun c hc => ?_, fun q hq => ?_, fun q hq => ?_⟩
  · have hj := h.cap c hc
    obtain ⟨x, hx, he⟩ := hj.port
    exact ⟨hj.id1, by have := hj.idN; show c.Id ≤ d.Next + 1; omega, hj.hold, hj.r1, hj.r7, ⟨x, List.mem_append_left _ hx, he⟩, hj.par⟩
  · rcases List.mem_append.1 hq with hq | hq
    · have hj := h.port q hq
      exact ⟨hj.id1, by have := hj.idN; show q.Id ≤ d.Next + 1; omega, hj.few, hj.noCap, hj.noPipe, fun m hm => (hj.msgs m hm).up (by show d.Next ≤ d.Next + 1; omega)⟩
    · rw [List.mem_singleton.1 hq]
      exact ⟨by show 1 ≤ d.Next + 1; omega, Int.le_refl _, by simp, fun c hc => by have := (h.cap c hc).idN; show c.Id ≠ d.Next + 1; omega, fun c hc => by have := (h.pipe c hc).idN; show c.Id ≠ d.Next + 1; omega, fun m hm => by simp at hm⟩
  · have hj := h.pipe q hq
    exact ⟨hj.id1, by have := hj.idN; show q.Id ≤ d.Next + 1; omega, hj.noCap, hj.few, hj.r, hj.w, hj.pos, hj.rng⟩
theorem j_pipeSnoc {d : DIpc} (h : J0 d) (hf : d.Pipes.length < 32) : J0 ⟨d.Next + 1, d.Ports, d.Caps, d.Pipes ++ [⟨d.Next + 1, 1, 1, []⟩]⟩ := by
  have hnx := h.nx
  refine ⟨by show 0 ≤ d.Next + 1; omega, h.caps, h.ports, by show List.length (_ ++ _) ≤ _; rw [List.length_append]; simp; omega, h.cs, h.ps, pw_snoc h.qs (fun y hy => by have := (h.pipe y hy).idN; show y.Id < d.Next + 1; omega), fun c hc => ?_, fun q hq => ?_, fun q hq => ?_⟩
  · have hj := h.cap c hc
    exact ⟨hj.id1, by have := hj.idN; show c.Id ≤ d.Next + 1; omega, hj.hold, hj.r1, hj.r7, hj.port, hj.par⟩
  · have hj := h.port q hq
    refine ⟨hj.id1, by have := hj.idN; show q.Id ≤ d.Next + 1; omega, hj.few, hj.noCap, fun c hc => ?_, fun m hm => (hj.msgs m hm).up (by show d.Next ≤ d.Next + 1; omega)⟩
    rcases List.mem_append.1 hc with hc | hc
    · exact hj.noPipe c hc
    · rw [List.mem_singleton.1 hc]; have := hj.idN; show d.Next + 1 ≠ q.Id; omega
  · rcases List.mem_append.1 hq with hq | hq
    · have hj := h.pipe q hq
      exact ⟨hj.id1, by have := hj.idN; show q.Id ≤ d.Next + 1; omega, hj.noCap, hj.few, hj.r, hj.w, hj.pos, hj.rng⟩
    · rw [List.mem_singleton.1 hq]
      exact ⟨by show 1 ≤ d.Next + 1; omega, Int.le_refl _, fun c hc => by have := (h.cap c hc).idN; show c.Id ≠ d.Next + 1; omega, by simp, by show (0 : Int) ≤ 1 ∧ (1 : Int) ≤ 64; omega, by show (0 : Int) ≤ 1 ∧ (1 : Int) ≤ 64; omega, by show (0 : Int) < 1 + 1; omega, fun x hx => by simp at hx⟩
theorem map_set_id {α β : Type} {f : α → β} {l : List α} {k : Nat} {x y : α} (hx : l[k]? = some x) (he : f y = f x) : (l.set k y).map f = l.map f := by
  rw [List.map_set, he, ← List.map_set, ← set_at hx]
theorem pw_ids {α : Type} {f : α → Int} {l m : List α} (h : l.Pairwise (fun a b => f a < f b)) (he : m.map f = l.map f) : m.Pairwise (fun a b => f a < f b) := by
  rw [← List.pairwise_map (f := f) (R := fun a b => a < b)] at h ⊢
  rw [he]; exact h
theorem j_setQ {d : DIpc} {k : Nat} {p : DPort} {q : List DMsg} (h : J0 d) (hk : d.Ports[k]? = some p) (hq : q.length ≤ 8) (hm : ∀ m, m ∈ q → MsgJ d m) : J0 (setQ d k p q) := by
  have hids : (d.Ports.set k ⟨p.Id, q⟩).map DPort.Id = d.Ports.map DPort.Id := map_set_id hk rfl
  have hpm := List.mem_of_getElem? hk
  refine ⟨h.nx, h.caps, by show (d.Ports.set k _).length ≤ _; rw [List.length_set]; exact h.ports, h.pipes, h.cs, pw_ids h.ps hids, h.qs, fun c hc => ?_, fun x hx => ?_, fun x hx => h.pipe x hx |> fun hj => ⟨hj.id1, hj.idN, hj.noCap, hj.few, hj.r, hj.w, hj.pos, hj.rng⟩⟩
  · have hj := h.cap c hc
    refine ⟨hj.id1, hj.idN, hj.hold, hj.r1, hj.r7, ?_, hj.par⟩
    obtain ⟨x, hx, he⟩ := hj.port
    have : c.Port ∈ (d.Ports.set k ⟨p.Id, q⟩).map DPort.Id := by rw [hids]; exact List.mem_map.2 ⟨x, hx, he⟩
    obtain ⟨y, hy, hye⟩ := List.mem_map.1 this
    exact ⟨y, hy, hye⟩
  · rcases List.mem_or_eq_of_mem_set hx with hx | rfl
    · have hj := h.port x hx
      exact ⟨hj.id1, hj.idN, hj.few, hj.noCap, hj.noPipe, fun m hm2 => (hj.msgs m hm2).up (Int.le_refl _)⟩
    · have hj := h.port p hpm
      exact ⟨hj.id1, hj.idN, hq, hj.noCap, hj.noPipe, fun m hm2 => (hm m hm2).up (Int.le_refl _)⟩
theorem has_setQ {d : DIpc} {k : Nat} {p : DPort} {q : List DMsg} (h : HasJ d) (hk : d.Ports[k]? = some p) : HasJ (setQ d k p q) := fun x hx => by
  rcases List.mem_or_eq_of_mem_set hx with hx | rfl
  · exact h x hx
  · exact h p (List.mem_of_getElem? hk)
theorem j_setP {d : DIpc} {k : Nat} {p p' : DPipe} (h : J0 d) (hk : d.Pipes[k]? = some p) (hid : p'.Id = p.Id) (hf : p'.Data.length ≤ 512) (hr : 0 ≤ p'.Readers ∧ p'.Readers ≤ 64) (hw : 0 ≤ p'.Writers ∧ p'.Writers ≤ 64) (hpos : 0 < p'.Readers + p'.Writers) (hrng : ∀ x, x ∈ p'.Data → 0 ≤ x ∧ x ≤ 255) : J0 (setP d k p') := by
  have hids : (d.Pipes.set k p').map DPipe.Id = d.Pipes.map DPipe.Id := map_set_id hk hid
  have hpm := List.mem_of_getElem? hk
  refine ⟨h.nx, h.caps, h.ports, by show (d.Pipes.set k _).length ≤ _; rw [List.length_set]; exact h.pipes, h.cs, h.ps, pw_ids h.qs hids, fun c hc => h.cap c hc |> fun hj => ⟨hj.id1, hj.idN, hj.hold, hj.r1, hj.r7, hj.port, hj.par⟩, fun x hx => ?_, fun x hx => ?_⟩
  · have hj := h.port x hx
    refine ⟨hj.id1, hj.idN, hj.few, hj.noCap, fun c hc => ?_, fun m hm2 => (hj.msgs m hm2).up (Int.le_refl _)⟩
    rcases List.mem_or_eq_of_mem_set hc with hc | rfl
    · exact hj.noPipe c hc
    · rw [hid]; exact hj.noPipe p hpm
  · rcases List.mem_or_eq_of_mem_set hx with hx | rfl
    · have hj := h.pipe x hx
      exact ⟨hj.id1, hj.idN, hj.noCap, hj.few, hj.r, hj.w, hj.pos, hj.rng⟩
    · have hj := h.pipe p hpm
      exact ⟨by rw [hid]; exact hj.id1, by rw [hid]; exact hj.idN, by rw [hid]; exact hj.noCap, hf, hr, hw, hpos, hrng⟩
theorem j_eraseP {d : DIpc} {k : Nat} (h : J0 d) : J0 ⟨d.Next, d.Ports, d.Caps, d.Pipes.eraseIdx k⟩ := by
  have hsub := List.eraseIdx_sublist d.Pipes k
  refine ⟨h.nx, h.caps, h.ports, by have := hsub.length_le; have := h.pipes; show (d.Pipes.eraseIdx k).length ≤ 32; omega, h.cs, h.ps, h.qs.sublist hsub, fun c hc => h.cap c hc |> fun hj => ⟨hj.id1, hj.idN, hj.hold, hj.r1, hj.r7, hj.port, hj.par⟩, fun x hx => ?_, fun x hx => ?_⟩
  · have hj := h.port x hx
    exact ⟨hj.id1, hj.idN, hj.few, hj.noCap, fun c hc => hj.noPipe c (hsub.mem hc), fun m hm2 => (hj.msgs m hm2).up (Int.le_refl _)⟩
  · have hj := h.pipe x (hsub.mem hx)
    exact ⟨hj.id1, hj.idN, hj.noCap, hj.few, hj.r, hj.w, hj.pos, hj.rng⟩
theorem j_clean {d : DIpc} (h : J0 d) : J0 (cleanF d) ∧ HasJ (cleanF d) := by
  have hsub : (d.Ports.filter (hasCap d.Caps)).Sublist d.Ports := List.filter_sublist
  refine ⟨⟨h.nx, h.caps, by have := hsub.length_le; have := h.ports; show (d.Ports.filter _).length ≤ 32; omega, h.pipes, h.cs, h.ps.sublist hsub, h.qs, fun c hc => ?_, fun x hx => ?_, fun x hx => h.pipe x hx |> fun hj => ⟨hj.id1, hj.idN, hj.noCap, hj.few, hj.r, hj.w, hj.pos, hj.rng⟩⟩, fun p hp => (List.mem_filter.1 hp).2⟩
  · have hj := h.cap c hc
    obtain ⟨x, hx, he⟩ := hj.port
    exact ⟨hj.id1, hj.idN, hj.hold, hj.r1, hj.r7, ⟨x, List.mem_filter.2 ⟨hx, List.any_eq_true.2 ⟨c, hc, by simp [he]⟩⟩, he⟩, hj.par⟩
  · have hj := h.port x (List.mem_filter.1 hx).1
    exact ⟨hj.id1, hj.idN, hj.few, hj.noCap, hj.noPipe, fun m hm2 => (hj.msgs m hm2).up (Int.le_refl _)⟩
theorem dropC_ids {cs : List DCap} {id up : Int} : (dropC cs id up).map DCap.Id = (cs.filter (fun x => x.Id != id)).map DCap.Id := by
  unfold dropC
  rw [List.map_map]
  refine List.map_congr_left (fun x _ => ?_)
  exact re_id _ _ _
theorem re_rights (id up : Int) (x : DCap) : (reCap id up x).Rights = x.Rights := by unfold reCap; split <;> rfl
theorem j_drop {d : DIpc} (id : Int) (h : J0 d) : J0 (dropF d id) := by
  unfold dropF
  rcases capIx_cases d id with ⟨_, e2, _⟩ | ⟨k0, c, _, e2, e3, e4⟩
  · rw [e2]; exact h
  rw [e3]
  have hcm := List.mem_of_getElem? e2
  have hcj := h.cap c hcm
  dsimp only
  have hsub : (d.Caps.filter (fun x => x.Id != id)).Sublist d.Caps := List.filter_sublist
  have hmem : ∀ y, y ∈ dropC d.Caps id c.Parent → ∃ x, x ∈ d.Caps ∧ x.Id ≠ id ∧ y = reCap id c.Parent x := fun y hy => by
    obtain ⟨x, hx, rfl⟩ := List.mem_map.1 hy
    obtain ⟨h1, h2⟩ := List.mem_filter.1 hx
    exact ⟨x, h1, by simpa using h2, rfl⟩
  have hin : ∀ x, x ∈ d.Caps → x.Id ≠ id → reCap id c.Parent x ∈ dropC d.Caps id c.Parent := fun x hx hne => List.mem_map.2 ⟨x, List.mem_filter.2 ⟨hx, by simpa using hne⟩, rfl⟩
  refine ⟨h.nx, ?_, h.ports, h.pipes, ?_, h.ps, h.qs, fun y hy => ?_, fun x hx => ?_, fun x hx => ?_⟩
  · show (dropC _ _ _).length ≤ 128
    unfold dropC
    rw [List.length_map]
    have := hsub.length_le; have := h.caps; omega
  · exact pw_ids (h.cs.sublist hsub) dropC_ids
  · obtain ⟨x, hx, hne, rfl⟩ := hmem y hy
    have hj := h.cap x hx
    refine ⟨by rw [re_id]; exact hj.id1, by rw [re_id]; exact hj.idN, by rw [re_holder]; exact hj.hold, by rw [re_rights]; exact hj.r1, by rw [re_rights]; exact hj.r7, by rw [re_port]; exact hj.port, ?_⟩
    by_cases hp : x.Parent = id
    · have hre : (reCap id c.Parent x).Parent = c.Parent := by unfold reCap; rw [if_pos hp]
      rw [hre]
      rcases hj.par with h0 | ⟨z, hz, z1, z2, z3, z4⟩
      · have := hcj.id1; omega
      · have : z = c := pw_uniq h.cs hz hcm (by rw [z1, hp, e4])
        subst this
        rcases hcj.par with h0 | ⟨z2', hz2, y1, y2, y3, y4⟩
        · exact .inl h0
        · have hzj := h.cap z2' hz2
          refine .inr ⟨reCap id z.Parent z2', hin z2' hz2 (by omega), ?_, ?_, ?_, ?_⟩
          · rw [re_id]; exact y1
          · rw [re_id, re_id]; omega
          · rw [re_port, re_port, y3, z3]
          · rw [re_rights, re_rights]; exact am_trans hj.r1 hj.r7 hcj.r1 hcj.r7 hzj.r1 hzj.r7 z4 y4
    · have hre : (reCap id c.Parent x).Parent = x.Parent := by unfold reCap; rw [if_neg hp]
      rw [hre]
      rcases hj.par with h0 | ⟨z, hz, z1, z2, z3, z4⟩
      · exact .inl h0
      · refine .inr ⟨reCap id c.Parent z, hin z hz (by omega), ?_, ?_, ?_, ?_⟩
        · rw [re_id]; exact z1
        · rw [re_id, re_id]; exact z2
        · rw [re_port, re_port, z3]
        · rw [re_rights, re_rights]; exact z4
  · have hj := h.port x hx
    refine ⟨hj.id1, hj.idN, hj.few, fun y hy => ?_, hj.noPipe, fun m hm2 => (hj.msgs m hm2).up (Int.le_refl _)⟩
    obtain ⟨z, hz, _, rfl⟩ := hmem y hy
    rw [re_id]; exact hj.noCap z hz
  · have hj := h.pipe x hx
    refine ⟨hj.id1, hj.idN, fun y hy => ?_, hj.few, hj.r, hj.w, hj.pos, hj.rng⟩
    obtain ⟨z, hz, _, rfl⟩ := hmem y hy
    rw [re_id]; exact hj.noCap z hz
theorem j_drops : ∀ (l : List Int) {d : DIpc}, J0 d → J0 (l.foldl dropF d)
  | [], _, h => h
  | a :: t, _, h => j_drops t (j_drop a h)
theorem drop_nx (d : DIpc) (id : Int) : (dropF d id).Next = d.Next := by unfold dropF; split <;> rfl
theorem drops_nx : ∀ (l : List Int) (d : DIpc), (l.foldl dropF d).Next = d.Next
  | [], _ => rfl
  | a :: t, d => (drops_nx t (dropF d a)).trans (drop_nx d a)
theorem j_rev {d : DIpc} {top : Int} (h : J0 d) (hi : IOk d) : J0 ⟨d.Next, d.Ports, revC d top, d.Pipes⟩ := by
  have hsub : (revC d top).Sublist d.Caps := by unfold revC; exact List.filter_sublist
  refine ⟨h.nx, by have := hsub.length_le; have := h.caps; show (revC d top).length ≤ 128; omega, h.ports, h.pipes, h.cs.sublist hsub, h.ps, h.qs, fun c hc => ?_, fun x hx => ?_, fun x hx => ?_⟩
  · have hcm := hsub.mem hc
    have hj := h.cap c hcm
    refine ⟨hj.id1, hj.idN, hj.hold, hj.r1, hj.r7, hj.port, ?_⟩
    rcases hj.par with h0 | ⟨p, hp, h1, h2, h3, h4⟩
    · exact .inl h0
    · refine .inr ⟨p, ?_, h1, h2, h3, h4⟩
      unfold revC at hc ⊢
      obtain ⟨_, hc2⟩ := List.mem_filter.1 hc
      have hcu : ¬ Und d top c.Id := by simpa using hc2
      have hpu : ¬ Und d top p.Id := fun hu => hcu (by
        obtain ⟨k, hk⟩ := List.getElem?_of_mem hcm
        have hp1 := (h.cap p hp).id1
        exact Und.step hk (by omega) (by rw [← h1]; exact hu))
      exact List.mem_filter.2 ⟨hp, by simpa using hpu⟩
  · have hj := h.port x hx
    exact ⟨hj.id1, hj.idN, hj.few, fun c hc => hj.noCap c (hsub.mem hc), hj.noPipe, fun m hm2 => (hj.msgs m hm2).up (Int.le_refl _)⟩
  · have hj := h.pipe x hx
    exact ⟨hj.id1, hj.idN, fun c hc => hj.noCap c (hsub.mem hc), hj.few, hj.r, hj.w, hj.pos, hj.rng⟩
structure ResJ (r : DIpcRes) : Prop where
  code : 0 ≤ r.Code ∧ r.Code ≤ 255
  n : 0 ≤ r.N ∧ r.N ≤ 1125899906842624
  from_ : 0 ≤ r.From ∧ r.From ≤ 64
  few : r.Data.length ≤ 1024
  rng : ∀ x, x ∈ r.Data → 0 ≤ x ∧ x ≤ 255
theorem resE_j {c : Int} (h0 : 0 ≤ c) (h1 : c ≤ 255) : ResJ (resE c) := ⟨⟨h0, h1⟩, by show (0 : Int) ≤ 0 ∧ (0 : Int) ≤ _; omega, by show (0 : Int) ≤ 0 ∧ (0 : Int) ≤ _; omega, by show 0 ≤ _; omega, fun x hx => by simp [resE] at hx⟩
theorem resN_j {n : Int} (h0 : 0 ≤ n) (h1 : n ≤ 1125899906842624) : ResJ (resN n) := ⟨by show (0 : Int) ≤ 0 ∧ (0 : Int) ≤ _; omega, ⟨h0, h1⟩, by show (0 : Int) ≤ 0 ∧ (0 : Int) ≤ _; omega, by show 0 ≤ _; omega, fun x hx => by simp [resN] at hx⟩
structure StepJ (d : DIpc) (res : IRes) : Prop where
  j : J0 res.1
  has : HasJ res.1
  nx : res.1.Next ≤ d.Next + 2
  res : ResJ res.2
theorem sj_err {d : DIpc} {c : Int} (h : J0 d) (hh : HasJ d) (h0 : 0 ≤ c) (h1 : c ≤ 255) : StepJ d (d, resE c) := ⟨h, hh, by show d.Next ≤ d.Next + 2; omega, resE_j h0 h1⟩
theorem step_j {d : DIpc} {o : DIpcOp} (h : J0 d) (hh : HasJ d) (hn : d.Next ≤ 1099511627776) (hb : ∀ x, x ∈ o.Data → 0 ≤ x ∧ x ≤ 255) : StepJ d (stepI d o) := by
  have hi := h.iok hh hn
  have hnx := h.nx
  by_cases hbad : BadO o
  · rw [step_bad hbad]; exact sj_err h hh (by omega) (by omega)
  have hbad2 := hbad
  unfold BadO at hbad2
  by_cases k1 : o.Kind = 1
  · rw [step_1 hbad k1]; unfold newPort; split
    · exact sj_err h hh (by omega) (by omega)
    · rename_i hf
      have h1 := j_portSnoc h (by omega)
      have h2 := j_capSnoc (hl := o.Holder) (p := d.Next + 1) (r := 7) (par := 0) h1 (by show d.Caps.length < 128; omega) (by omega) (by omega) (by omega) ⟨_, List.mem_append_right _ (List.mem_singleton.2 rfl), rfl⟩ (.inl rfl)
      have e : d.Next + 1 + 1 = d.Next + 2 := by omega
      refine ⟨?_, fun p hp => ?_, Int.le_refl _, resN_j (by omega) (by omega)⟩
      · have h3 : J0 ⟨d.Next + 1 + 1, d.Ports ++ [⟨d.Next + 1, []⟩], d.Caps ++ [⟨d.Next + 1 + 1, o.Holder, d.Next + 1, 7, 0⟩], d.Pipes⟩ := h2
        rw [e] at h3
        exact h3
      · rcases List.mem_append.1 hp with hp | hp
        · exact has_app (hh p hp)
        · rw [List.mem_singleton.1 hp]
          exact List.any_eq_true.2 ⟨_, List.mem_append_right _ (List.mem_singleton.2 rfl), by simp⟩
  by_cases k7 : o.Kind = 7
  · rw [step_7 hbad k7]; unfold goneI
    have h1 := j_drops (idsOf d o.Holder) h
    have h2 := j_clean h1
    have hl : (idsOf d o.Holder).length ≤ 128 := by
      unfold idsOf; rw [List.length_map]
      have := List.length_filter_le (fun c : DCap => c.Holder == o.Holder) d.Caps; have := h.caps; omega
    exact ⟨h2.1, h2.2, by show ((idsOf d o.Holder).foldl dropF d).Next ≤ _; rw [drops_nx]; omega, resN_j (by omega) (by omega)⟩
  by_cases k8 : o.Kind = 8
  · rw [step_8 hbad k8]; unfold newPipe; split
    · exact sj_err h hh (by omega) (by omega)
    · exact ⟨j_pipeSnoc h (by omega), hh, by show d.Next + 1 ≤ d.Next + 2; omega, resN_j (by omega) (by omega)⟩
  by_cases k9 : 9 ≤ o.Kind
  · rcases pipeIx_cases d o.Id with ⟨_, e2, _⟩ | ⟨k, p, e1, e2, e3, e4⟩
    · rw [step_p0 hbad k9 e2]; exact sj_err h hh (by omega) (by omega)
    rw [step_p hbad k9 e3, e1, Int.toNat_natCast]
    have hpj := h.pipe p (List.mem_of_getElem? e2)
    have hpr := hpj.r
    have hpw := hpj.w
    have hpf := hpj.few
    have hpp := hpj.pos
    unfold pipeI; split
    · unfold endsI; split
      · exact sj_err h hh (by omega) (by omega)
      · split
        · exact ⟨j_eraseP h, hh, by show d.Next ≤ _; omega, resN_j (by omega) (by omega)⟩
        · exact ⟨j_setP h e2 rfl hpf (by show 0 ≤ p.Readers + o.To ∧ p.Readers + o.To ≤ 64; omega) (by show 0 ≤ p.Writers + o.N ∧ p.Writers + o.N ≤ 64; omega) (by show 0 < p.Readers + o.To + (p.Writers + o.N); omega) hpj.rng, hh, by show d.Next ≤ _; omega, resN_j (by omega) (by omega)⟩
    · split
      · unfold writeI; split
        · exact sj_err h hh (by omega) (by omega)
        · split
          · exact sj_err h hh (by omega) (by omega)
          · have hw1 : wlen o p ≤ 512 - p.Data.length := by unfold wlen; omega
            refine ⟨j_setP h e2 rfl ?_ hpr hpw hpp ?_, hh, by show d.Next ≤ _; omega, resN_j (by omega) (by omega)⟩
            · rw [List.length_append, List.length_take]; omega
            · intro x hx
              rcases List.mem_append.1 hx with hx | hx
              · exact hpj.rng x hx
              · exact hb x (List.mem_of_mem_take hx)
      · unfold readI; split
        · exact sj_err h hh (by omega) (by omega)
        · split
          · exact sj_err h hh (by omega) (by omega)
          · refine ⟨j_setP h e2 rfl ?_ hpr hpw hpp (fun x hx => hpj.rng x (List.mem_of_mem_drop hx)), hh, by show d.Next ≤ _; omega, ⟨by show (0 : Int) ≤ 0 ∧ (0 : Int) ≤ _; omega, by show (0 : Int) ≤ 0 ∧ (0 : Int) ≤ _; omega, by show (0 : Int) ≤ 0 ∧ (0 : Int) ≤ _; omega, ?_, fun x hx => hpj.rng x (List.mem_of_mem_take hx)⟩⟩
            · rw [List.length_drop]; omega
            · show (p.Data.take _).length ≤ _
              rw [List.length_take]; omega
  have k26 : 2 ≤ o.Kind ∧ o.Kind ≤ 6 := by omega
  rcases capIx_cases d o.Id with ⟨_, e2, _⟩ | ⟨k0, c, _, e2, e3, e4⟩
  · rw [step_c0 hbad k26 e2]; exact sj_err h hh (by omega) (by omega)
  by_cases hhd : c.Holder = o.Holder
  rotate_left
  · rw [step_ch hbad k26 e3 hhd]; exact sj_err h hh (by omega) (by omega)
  rw [step_c hbad k26 e3 hhd]
  have hcm := List.mem_of_getElem? e2
  have hcj := h.cap c hcm
  unfold capI
  split
  · unfold giveI; split
    · exact sj_err h hh (by omega) (by omega)
    · split
      · exact sj_err h hh (by omega) (by omega)
      · split
        · exact sj_err h hh (by omega) (by omega)
        · rename_i hbd ham hfull
          refine ⟨j_capSnoc h (by omega) (by omega) (by omega) (by omega) hcj.port (.inr ⟨c, hcm, rfl, rfl, ?_⟩), fun p hp => has_app (hh p hp), by show d.Next + 1 ≤ _; omega, resN_j (by omega) (by omega)⟩
          cases hq : amongB o.Rights c.Rights with
          | true => rfl
          | false => exact absurd (.inr hq) ham
  split
  · have hlen : (revC d o.Id).length ≤ d.Caps.length := by unfold revC; exact List.length_filter_le ..
    have := h.caps
    exact ⟨j_rev h hi, rev_has hi hcm e4, by show d.Next ≤ _; omega, resN_j (by omega) (by omega)⟩
  split
  · have h2 := j_clean (j_drop o.Id h)
    exact ⟨h2.1, h2.2, by show (dropF d o.Id).Next ≤ _; rw [drop_nx]; omega, resN_j (by omega) (by omega)⟩
  split
  · have hpush : o.Data.length ≤ 64 → (0 ≤ o.Cap ∧ o.Cap ≤ d.Next) → StepJ d (pushI d o c) := fun hdl hoc => by
      unfold pushI; split
      · exact sj_err h hh (by omega) (by omega)
      · rcases portIx_cases d c.Port with ⟨e1, f2, f3⟩ | ⟨kp, P, f1, f2, f3, f4⟩
        · rw [f2]; exact sj_err h hh (by omega) (by omega)
        · rw [f3, f1, Int.toNat_natCast]
          dsimp only
          split
          · exact sj_err h hh (by omega) (by omega)
          · have hpj := h.port P (List.mem_of_getElem? f2)
            refine ⟨j_setQ h f2 (by rw [List.length_append]; simp; omega) (fun m hm => ?_), has_setQ hh f2, by show d.Next ≤ _; omega, resN_j (by omega) (by omega)⟩
            rcases List.mem_append.1 hm with hm | hm
            · exact hpj.msgs m hm
            · rw [List.mem_singleton.1 hm]
              exact ⟨⟨by show 0 ≤ o.Holder; omega, by show o.Holder < 64; omega, hdl, hoc.1, hoc.2⟩, hb⟩
    unfold sendI; split
    · exact sj_err h hh (by omega) (by omega)
    · split
      · exact sj_err h hh (by omega) (by omega)
      · split
        · rcases capIx_cases d o.Cap with ⟨_, f2, _⟩ | ⟨k1, c', _, f2, f3, f4⟩
          · rw [f2]; exact sj_err h hh (by omega) (by omega)
          · rw [f3]; dsimp only
            split
            · exact sj_err h hh (by omega) (by omega)
            · split
              · exact sj_err h hh (by omega) (by omega)
              · have := h.cap c' (List.mem_of_getElem? f2)
                exact hpush (by omega) ⟨by have := this.id1; omega, by have := this.idN; omega⟩
        · exact hpush (by omega) (by omega)
  · unfold recvI; split
    · exact sj_err h hh (by omega) (by omega)
    · rcases portIx_cases d c.Port with ⟨e1, f2, f3⟩ | ⟨kp, P, f1, f2, f3, f4⟩
      · rw [f2]; exact sj_err h hh (by omega) (by omega)
      · rw [f3, f1, Int.toNat_natCast]
        dsimp only
        have hpj := h.port P (List.mem_of_getElem? f2)
        have hpf := hpj.few
        cases hq : P.Queue with
        | nil => exact sj_err h hh (by omega) (by omega)
        | cons m rest =>
          dsimp only
          have hmm := hpj.msgs m (by rw [hq]; simp)
          rw [hq] at hpf
          simp only [List.length_cons] at hpf
          have hqj := j_setQ (q := rest) h f2 (by omega) (fun x hx => hpj.msgs x (by rw [hq]; simp [hx]))
          have hqh := has_setQ (q := rest) hh f2
          obtain ⟨⟨m1, m2, m3, m4, m5⟩, m6⟩ := hmm
          have hres : ∀ n : Int, 0 ≤ n → n ≤ 1125899906842624 → ResJ ⟨0, n, m.Data, m.From⟩ := fun n n0 n1 => ⟨by show (0 : Int) ≤ 0 ∧ (0 : Int) ≤ _; omega, ⟨n0, n1⟩, ⟨m1, by show m.From ≤ 64; omega⟩, by show m.Data.length ≤ 1024; omega, m6⟩
          rcases capIx_cases d m.Cap with ⟨_, g2, _⟩ | ⟨k1, c', _, g2, g3, g4⟩
          · rw [g2]; exact ⟨hqj, hqh, by show d.Next ≤ _; omega, hres 0 (by omega) (by omega)⟩
          · rw [g3]; dsimp only
            have hc'm := List.mem_of_getElem? g2
            have hc'j := h.cap c' hc'm
            split
            · refine ⟨j_capSnoc hqj (by show d.Caps.length < 128; omega) (by omega) hc'j.r1 hc'j.r7 ?_ (.inr ⟨c', hc'm, g4, rfl, am_refl hc'j.r1 hc'j.r7⟩), fun p hp => has_app (hqh p hp), by show d.Next + 1 ≤ _; omega, hres _ (by omega) (by omega)⟩
              exact (hqj.cap c' hc'm).port
            · exact ⟨hqj, hqh, by show d.Next ≤ _; omega, hres 0 (by omega) (by omega)⟩
end Go.Proofs.Ytbimoajgofcmbaa

/- Ports, capabilities, pipes: a run, both sides. Conditions: none. -/
set_option linter.unusedVariables false
set_option linter.unusedSimpArgs false
namespace Go.Proofs.Ytbimoajgofcmbaa
open Go Go.Den
structure RRes where
  C : Int
  N : Int
  t : Sl
  From : Int
  Data : List Int
def RRes.cells (x : RRes) : List Value := [.int .i64 x.C, .int .i64 x.N, .slice x.t.a x.t.len x.t.cap, .int .i64 x.From]
def RRes.abs (x : RRes) : DIpcRes := ⟨x.C, x.N, x.Data, x.From⟩
def resA (x : RRes) : Asr := rD x.t x.Data
abbrev rR (t : Sl) (l : List RRes) : Asr := aRow t 4 (recs RRes.cells l)
abbrev bR (l : List RRes) : Asr := aBag resA l
theorem plain_res (x : RRes) : ∀ v, v ∈ x.cells → plainB v = true := fun v hv => by
  simp only [RRes.cells, List.mem_cons, List.not_mem_nil, or_false] at hv
  rcases hv with rfl | rfl | rfl | rfl <;> rfl
structure OpAt (w : World) (q : Addr) (k : Nat) (o : DIpcOp) (td : Sl) : Prop where
  c0 : w.cell? ((q.add (k * 8)).add 0) = some (.int .i64 o.Kind)
  c1 : w.cell? ((q.add (k * 8)).add 1) = some (.int .i64 o.Holder)
  c2 : w.cell? ((q.add (k * 8)).add 2) = some (.int .i64 o.Id)
  c3 : w.cell? ((q.add (k * 8)).add 3) = some (.int .i64 o.To)
  c4 : w.cell? ((q.add (k * 8)).add 4) = some (.int .i64 o.Rights)
  c5 : w.cell? ((q.add (k * 8)).add 5) = some (.int .i64 o.Cap)
  c6 : w.cell? ((q.add (k * 8)).add 6) = some (.int .i64 o.N)
  c7 : w.cell? ((q.add (k * 8)).add 7) = some (.slice td.a td.len td.cap)
  by_ : ByAt w td o.Data
  few : o.Data.length ≤ 1048576
theorem OpAt.ext {w w' : World} {q : Addr} {k : Nat} {o : DIpcOp} {td : Sl} (h : OpAt w q k o td) (e : Ext w w') : OpAt w' q k o td :=
  ⟨e.cell h.c0, e.cell h.c1, e.cell h.c2, e.cell h.c3, e.cell h.c4, e.cell h.c5, e.cell h.c6, e.cell h.c7, h.by_.ext e, h.few⟩
structure OpsAt (w : World) (s : Sl) (ops : List DIpcOp) : Prop where
  len : s.len = ops.length
  get : ∀ k o, ops[k]? = some o → ∃ (q : Addr) (td : Sl), s.a = some q ∧ OpAt w q k o td
abbrev D0 : DIpc := ⟨0, [], [], []⟩
noncomputable def runF (ops : List DIpcOp) : DIpc × List DIpcRes := ops.foldl (fun a o => ((stepI a.1 o).1, a.2 ++ [(stepI a.1 o).2])) (D0, [])
noncomputable def runR (ops : List DIpcOp) : List DIpcRes := if 400 < ops.length then [] else (runF ops).2
structure RunJ (k : Nat) (a : DIpc × List DIpcRes) : Prop where
  j : J0 a.1
  has : HasJ a.1
  nx : a.1.Next ≤ 2 * (k : Int)
  len : a.2.length = k
  res : ∀ r, r ∈ a.2 → ResJ r
theorem run_snoc {ops : List DIpcOp} {k : Nat} {o : DIpcOp} (h : ops[k]? = some o) : runF (ops.take (k + 1)) = ((stepI (runF (ops.take k)).1 o).1, (runF (ops.take k)).2 ++ [(stepI (runF (ops.take k)).1 o).2]) := by
  unfold runF
  rw [foldl_snoc h]
theorem run_j {ops : List DIpcOp} (hb : ∀ o, o ∈ ops → ∀ x, x ∈ o.Data → 0 ≤ x ∧ x ≤ 255) (hl : ops.length ≤ 400) : ∀ k, k ≤ ops.length → RunJ k (runF (ops.take k))
  | 0, _ => ⟨j_empty.1, j_empty.2, by show (0 : Int) ≤ _; omega, rfl, fun r hr => by simp [runF] at hr⟩
  | k + 1, hk => by
    have h := run_j hb hl k (by omega)
    have hget : ops[k]? = some ops[k] := List.getElem?_eq_getElem (by omega)
    rw [run_snoc hget]
    have hnx := h.nx
    have hs := step_j (o := ops[k]) h.j h.has (by omega) (hb _ (List.getElem_mem _))
    have hsn := hs.nx
    refine ⟨hs.j, hs.has, by dsimp only; omega, by dsimp only; rw [List.length_append, h.len]; rfl, fun r hr => ?_⟩
    rcases List.mem_append.1 hr with hr | hr
    · exact h.res r hr
    · rw [List.mem_singleton.1 hr]; exact hs.res
def RunR (ops : List DIpcOp) (w : World) (v : Value) (w' : World) : Prop := ∃ (t : Sl) (rs : List RRes), v = .slice t.a t.len t.cap ∧ rs.map RRes.abs = runR ops ∧ SH w w' [rR t rs, bR rs]
theorem ops_rng {w : World} {s : Sl} {ops : List DIpcOp} (h : OpsAt w s ops) : ∀ o, o ∈ ops → ∀ x, x ∈ o.Data → 0 ≤ x ∧ x ≤ 255 := fun o ho => by
  obtain ⟨k, hk⟩ := List.getElem?_of_mem ho
  obtain ⟨q, td, _, hop⟩ := h.get k o hk
  exact hop.by_.rng
theorem emptyS {w0 w : World} {F : List Asr} (h : SH w0 w F) : SH w0 w (rP N0 [] :: bP [] :: rC N0 [] :: rQ N0 [] :: bQ [] :: F) :=
  ((((h.bagNil pipeA).nil none 4).nil none 5).bagNil portA).nil none 2
set_option maxHeartbeats 2000000 in
theorem s28 {w : World} {s : Sl} {ops : List DIpcOp} (ho : OpsAt w s ops) : CallW Try.prog 28 #[.slice s.a s.len s.cap] w (RunR ops w) := by
  refine go28 ?_
  unfold W28
  have hsl := ho.len
  have h := SH.start w
  refine BIf.dec (fun hgt => ?_) (fun hle => ?_)
  · refine ⟨N0, [], rfl, by unfold runR; rw [if_pos (by omega)]; rfl, ?_⟩
    exact (h.bagNil resA).nil none 4
  have hol : ops.length ≤ 400 := by omega
  have hrj := run_j (ops_rng ho) hol
  refine h.alloc (fun w1 h e1 n1 => ?_)
  have h : SH w w1 (rR N0 [] :: bR [] :: BI w.heap.size 0 N0 N0 N0 :: rP N0 [] :: bP [] :: rC N0 [] :: rQ N0 [] :: bQ [] :: []) := (((emptyS h).front (n := 5) rfl).bagNil resA).nil none 4
  generalize w.heap.size = b at *
  refine LoopW.m2 (fun (l : Sl) (i : Int) w' => ∃ (k : Nat) (rs : List RRes) (r : RIpc) (tp tc tq : Sl), i = k ∧ k ≤ ops.length ∧ r.abs = (runF (ops.take k)).1 ∧ rs.map RRes.abs = (runF (ops.take k)).2 ∧ SH w w' (rR l rs :: bR rs :: BI b r.Next tp tc tq :: rP tp r.Ports :: bP r.Ports :: rC tc r.Caps :: rQ tq r.Pipes :: bQ r.Pipes :: [])) (fun _ (i : Int) _ => (ops.length - i).toNat) ⟨0, [], ⟨0, [], [], []⟩, N0, N0, N0, rfl, by omega, rfl, rfl, h⟩ ?_
  clear h
  rintro (l : Sl) (i : Int) w5 ⟨k, rs, r, tp, tc, tq, rfl, hk, hr, hrs, h⟩ J hJ
  have hj := hrj k hk
  have hrl : rs.length = k := by have := hj.len; rw [← hrs, List.length_map] at this; exact this
  refine BIf.dec (fun hlt => ?_) (fun hge => ?_)
  · have hget : ops[k]? = some ops[k] := List.getElem?_eq_getElem (by omega)
    have hsn := run_snoc hget
    generalize ops[k] = o at *
    obtain ⟨q, td, hq, hop⟩ := ho.get k o hget
    simp only [Int.toNat_natCast]
    rw [w64 (n := (k : Int) + 1) (by omega) (by omega)]
    have H := hop.ext h.ext
    refine ⟨by omega, by omega, q, hq, _, H.c0, _, H.c1, _, H.c2, _, H.c3, _, H.c4, _, H.c5, _, H.c6, td, H.c7, ?_⟩
    refine h.alloc (fun w15 h e15 n15 => ?_)
    refine h.put 0 rfl rfl rfl (fun w16 h n16 => ?_)
    refine h.alloc (fun w17 h e17 n17 => ?_)
    have h : SH w w17 (BR w16.heap.size 0 0 N0 0 :: BO w5.heap.size o td :: rR l rs :: bR rs :: BI b r.Next tp tc tq :: rP tp r.Ports :: bP r.Ports :: rC tc r.Caps :: rQ tq r.Pipes :: bQ r.Pipes :: []) := h
    have hnx := hj.nx
    have hio : IOk r.abs := by rw [hr]; exact hj.j.iok hj.has (by omega)
    have hiw : IWf r.abs := by rw [hr]; exact hj.j.wf
    have hil : ILent w17 tp tc tq r.abs := ⟨ipc_at (F := []) (h.drop.drop.drop.drop.drop) hiw, hiw⟩
    refine ⟨_, h.cell 4 rfl rfl, tp, h.cell 4 rfl rfl, tc, h.cell 4 rfl rfl, tq, h.cell 4 rfl rfl, _, h.cell 1 rfl rfl, _, h.cell 1 rfl rfl, _, h.cell 1 rfl rfl, _, h.cell 1 rfl rfl, _, h.cell 1 rfl rfl, _, h.cell 1 rfl rfl, _, h.cell 1 rfl rfl, td, h.cell 1 rfl rfl, ?_⟩
    have hcall := s36 (o := o) hil (hop.by_.ext h.ext) hop.few
    have hst : stepA r.abs o = stepI (runF (ops.take k)).1 o := by unfold stepA; rw [if_pos hio, hr]
    rw [hst] at hcall
    generalize stepI (runF (ops.take k)).1 o = res at *
    refine hcall.mono ?_
    rintro _ w31 ⟨tp2, tc2, tq2, t, r2, rfl, hr2, g⟩
    have h := h.seq g
    refine ⟨_, tp2, tc2, tq2, _, _, t, _, rfl, ?_⟩
    have h : SH w w31 (rD t res.2.Data :: rP tp2 r2.Ports :: bP r2.Ports :: rC tc2 r2.Caps :: rQ tq2 r2.Pipes :: bQ r2.Pipes :: BR w16.heap.size 0 0 N0 0 :: BO w5.heap.size o td :: rR l rs :: bR rs :: BI b r.Next tp tc tq :: rP tp r.Ports :: bP r.Ports :: rC tc r.Caps :: rQ tq r.Pipes :: bQ r.Pipes :: []) := h
    refine h.put 10 rfl rfl rfl (fun w40 h n40 => ?_)
    refine h.put 6 rfl rfl rfl (fun w41 h n41 => ?_)
    refine ⟨_, h.cell 6 rfl rfl, _, h.cell 6 rfl rfl, t, h.cell 6 rfl rfl, _, h.cell 6 rfl rfl, ?_⟩
    have h := ((((((((((((((((h.dropAt 15).dropAt 14).dropAt 13).dropAt 12).dropAt 11).dropAt 7).dropAt 6).front (n := 5) rfl).front (n := 5) rfl).front (n := 5) rfl).front (n := 5) rfl).front (n := 5) rfl).front (n := 8) rfl).front (n := 8) rfl).front (n := 7) rfl).front (n := 8) rfl)
    refine LetW_iff.2 (SH.appendR1 (f := RRes.cells) (x := ⟨res.2.Code, res.2.N, t, res.2.From, res.2.Data⟩) h rfl rfl rfl (by decide) (by show (_ + _) * 48 ≤ _; omega) (plain_res _) (fun l2 w48 h hl2 _ => ?_))
    have h := SH.bagSnoc (f := resA) (x := (⟨res.2.Code, res.2.N, t, res.2.From, res.2.Data⟩ : RRes)) (((h.front (n := 0) rfl).front (n := 2) rfl).front (n := 2) rfl)
    refine hJ _ _ _ ⟨k + 1, rs ++ [⟨res.2.Code, res.2.N, t, res.2.From, res.2.Data⟩], r2, tp2, tc2, tq2, by omega, by omega, by rw [hsn]; exact hr2, by rw [hsn, List.map_append, hrs]; rfl, ?_⟩ (by omega)
    exact h.p1
  · have hke : k = ops.length := by omega
    rw [hke, List.take_length] at hrs
    exact ⟨l, rs, rfl, by rw [hrs]; unfold runR; rw [if_neg (by omega)], h.take 2⟩
set_option maxHeartbeats 4000000 in
theorem s26 {w : World} {s : Sl} {ops : List DIpcOp} (ho : OpsAt w s ops) : CallW Try.prog 26 #[.slice s.a s.len s.cap] w (RunR ops w) := by
  refine go26 ?_
  unfold W26
  have hsl := ho.len
  have h := SH.start w
  refine h.alloc (fun w1 h e1 n1 => ?_)
  refine BIf.dec (fun hgt => ?_) (fun hle => ?_)
  · refine ⟨⟨some ⟨w.heap.size, 0, none⟩, 0, 0⟩, [], rfl, by unfold runR; rw [if_pos (by omega)]; rfl, ?_⟩
    exact (h.drop.bagNil resA).nil _ 4
  have hol : ops.length ≤ 400 := by omega
  have hrj := run_j (ops_rng ho) hol
  refine h.alloc (fun w2 h e2 n2 => ?_)
  refine h.put 0 rfl rfl rfl (fun w3 h n3 => ?_)
  have h : SH w w3 (rR ⟨some ⟨w.heap.size, 0, none⟩, 0, 0⟩ [] :: bR [] :: BI w1.heap.size 0 N0 N0 N0 :: rP N0 [] :: bP [] :: rC N0 [] :: rQ N0 [] :: bQ [] :: []) := (((emptyS (h.dropAt 1)).front (n := 5) rfl).bagNil resA).nil _ 4
  generalize w1.heap.size = b at *
  refine LoopW.m2 (fun (l : Sl) (i : Int) w' => ∃ (k : Nat) (rs : List RRes) (r : RIpc) (tp tc tq : Sl), i = k ∧ k ≤ ops.length ∧ r.abs = (runF (ops.take k)).1 ∧ rs.map RRes.abs = (runF (ops.take k)).2 ∧ SH w w' (rR l rs :: bR rs :: BI b r.Next tp tc tq :: rP tp r.Ports :: bP r.Ports :: rC tc r.Caps :: rQ tq r.Pipes :: bQ r.Pipes :: [])) (fun _ (i : Int) _ => (ops.length - i).toNat) ⟨0, [], ⟨0, [], [], []⟩, N0, N0, N0, rfl, by omega, rfl, rfl, h⟩ ?_
  clear h
  rintro (l : Sl) (i : Int) w7 ⟨k, rs, r, tp, tc, tq, rfl, hk, hr, hrs, h⟩ J hJ
  have hj := hrj k hk
  have hrl : rs.length = k := by have := hj.len; rw [← hrs, List.length_map] at this; exact this
  refine BIf.dec (fun hlt => ?_) (fun hge => ?_)
  · have hget : ops[k]? = some ops[k] := List.getElem?_eq_getElem (by omega)
    have hsn := run_snoc hget
    generalize ops[k] = o at *
    obtain ⟨q, td, hq, hop⟩ := ho.get k o hget
    simp only [Int.toNat_natCast]
    rw [w64 (n := (k : Int) + 1) (by omega) (by omega)]
    have hnx := hj.nx
    have hio : IOk r.abs := by rw [hr]; exact hj.j.iok hj.has (by omega)
    have hiw : IWf r.abs := by rw [hr]; exact hj.j.wf
    have h := (((((((((h.front (n := 2) rfl).front (n := 2) rfl).front (n := 2) rfl).front (n := 7) rfl).front (n := 7) rfl).front (n := 7) rfl).front (n := 7) rfl).front (n := 7) rfl)).drew
    refine JoinW.cut2 (fun (p8 p9 : Option Addr) w' => ∃ (a b2 : Nat) (tp2 tc2 tq2 t : Sl) (r2 : RIpc), p8 = some ⟨a, 0, none⟩ ∧ p9 = some ⟨b2, 0, none⟩ ∧ r2.abs = (stepI r.abs o).1 ∧ SH w w' (BI a r2.Next tp2 tc2 tq2 :: BR b2 (stepI r.abs o).2.Code (stepI r.abs o).2.N t (stepI r.abs o).2.From :: rD t (stepI r.abs o).2.Data :: rP tp2 r2.Ports :: bP r2.Ports :: rC tc2 r2.Caps :: rQ tq2 r2.Pipes :: bQ r2.Pipes :: rR l rs :: bR rs :: BI b r.Next tp tc tq :: [])) ?_ ?_
    · have H := hop.ext h.ext
      refine ⟨_, h.cell 7 rfl rfl, tp, h.cell 7 rfl rfl, tc, h.cell 7 rfl rfl, tq, h.cell 7 rfl rfl, by omega, by omega, q, hq, _, H.c0, _, H.c1, _, H.c2, _, H.c3, _, H.c4, _, H.c5, _, H.c6, td, H.c7, ?_, ?_, ?_, trivial⟩
      · refine (s67 (r := r) (o := o) h hiw hio (hop.by_) hop.few).mono ?_
        rintro _ w166 ⟨tp2, tc2, tq2, t, r2, rfl, hr2, h⟩
        refine ⟨_, tp2, tc2, tq2, _, _, t, _, rfl, ?_⟩
        refine ⟨?_, ?_, trivial⟩
        · refine h.alloc (fun w203 h e203 n203 => ?_)
          have H := hop.ext h.ext
          refine ⟨⟨_, H.c0, _, H.c1, _, H.c2, _, H.c3, _, H.c4, _, H.c5, _, H.c6, td, H.c7, rfl⟩, ⟨_, h.cell 9 rfl rfl, tp, h.cell 9 rfl rfl, tc, h.cell 9 rfl rfl, tq, h.cell 9 rfl rfl, rfl⟩, ?_, trivial⟩
          refine h.alloc (fun w216 h e216 n216 => ?_)
          have H := hop.ext h.ext
          refine ⟨⟨_, H.c0, _, H.c1, _, H.c2, _, H.c3, _, H.c4, _, H.c5, _, H.c6, td, H.c7, rfl⟩, ⟨_, h.cell 10 rfl rfl, tp, h.cell 10 rfl rfl, tc, h.cell 10 rfl rfl, tq, h.cell 10 rfl rfl, rfl⟩, ?_, trivial⟩
          refine h.put 1 rfl rfl rfl (fun w229 h n229 => ?_)
          refine ⟨?_, trivial⟩
          refine h.put 0 rfl rfl rfl (fun w230 h n230 => ?_)
          exact ⟨_, _, tp2, tc2, tq2, t, r2, rfl, rfl, hr2, ((h.front (n := 0) rfl).front (n := 1) rfl)⟩
        · refine h.alloc (fun w203 h e203 n203 => ?_)
          have H := hop.ext h.ext
          refine ⟨⟨_, H.c0, _, H.c1, _, H.c2, _, H.c3, _, H.c4, _, H.c5, _, H.c6, td, H.c7, rfl⟩, ⟨_, h.cell 9 rfl rfl, tp, h.cell 9 rfl rfl, tc, h.cell 9 rfl rfl, tq, h.cell 9 rfl rfl, rfl⟩, ?_, trivial⟩
          refine h.alloc (fun w216 h e216 n216 => ?_)
          have H := hop.ext h.ext
          refine ⟨⟨_, H.c0, _, H.c1, _, H.c2, _, H.c3, _, H.c4, _, H.c5, _, H.c6, td, H.c7, rfl⟩, ⟨_, h.cell 10 rfl rfl, tp, h.cell 10 rfl rfl, tc, h.cell 10 rfl rfl, tq, h.cell 10 rfl rfl, rfl⟩, ?_, trivial⟩
          refine h.put 0 rfl rfl rfl (fun w229 h n229 => ?_)
          refine ⟨?_, trivial⟩
          refine h.put 1 rfl rfl rfl (fun w230 h n230 => ?_)
          exact ⟨_, _, tp2, tc2, tq2, t, r2, rfl, rfl, hr2, h⟩
      · refine h.alloc (fun w102 h e102 n102 => ?_)
        have H := hop.ext h.ext
        refine ⟨⟨_, H.c0, _, H.c1, _, H.c2, _, H.c3, _, H.c4, _, H.c5, _, H.c6, td, H.c7, rfl⟩, ⟨_, h.cell 8 rfl rfl, tp, h.cell 8 rfl rfl, tc, h.cell 8 rfl rfl, tq, h.cell 8 rfl rfl, rfl⟩, ?_, ?_, trivial⟩
        · have h := ((((((h.front (n := 0) rfl).front (n := 5) rfl).front (n := 5) rfl).front (n := 5) rfl).front (n := 5) rfl).front (n := 5) rfl)
          refine (s67 (r := r) (o := o) h hiw hio (hop.by_) hop.few).mono ?_
          rintro _ w141 ⟨tp2, tc2, tq2, t, r2, rfl, hr2, h⟩
          refine ⟨_, tp2, tc2, tq2, _, _, t, _, rfl, ?_⟩
          refine ⟨?_, trivial⟩
          refine h.alloc (fun w150 h e150 n150 => ?_)
          have H := hop.ext h.ext
          refine ⟨⟨_, H.c0, _, H.c1, _, H.c2, _, H.c3, _, H.c4, _, H.c5, _, H.c6, td, H.c7, rfl⟩, ⟨_, h.cell 10 rfl rfl, tp, h.cell 10 rfl rfl, tc, h.cell 10 rfl rfl, tq, h.cell 10 rfl rfl, rfl⟩, ?_, trivial⟩
          refine h.put 7 rfl rfl rfl (fun w163 h n163 => ?_)
          refine ⟨?_, trivial⟩
          refine h.put 0 rfl rfl rfl (fun w164 h n164 => ?_)
          exact ⟨_, _, tp2, tc2, tq2, t, r2, rfl, rfl, hr2, ((((((((h.front (n := 6) rfl).front (n := 6) rfl).front (n := 6) rfl).front (n := 6) rfl).front (n := 6) rfl).front (n := 6) rfl).front (n := 6) rfl).front (n := 7) rfl)⟩
        · refine h.alloc (fun w115 h e115 n115 => ?_)
          have H := hop.ext h.ext
          refine ⟨⟨_, H.c0, _, H.c1, _, H.c2, _, H.c3, _, H.c4, _, H.c5, _, H.c6, td, H.c7, rfl⟩, ⟨_, h.cell 9 rfl rfl, tp, h.cell 9 rfl rfl, tc, h.cell 9 rfl rfl, tq, h.cell 9 rfl rfl, rfl⟩, ?_, trivial⟩
          have h := (((((((h.front (n := 1) rfl).front (n := 1) rfl).front (n := 6) rfl).front (n := 6) rfl).front (n := 6) rfl).front (n := 6) rfl).front (n := 6) rfl)
          refine (s67 (r := r) (o := o) h hiw hio (hop.by_) hop.few).mono ?_
          rintro _ w129 ⟨tp2, tc2, tq2, t, r2, rfl, hr2, h⟩
          refine ⟨_, tp2, tc2, tq2, _, _, t, _, rfl, ?_⟩
          refine ⟨?_, trivial⟩
          refine h.put 7 rfl rfl rfl (fun w138 h n138 => ?_)
          refine ⟨?_, trivial⟩
          refine h.put 6 rfl rfl rfl (fun w139 h n139 => ?_)
          exact ⟨_, _, tp2, tc2, tq2, t, r2, rfl, rfl, hr2, ((((((((h.front (n := 5) rfl).front (n := 5) rfl).front (n := 5) rfl).front (n := 5) rfl).front (n := 5) rfl).front (n := 5) rfl).front (n := 6) rfl).front (n := 7) rfl)⟩
      · refine h.alloc (fun w102 h e102 n102 => ?_)
        have H := hop.ext h.ext
        refine ⟨⟨_, H.c0, _, H.c1, _, H.c2, _, H.c3, _, H.c4, _, H.c5, _, H.c6, td, H.c7, rfl⟩, ⟨_, h.cell 8 rfl rfl, tp, h.cell 8 rfl rfl, tc, h.cell 8 rfl rfl, tq, h.cell 8 rfl rfl, rfl⟩, ?_, ?_, trivial⟩
        · have h := ((((((h.front (n := 0) rfl).front (n := 5) rfl).front (n := 5) rfl).front (n := 5) rfl).front (n := 5) rfl).front (n := 5) rfl)
          refine (s67 (r := r) (o := o) h hiw hio (hop.by_) hop.few).mono ?_
          rintro _ w141 ⟨tp2, tc2, tq2, t, r2, rfl, hr2, h⟩
          refine ⟨_, tp2, tc2, tq2, _, _, t, _, rfl, ?_⟩
          refine ⟨?_, trivial⟩
          refine h.alloc (fun w150 h e150 n150 => ?_)
          have H := hop.ext h.ext
          refine ⟨⟨_, H.c0, _, H.c1, _, H.c2, _, H.c3, _, H.c4, _, H.c5, _, H.c6, td, H.c7, rfl⟩, ⟨_, h.cell 10 rfl rfl, tp, h.cell 10 rfl rfl, tc, h.cell 10 rfl rfl, tq, h.cell 10 rfl rfl, rfl⟩, ?_, trivial⟩
          refine h.put 0 rfl rfl rfl (fun w163 h n163 => ?_)
          refine ⟨?_, trivial⟩
          refine h.put 7 rfl rfl rfl (fun w164 h n164 => ?_)
          exact ⟨_, _, tp2, tc2, tq2, t, r2, rfl, rfl, hr2, ((((((((h.front (n := 6) rfl).front (n := 6) rfl).front (n := 6) rfl).front (n := 6) rfl).front (n := 6) rfl).front (n := 6) rfl).front (n := 7) rfl).front (n := 7) rfl)⟩
        · refine h.alloc (fun w115 h e115 n115 => ?_)
          have H := hop.ext h.ext
          refine ⟨⟨_, H.c0, _, H.c1, _, H.c2, _, H.c3, _, H.c4, _, H.c5, _, H.c6, td, H.c7, rfl⟩, ⟨_, h.cell 9 rfl rfl, tp, h.cell 9 rfl rfl, tc, h.cell 9 rfl rfl, tq, h.cell 9 rfl rfl, rfl⟩, ?_, trivial⟩
          have h := (((((((h.front (n := 1) rfl).front (n := 1) rfl).front (n := 6) rfl).front (n := 6) rfl).front (n := 6) rfl).front (n := 6) rfl).front (n := 6) rfl)
          refine (s67 (r := r) (o := o) h hiw hio (hop.by_) hop.few).mono ?_
          rintro _ w129 ⟨tp2, tc2, tq2, t, r2, rfl, hr2, h⟩
          refine ⟨_, tp2, tc2, tq2, _, _, t, _, rfl, ?_⟩
          refine ⟨?_, trivial⟩
          refine h.put 6 rfl rfl rfl (fun w138 h n138 => ?_)
          refine ⟨?_, trivial⟩
          refine h.put 7 rfl rfl rfl (fun w139 h n139 => ?_)
          exact ⟨_, _, tp2, tc2, tq2, t, r2, rfl, rfl, hr2, ((((((((h.front (n := 5) rfl).front (n := 5) rfl).front (n := 5) rfl).front (n := 5) rfl).front (n := 5) rfl).front (n := 5) rfl).front (n := 7) rfl).front (n := 7) rfl)⟩
    clear h
    rw [hr]
    generalize stepI (runF (ops.take k)).1 o = res at *
    rintro (p8 : Option Addr) (p9 : Option Addr) w11 ⟨a, b2, tp2, tc2, tq2, t, r2, rfl, rfl, hr2, h⟩
    refine ⟨_, h.cellP 0 rfl rfl, tp2, h.cellP 0 rfl rfl, tc2, h.cellP 0 rfl rfl, tq2, h.cellP 0 rfl rfl, ?_⟩
    refine h.put 10 rfl rfl rfl (fun w17 h n17 => ?_)
    refine ⟨_, h.cellP 1 rfl rfl, _, h.cellP 1 rfl rfl, t, h.cellP 1 rfl rfl, _, h.cellP 1 rfl rfl, ?_⟩
    have h := (((((((((((h.dropAt 1).dropAt 0).front (n := 5) rfl).front (n := 5) rfl).front (n := 5) rfl).front (n := 5) rfl).front (n := 5) rfl).front (n := 8) rfl).front (n := 8) rfl).front (n := 7) rfl).front (n := 8) rfl)
    refine LetW_iff.2 (SH.appendR1 (f := RRes.cells) (x := ⟨res.2.Code, res.2.N, t, res.2.From, res.2.Data⟩) h rfl rfl rfl (by decide) (by show (_ + _) * 48 ≤ _; omega) (plain_res _) (fun l2 w48 h hl2 _ => ?_))
    have h := SH.bagSnoc (f := resA) (x := (⟨res.2.Code, res.2.N, t, res.2.From, res.2.Data⟩ : RRes)) (((h.front (n := 0) rfl).front (n := 2) rfl).front (n := 2) rfl)
    refine hJ _ _ _ ⟨k + 1, rs ++ [⟨res.2.Code, res.2.N, t, res.2.From, res.2.Data⟩], r2, tp2, tc2, tq2, by omega, by omega, by rw [hsn]; exact hr2, by rw [hsn, List.map_append, hrs]; rfl, ?_⟩ (by omega)
    exact h.p1
  · have hke : k = ops.length := by omega
    rw [hke, List.take_length] at hrs
    exact ⟨l, rs, rfl, by rw [hrs]; unfold runR; rw [if_neg (by omega)], h.take 2⟩
end Go.Proofs.Ytbimoajgofcmbaa

/- The law's own functions over trees: copies, sizes, comparisons, marks; printed by a program. Conditions: none. -/
set_option linter.unusedVariables false
set_option linter.unusedSimpArgs false
set_option maxRecDepth 4000
namespace Go.Proofs.Ytbimoajgofcmbaa
open Go Go.Den
theorem has_IpcOp {d : Dat} (h : Has TyIpcOp d) : ∃ x_0 : Int, ∃ x_1 : Int, ∃ x_2 : Int, ∃ x_3 : Int, ∃ x_4 : Int, ∃ x_5 : Int, ∃ x_6 : Int, ∃ l_7 : List Dat, d = .st [.int .i64 x_0, .int .i64 x_1, .int .i64 x_2, .int .i64 x_3, .int .i64 x_4, .int .i64 x_5, .int .i64 x_6, .sl 1 l_7] ∧ (∀ e, e ∈ l_7 → Has (.int .u8) e) := by
  obtain ⟨_, rfl, g⟩ := has_st h
  obtain ⟨_, _, rfl, h_0, g⟩ := hasF_cons g
  obtain ⟨_, _, rfl, h_1, g⟩ := hasF_cons g
  obtain ⟨_, _, rfl, h_2, g⟩ := hasF_cons g
  obtain ⟨_, _, rfl, h_3, g⟩ := hasF_cons g
  obtain ⟨_, _, rfl, h_4, g⟩ := hasF_cons g
  obtain ⟨_, _, rfl, h_5, g⟩ := hasF_cons g
  obtain ⟨_, _, rfl, h_6, g⟩ := hasF_cons g
  obtain ⟨_, _, rfl, h_7, g⟩ := hasF_cons g
  obtain rfl := hasF_nil g
  obtain ⟨x_0, rfl⟩ := has_int h_0
  obtain ⟨x_1, rfl⟩ := has_int h_1
  obtain ⟨x_2, rfl⟩ := has_int h_2
  obtain ⟨x_3, rfl⟩ := has_int h_3
  obtain ⟨x_4, rfl⟩ := has_int h_4
  obtain ⟨x_5, rfl⟩ := has_int h_5
  obtain ⟨x_6, rfl⟩ := has_int h_6
  obtain ⟨l_7, rfl, t_7⟩ := has_sl h_7
  exact ⟨x_0, x_1, x_2, x_3, x_4, x_5, x_6, l_7, rfl, t_7⟩
theorem cells_IpcOp {w : World} {x_0 : Int} {x_1 : Int} {x_2 : Int} {x_3 : Int} {x_4 : Int} {x_5 : Int} {x_6 : Int} {l_7 : List Dat} {cs : List Value} (h : IsD w (.st [.int .i64 x_0, .int .i64 x_1, .int .i64 x_2, .int .i64 x_3, .int .i64 x_4, .int .i64 x_5, .int .i64 x_6, .sl 1 l_7]) cs) : ∃ s_7 : Sl, cs = [.int .i64 x_0, .int .i64 x_1, .int .i64 x_2, .int .i64 x_3, .int .i64 x_4, .int .i64 x_5, .int .i64 x_6, .slice s_7.a s_7.len s_7.cap] ∧ ((Lit.int .i64 x_0).wf = true) ∧ ((Lit.int .i64 x_1).wf = true) ∧ ((Lit.int .i64 x_2).wf = true) ∧ ((Lit.int .i64 x_3).wf = true) ∧ ((Lit.int .i64 x_4).wf = true) ∧ ((Lit.int .i64 x_5).wf = true) ∧ ((Lit.int .i64 x_6).wf = true) ∧ (IsD w (.sl 1 l_7) [.slice s_7.a s_7.len s_7.cap]) := by
  have q := isD_st h
  obtain ⟨_, _, rfl, i_0, q⟩ := isF_cons q
  obtain ⟨_, _, rfl, i_1, q⟩ := isF_cons q
  obtain ⟨_, _, rfl, i_2, q⟩ := isF_cons q
  obtain ⟨_, _, rfl, i_3, q⟩ := isF_cons q
  obtain ⟨_, _, rfl, i_4, q⟩ := isF_cons q
  obtain ⟨_, _, rfl, i_5, q⟩ := isF_cons q
  obtain ⟨_, _, rfl, i_6, q⟩ := isF_cons q
  obtain ⟨_, _, rfl, i_7, q⟩ := isF_cons q
  obtain rfl := isF_nil q
  obtain ⟨rfl, ws_0⟩ := isD_int i_0
  obtain ⟨rfl, ws_1⟩ := isD_int i_1
  obtain ⟨rfl, ws_2⟩ := isD_int i_2
  obtain ⟨rfl, ws_3⟩ := isD_int i_3
  obtain ⟨rfl, ws_4⟩ := isD_int i_4
  obtain ⟨rfl, ws_5⟩ := isD_int i_5
  obtain ⟨rfl, ws_6⟩ := isD_int i_6
  obtain ⟨s_7, rfl⟩ := isD_sl_s i_7
  have is_7 := i_7
  exact ⟨s_7, rfl, ws_0, ws_1, ws_2, ws_3, ws_4, ws_5, ws_6, is_7⟩
theorem has_IpcRes {d : Dat} (h : Has TyIpcRes d) : ∃ x_0 : Int, ∃ x_1 : Int, ∃ l_2 : List Dat, ∃ x_3 : Int, d = .st [.int .i64 x_0, .int .i64 x_1, .sl 1 l_2, .int .i64 x_3] ∧ (∀ e, e ∈ l_2 → Has (.int .u8) e) := by
  obtain ⟨_, rfl, g⟩ := has_st h
  obtain ⟨_, _, rfl, h_0, g⟩ := hasF_cons g
  obtain ⟨_, _, rfl, h_1, g⟩ := hasF_cons g
  obtain ⟨_, _, rfl, h_2, g⟩ := hasF_cons g
  obtain ⟨_, _, rfl, h_3, g⟩ := hasF_cons g
  obtain rfl := hasF_nil g
  obtain ⟨x_0, rfl⟩ := has_int h_0
  obtain ⟨x_1, rfl⟩ := has_int h_1
  obtain ⟨l_2, rfl, t_2⟩ := has_sl h_2
  obtain ⟨x_3, rfl⟩ := has_int h_3
  exact ⟨x_0, x_1, l_2, x_3, rfl, t_2⟩
theorem cells_IpcRes {w : World} {x_0 : Int} {x_1 : Int} {l_2 : List Dat} {x_3 : Int} {cs : List Value} (h : IsD w (.st [.int .i64 x_0, .int .i64 x_1, .sl 1 l_2, .int .i64 x_3]) cs) : ∃ s_2 : Sl, cs = [.int .i64 x_0, .int .i64 x_1, .slice s_2.a s_2.len s_2.cap, .int .i64 x_3] ∧ ((Lit.int .i64 x_0).wf = true) ∧ ((Lit.int .i64 x_1).wf = true) ∧ (IsD w (.sl 1 l_2) [.slice s_2.a s_2.len s_2.cap]) ∧ ((Lit.int .i64 x_3).wf = true) := by
  have q := isD_st h
  obtain ⟨_, _, rfl, i_0, q⟩ := isF_cons q
  obtain ⟨_, _, rfl, i_1, q⟩ := isF_cons q
  obtain ⟨_, _, rfl, i_2, q⟩ := isF_cons q
  obtain ⟨_, _, rfl, i_3, q⟩ := isF_cons q
  obtain rfl := isF_nil q
  obtain ⟨rfl, ws_0⟩ := isD_int i_0
  obtain ⟨rfl, ws_1⟩ := isD_int i_1
  obtain ⟨s_2, rfl⟩ := isD_sl_s i_2
  have is_2 := i_2
  obtain ⟨rfl, ws_3⟩ := isD_int i_3
  exact ⟨s_2, rfl, ws_0, ws_1, is_2, ws_3⟩
/- szByteS -/
theorem c38 {d : Dat} {cs : List Value} {left : Int} {w : World} (ht : Has TyIpcOp d) (h : IsD w d cs) (h0 : 0 ≤ left) (hl : left ≤ 4611686018427387904) : CallW Try.prog 38 #[.agg ⟨cs⟩, .int .i64 left] w (fun v w' => SzPost d.sz left v ∧ Ext w w') := by
  obtain ⟨x_0, x_1, x_2, x_3, x_4, x_5, x_6, l_7, rfl, t_7⟩ := has_IpcOp ht
  obtain ⟨s_7, rfl, ws_0, ws_1, ws_2, ws_3, ws_4, ws_5, ws_6, is_7⟩ := cells_IpcOp h
  show CallW Try.prog 38 #[.agg #[.int .i64 x_0, .int .i64 x_1, .int .i64 x_2, .int .i64 x_3, .int .i64 x_4, .int .i64 x_5, .int .i64 x_6, .slice s_7.a s_7.len s_7.cap], .int .i64 left] w _
  refine go38 ?_
  unfold W38
  refine alloc_step (fun w1 e ha n1 => ?_)
  have hmx : maxLen = 9223372036854775807 := rfl
  have hx : (0 : Int) ≤ left ∧ left ≤ left := ⟨h0, Int.le_refl _⟩
  have hd := Int.sub_zero left
  refine ⟨s_7, ha.cell 7, (c77 t_7 (IsD.ext e _ _ is_7) (by omega) (by omega)).mono ?_⟩
  rintro _ w2 ⟨⟨r2, rfl, hr2⟩, e2⟩
  have ha := ha.ext e2
  have e := Only.trans e e2
  refine ⟨r2, rfl, BIf.dec (fun hn => ⟨⟨_, rfl, .inr ⟨by omega, by simp only [Dat.sz, Dat.szs] at *; omega⟩⟩, e⟩) (fun hp2 => ?_)⟩
  exact ⟨⟨_, rfl, .inl ⟨by simp only [Dat.sz, Dat.szs] at *; omega, by omega⟩⟩, e⟩

/- szIpcOpS -/
theorem c25 {l : List Dat} {a0 : Sl} {left : Int} {w : World} (ht : ∀ e, e ∈ l → Has TyIpcOp e) (h : IsD w (.sl 8 l) [.slice a0.a a0.len a0.cap]) (h0 : 0 ≤ left) (hl : left ≤ 4611686018427387904) : CallW Try.prog 25 #[.slice a0.a a0.len a0.cap, .int .i64 left] w (fun v w' => SzPost (Dat.sl 8 l).sz left v ∧ Ext w w') := by
  refine go25 ?_
  unfold W25
  obtain ⟨hlen, hmax, hel⟩ := isD_sl h
  have hmx : maxLen = 9223372036854775807 := rfl
  rw [hlen, w64 (by omega) (by omega)]
  refine BIf.dec (fun hn => ⟨⟨_, rfl, .inr ⟨by omega, by simp only [Dat.sz]; omega⟩⟩, Only.refl _ _⟩) (fun hp => ?_)
  refine LoopW.m2 (fun (x i : Int) w' => ∃ k : Nat, i = k ∧ k ≤ l.length ∧ Ext w w' ∧ x = left - l.length - Dat.szs (l.take k) ∧ 0 ≤ x) (fun _ (i : Int) _ => (l.length - i).toNat) ⟨0, rfl, by omega, Only.refl _ _, by simp [Dat.szs], by omega⟩ ?_
  rintro (x : Int) (i : Int) w4 ⟨k, rfl, hk, e4, hx, hx0⟩ J hJ
  refine BIf.dec (fun hlt => ?_) (fun hge => ?_)
  · obtain ⟨d, hd⟩ : ∃ d, l[k]? = some d := ⟨_, List.getElem?_eq_getElem (by omega)⟩
    have hsz := szs_get hd
    have hst := szs_take hd
    obtain ⟨p, es, hp, he, hc, his⟩ := isD_at (IsD.ext e4 _ _ h) hd
    have ht0 := ht d (mem_get hd)
    have ht1 := ht0
    obtain ⟨x_0, x_1, x_2, x_3, x_4, x_5, x_6, l_7, rfl, t_7⟩ := has_IpcOp ht1
    have his0 := his
    obtain ⟨s_7, rfl, ws_0, ws_1, ws_2, ws_3, ws_4, ws_5, ws_6, is_7⟩ := cells_IpcOp his
    refine ⟨by omega, by omega, p, hp, _, hc 0 _ rfl, _, hc 1 _ rfl, _, hc 2 _ rfl, _, hc 3 _ rfl, _, hc 4 _ rfl, _, hc 5 _ rfl, _, hc 6 _ rfl, s_7, hc 7 _ rfl, (c38 (cs := [.int .i64 x_0, .int .i64 x_1, .int .i64 x_2, .int .i64 x_3, .int .i64 x_4, .int .i64 x_5, .int .i64 x_6, .slice s_7.a s_7.len s_7.cap]) ht0 his0 hx0 (by omega)).mono ?_⟩
    rintro _ w9 ⟨⟨r, rfl, hr⟩, e9⟩
    refine ⟨r, rfl, BIf.dec (fun hn => ⟨⟨_, rfl, .inr ⟨by omega, by simp only [Dat.sz] at *; omega⟩⟩, Only.trans e4 e9⟩) (fun hp => ?_)⟩
    rw [w64 (by omega) (by omega)]
    refine hJ _ _ _ ⟨k + 1, by omega, by omega, Only.trans e4 e9, by rw [hst]; omega, by omega⟩ (by omega)
  · rw [List.take_of_length_le (by omega)] at hx
    exact ⟨⟨_, rfl, .inl ⟨by simp only [Dat.sz]; omega, hx0⟩⟩, e4⟩

/- toByteS -/
theorem c39 {d : Dat} {cs : List Value} {w : World} (ht : Has TyIpcOp d) (h : IsD w d cs) (hs : d.sz ≤ 4194304) : CallW Try.prog 39 #[.agg ⟨cs⟩] w (fun v w' => ∃ cs', v = .agg ⟨cs'⟩ ∧ Fr w.heap.size w'.heap.size w' d cs' ∧ Ext w w') := by
  obtain ⟨x_0, x_1, x_2, x_3, x_4, x_5, x_6, l_7, rfl, t_7⟩ := has_IpcOp ht
  obtain ⟨s_7, rfl, ws_0, ws_1, ws_2, ws_3, ws_4, ws_5, ws_6, is_7⟩ := cells_IpcOp h
  show CallW Try.prog 39 #[.agg #[.int .i64 x_0, .int .i64 x_1, .int .i64 x_2, .int .i64 x_3, .int .i64 x_4, .int .i64 x_5, .int .i64 x_6, .slice s_7.a s_7.len s_7.cap]] w _
  refine go39 ?_
  unfold W39
  refine alloc_step (fun w1 e1 ha n1 => ?_)
  refine alloc_step (fun w2 e2 hc n2 => ?_)
  have ha := ha.ext e2
  refine alloc_step (fun w3 e3 hb n3 => ?_)
  have ha := ha.ext e3
  have hc := hc.ext e3
  have e := Only.trans e1 (Only.trans e2 e3)
  refine ⟨_, ha.cell 0, ?_⟩
  refine set_step hb (by simp) (fun w4 o4 hb n4 => ?_)
  have ha := ha.only o4 (by omega)
  have hc := hc.only o4 (by omega)
  have e := Ext.own e o4 (fun k hk => by omega)
  refine ⟨_, ha.cell 1, ?_⟩
  refine set_step hb (by simp) (fun w5 o5 hb n5 => ?_)
  have ha := ha.only o5 (by omega)
  have hc := hc.only o5 (by omega)
  have e := Ext.own e o5 (fun k hk => by omega)
  refine ⟨_, ha.cell 2, ?_⟩
  refine set_step hb (by simp) (fun w6 o6 hb n6 => ?_)
  have ha := ha.only o6 (by omega)
  have hc := hc.only o6 (by omega)
  have e := Ext.own e o6 (fun k hk => by omega)
  refine ⟨_, ha.cell 3, ?_⟩
  refine set_step hb (by simp) (fun w7 o7 hb n7 => ?_)
  have ha := ha.only o7 (by omega)
  have hc := hc.only o7 (by omega)
  have e := Ext.own e o7 (fun k hk => by omega)
  refine ⟨_, ha.cell 4, ?_⟩
  refine set_step hb (by simp) (fun w8 o8 hb n8 => ?_)
  have ha := ha.only o8 (by omega)
  have hc := hc.only o8 (by omega)
  have e := Ext.own e o8 (fun k hk => by omega)
  refine ⟨_, ha.cell 5, ?_⟩
  refine set_step hb (by simp) (fun w9 o9 hb n9 => ?_)
  have ha := ha.only o9 (by omega)
  have hc := hc.only o9 (by omega)
  have e := Ext.own e o9 (fun k hk => by omega)
  refine ⟨_, ha.cell 6, ?_⟩
  refine set_step hb (by simp) (fun w10 o10 hb n10 => ?_)
  have ha := ha.only o10 (by omega)
  have hc := hc.only o10 (by omega)
  have e := Ext.own e o10 (fun k hk => by omega)
  refine ⟨s_7, ha.cell 7, ?_⟩
  refine (c78 t_7 (IsD.ext e _ _ is_7) (by simp only [Dat.sz, Dat.szs] at hs ⊢; omega)).mono ?_
  rintro _ w11 ⟨r_7, rfl, f_7, e11⟩
  refine ⟨r_7, rfl, ?_⟩
  have ha := ha.ext e11
  have hb := hb.ext e11
  have hc := hc.ext e11
  have e := Only.trans e e11
  have z11 := e11.size
  refine set_step hb (by simp) (fun w12 o12 hb n12 => ?_)
  have ha := ha.only o12 (by omega)
  have hc := hc.only o12 (by omega)
  have e := Ext.own e o12 (fun k hk => by omega)
  have f_7 := f_7.only o12 (fun k _ _ => by omega)
  refine ⟨_, hb.cell 0, _, hb.cell 1, _, hb.cell 2, _, hb.cell 3, _, hb.cell 4, _, hb.cell 5, _, hb.cell 6, r_7, hb.cell 7, ?_⟩
  refine put_step hc rfl rfl (fun w13 o13 hc n13 => ?_)
  have e := Ext.own e o13 (fun k hk => by omega)
  have f_7 := f_7.only o13 (fun k _ _ => by omega)
  refine ⟨_, hc.cell 0, _, hc.cell 1, _, hc.cell 2, _, hc.cell 3, _, hc.cell 4, _, hc.cell 5, _, hc.cell 6, r_7, hc.cell 7, ?_⟩
  exact ⟨[.int .i64 x_0, .int .i64 x_1, .int .i64 x_2, .int .i64 x_3, .int .i64 x_4, .int .i64 x_5, .int .i64 x_6, .slice r_7.a r_7.len r_7.cap], rfl, frF_st (frF_cons (m := w.heap.size) (fr_int ws_0) (frF_cons (m := w.heap.size) (fr_int ws_1) (frF_cons (m := w.heap.size) (fr_int ws_2) (frF_cons (m := w.heap.size) (fr_int ws_3) (frF_cons (m := w.heap.size) (fr_int ws_4) (frF_cons (m := w.heap.size) (fr_int ws_5) (frF_cons (m := w.heap.size) (fr_int ws_6) (frF_cons (m := w11.heap.size) (f_7.mono (by omega) (Nat.le_refl _)) (frF_nil) (by omega) (by omega)) (by omega) (by omega)) (by omega) (by omega)) (by omega) (by omega)) (by omega) (by omega)) (by omega) (by omega)) (by omega) (by omega)) (by omega) (by omega)), e⟩

/- toIpcOpS -/
theorem c27 {l : List Dat} {a0 : Sl} {w : World} (ht : ∀ e, e ∈ l → Has TyIpcOp e) (h : IsD w (.sl 8 l) [.slice a0.a a0.len a0.cap]) (hs : (Dat.sl 8 l).sz ≤ 4194304) : CallW Try.prog 27 #[.slice a0.a a0.len a0.cap] w (fun v w' => ∃ s : Sl, v = .slice s.a s.len s.cap ∧ Fr w.heap.size w'.heap.size w' (.sl 8 l) [.slice s.a s.len s.cap] ∧ Ext w w') := by
  refine go27 ?_
  unfold W27
  obtain ⟨hlen, hmax, hel⟩ := isD_sl h
  simp only [Dat.sz] at hs
  rw [hlen]; simp only [Int.toNat_natCast]
  refine ⟨by omega, by omega, by omega, by omega, LetW_iff.2 ?_⟩
  have hs0 := ToInv.start (w := w) (z := 8) (zero := ti61.zero) (e := 61) l rfl
  generalize w.alloc (.cells ⟨zerosOf ti61.zero l.length⟩ 61) = w1 at *
  refine LoopW.m1 (fun (i : Int) w' => ∃ (k : Nat) (bs : List Nat) (vs : List Value), i = k ∧ ToInv w w' w.heap.size 8 l k bs vs) (fun (i : Int) _ => (l.length - i).toNat) ⟨0, [], _, rfl, hs0⟩ ?_
  rintro (i : Int) w4 ⟨k, bs, vs, rfl, hi⟩ J hJ
  refine BIf.dec (fun hlt => ?_) (fun hge => ?_)
  · obtain ⟨d, hd⟩ : ∃ d, l[k]? = some d := ⟨_, List.getElem?_eq_getElem (by omega)⟩
    have hsz := szs_get hd
    obtain ⟨p, es, hp, he, hc, his⟩ := isD_at (IsD.ext hi.ext _ _ h) hd
    have ht0 := ht d (mem_get hd)
    obtain ⟨x_0, x_1, x_2, x_3, x_4, x_5, x_6, l_7, rfl, t_7⟩ := has_IpcOp ht0
    have his0 := his
    obtain ⟨s_7, rfl, ws_0, ws_1, ws_2, ws_3, ws_4, ws_5, ws_6, is_7⟩ := cells_IpcOp his
    refine ⟨by omega, by omega, p, hp, _, hc 0 _ rfl, _, hc 1 _ rfl, _, hc 2 _ rfl, _, hc 3 _ rfl, _, hc 4 _ rfl, _, hc 5 _ rfl, _, hc 6 _ rfl, s_7, hc 7 _ rfl, (c39 (cs := [.int .i64 x_0, .int .i64 x_1, .int .i64 x_2, .int .i64 x_3, .int .i64 x_4, .int .i64 x_5, .int .i64 x_6, .slice s_7.a s_7.len s_7.cap]) ht0 his0 (by omega)).mono ?_⟩
    rintro _ w9 ⟨r, rfl, f, e9⟩
    have hr := f.is
    obtain ⟨r_7, rfl, wr_0, wr_1, wr_2, wr_3, wr_4, wr_5, wr_6, ir_7⟩ := cells_IpcOp hr
    obtain ⟨b1, ho, hn, hb⟩ := f
    obtain ⟨hm, hi2⟩ := hi.step hd e9 ho hn (fun c hc => (hb c hc).1) rfl
    refine ⟨_, _, _, _, _, _, _, r_7, rfl, by omega, by omega, _, rfl, hm, LetW_iff.2 ?_⟩
    rw [w64 (by omega) (by omega)]
    exact hJ _ _ ⟨k + 1, _, _, by omega, hi2⟩ (by omega)
  · exact ⟨⟨some ⟨w.heap.size, 0, none⟩, l.length, l.length⟩, rfl, (hi.done (by omega) hmax).fr, hi.ext⟩

/- eqByteS -/
theorem c40 {d : Dat} {cs1 cs2 : List Value} {w : World} (ht : Has TyIpcRes d) (h : IsD w d cs1) (h2 : IsD w d cs2) : CallW Try.prog 40 #[.agg ⟨cs1⟩, .agg ⟨cs2⟩] w (fun v w' => v = .bool true ∧ Ext w w') := by
  obtain ⟨x_0, x_1, l_2, x_3, rfl, t_2⟩ := has_IpcRes ht
  obtain ⟨s_2, rfl, ws_0, ws_1, is_2, ws_3⟩ := cells_IpcRes h
  obtain ⟨u_2, rfl, wu_0, wu_1, iu_2, wu_3⟩ := cells_IpcRes h2
  show CallW Try.prog 40 #[.agg #[.int .i64 x_0, .int .i64 x_1, .slice s_2.a s_2.len s_2.cap, .int .i64 x_3], .agg #[.int .i64 x_0, .int .i64 x_1, .slice u_2.a u_2.len u_2.cap, .int .i64 x_3]] w _
  refine go40 ?_
  unfold W40
  refine alloc_step (fun w1 e1 ha n1 => ?_)
  refine alloc_step (fun w2 e2 hb n2 => ?_)
  have ha := ha.ext e2
  have e := Only.trans e1 e2
  refine ⟨_, ha.cell 0, _, hb.cell 0, BIf.f (by simp) ?_⟩
  refine ⟨_, ha.cell 1, _, hb.cell 1, BIf.f (by simp) ?_⟩
  refine ⟨s_2, ha.cell 2, u_2, hb.cell 2, (c79 t_2 (IsD.ext e _ _ is_2) (IsD.ext e _ _ iu_2)).mono ?_⟩
  rintro _ w3 ⟨rfl, e3⟩
  have ha := ha.ext e3
  have hb := hb.ext e3
  have e := Only.trans e e3
  refine ⟨true, rfl, BIf.f rfl ?_⟩
  refine ⟨_, ha.cell 3, _, hb.cell 3, BIf.f (by simp) ?_⟩
  exact ⟨rfl, e⟩

/- eqIpcResS -/
theorem c29 {l : List Dat} {a0 a1 : Sl} {w : World} (ht : ∀ e, e ∈ l → Has TyIpcRes e) (h : IsD w (.sl 4 l) [.slice a0.a a0.len a0.cap]) (h2 : IsD w (.sl 4 l) [.slice a1.a a1.len a1.cap]) : CallW Try.prog 29 #[.slice a0.a a0.len a0.cap, .slice a1.a a1.len a1.cap] w (fun v w' => v = .bool true ∧ Ext w w') := by
  refine go29 ?_
  unfold W29
  obtain ⟨hlen, hmax, hel⟩ := isD_sl h
  obtain ⟨hlen2, _, hel2⟩ := isD_sl h2
  have hmx : maxLen = 9223372036854775807 := rfl
  rw [hlen, hlen2]
  refine BIf.f (by simp) ?_
  refine LoopW.m1 (fun (i : Int) w' => ∃ k : Nat, i = k ∧ k ≤ l.length ∧ Ext w w') (fun (i : Int) _ => (l.length - i).toNat) ⟨0, rfl, by omega, Only.refl _ _⟩ ?_
  rintro (i : Int) w4 ⟨k, rfl, hk, e4⟩ J hJ
  refine BIf.dec (fun hlt => ?_) (fun hge => ⟨rfl, e4⟩)
  obtain ⟨d, hd⟩ : ∃ d, l[k]? = some d := ⟨_, List.getElem?_eq_getElem (by omega)⟩
  have e4 := Only.trans e4 (ext_drew w4)
  obtain ⟨p, es, hp, he, hc, his⟩ := isD_at (IsD.ext e4 _ _ h) hd
  obtain ⟨p2, es2, hp2, he2, hc2, his2⟩ := isD_at (IsD.ext e4 _ _ h2) hd
  have ht0 := ht d (mem_get hd)
  have ht1 := ht0
  obtain ⟨x_0, x_1, l_2, x_3, rfl, t_2⟩ := has_IpcRes ht1
  have his0 := his
  have his20 := his2
  obtain ⟨s_2, rfl, ws_0, ws_1, is_2, ws_3⟩ := cells_IpcRes his
  obtain ⟨u_2, rfl, wu_0, wu_1, iu_2, wu_3⟩ := cells_IpcRes his2
  refine ⟨by omega, by omega, p, hp, _, hc 0 _ rfl, _, hc 1 _ rfl, s_2, hc 2 _ rfl, _, hc 3 _ rfl, by omega, by omega, p2, hp2, _, hc2 0 _ rfl, _, hc2 1 _ rfl, u_2, hc2 2 _ rfl, _, hc2 3 _ rfl, (c40 (cs1 := [.int .i64 x_0, .int .i64 x_1, .slice s_2.a s_2.len s_2.cap, .int .i64 x_3]) (cs2 := [.int .i64 x_0, .int .i64 x_1, .slice u_2.a u_2.len u_2.cap, .int .i64 x_3]) ht0 his0 his20).mono ?_⟩
  rintro _ w9 ⟨rfl, e9⟩
  refine ⟨true, rfl, BIf.f rfl ?_⟩
  rw [w64 (by omega) (by omega)]
  exact hJ _ _ ⟨k + 1, by omega, by omega, Only.trans e4 e9⟩ (by omega)

/- eqIpcOp -/
theorem c41 {d : Dat} {cs1 cs2 : List Value} {w : World} (ht : Has TyIpcOp d) (h : IsD w d cs1) (h2 : IsD w d cs2) : CallW Try.prog 41 #[.agg ⟨cs1⟩, .agg ⟨cs2⟩] w (fun v w' => v = .bool true ∧ Ext w w') := by
  obtain ⟨x_0, x_1, x_2, x_3, x_4, x_5, x_6, l_7, rfl, t_7⟩ := has_IpcOp ht
  obtain ⟨s_7, rfl, ws_0, ws_1, ws_2, ws_3, ws_4, ws_5, ws_6, is_7⟩ := cells_IpcOp h
  obtain ⟨u_7, rfl, wu_0, wu_1, wu_2, wu_3, wu_4, wu_5, wu_6, iu_7⟩ := cells_IpcOp h2
  show CallW Try.prog 41 #[.agg #[.int .i64 x_0, .int .i64 x_1, .int .i64 x_2, .int .i64 x_3, .int .i64 x_4, .int .i64 x_5, .int .i64 x_6, .slice s_7.a s_7.len s_7.cap], .agg #[.int .i64 x_0, .int .i64 x_1, .int .i64 x_2, .int .i64 x_3, .int .i64 x_4, .int .i64 x_5, .int .i64 x_6, .slice u_7.a u_7.len u_7.cap]] w _
  refine go41 ?_
  unfold W41
  refine alloc_step (fun w1 e1 ha n1 => ?_)
  refine alloc_step (fun w2 e2 hb n2 => ?_)
  have ha := ha.ext e2
  have e := Only.trans e1 e2
  refine ⟨_, ha.cell 0, _, hb.cell 0, BIf.f (by simp) ?_⟩
  refine ⟨_, ha.cell 1, _, hb.cell 1, BIf.f (by simp) ?_⟩
  refine ⟨_, ha.cell 2, _, hb.cell 2, BIf.f (by simp) ?_⟩
  refine ⟨_, ha.cell 3, _, hb.cell 3, BIf.f (by simp) ?_⟩
  refine ⟨_, ha.cell 4, _, hb.cell 4, BIf.f (by simp) ?_⟩
  refine ⟨_, ha.cell 5, _, hb.cell 5, BIf.f (by simp) ?_⟩
  refine ⟨_, ha.cell 6, _, hb.cell 6, BIf.f (by simp) ?_⟩
  refine ⟨s_7, ha.cell 7, u_7, hb.cell 7, (c79 t_7 (IsD.ext e _ _ is_7) (IsD.ext e _ _ iu_7)).mono ?_⟩
  rintro _ w3 ⟨rfl, e3⟩
  have ha := ha.ext e3
  have hb := hb.ext e3
  have e := Only.trans e e3
  refine ⟨true, rfl, BIf.f rfl ?_⟩
  exact ⟨rfl, e⟩

/- eqIpcOpS -/
theorem c30 {l : List Dat} {a0 a1 : Sl} {w : World} (ht : ∀ e, e ∈ l → Has TyIpcOp e) (h : IsD w (.sl 8 l) [.slice a0.a a0.len a0.cap]) (h2 : IsD w (.sl 8 l) [.slice a1.a a1.len a1.cap]) : CallW Try.prog 30 #[.slice a0.a a0.len a0.cap, .slice a1.a a1.len a1.cap] w (fun v w' => v = .bool true ∧ Ext w w') := by
  refine go30 ?_
  unfold W30
  obtain ⟨hlen, hmax, hel⟩ := isD_sl h
  obtain ⟨hlen2, _, hel2⟩ := isD_sl h2
  have hmx : maxLen = 9223372036854775807 := rfl
  rw [hlen, hlen2]
  refine BIf.f (by simp) ?_
  refine LoopW.m1 (fun (i : Int) w' => ∃ k : Nat, i = k ∧ k ≤ l.length ∧ Ext w w') (fun (i : Int) _ => (l.length - i).toNat) ⟨0, rfl, by omega, Only.refl _ _⟩ ?_
  rintro (i : Int) w4 ⟨k, rfl, hk, e4⟩ J hJ
  refine BIf.dec (fun hlt => ?_) (fun hge => ⟨rfl, e4⟩)
  obtain ⟨d, hd⟩ : ∃ d, l[k]? = some d := ⟨_, List.getElem?_eq_getElem (by omega)⟩
  have e4 := Only.trans e4 (ext_drew w4)
  obtain ⟨p, es, hp, he, hc, his⟩ := isD_at (IsD.ext e4 _ _ h) hd
  obtain ⟨p2, es2, hp2, he2, hc2, his2⟩ := isD_at (IsD.ext e4 _ _ h2) hd
  have ht0 := ht d (mem_get hd)
  have ht1 := ht0
  obtain ⟨x_0, x_1, x_2, x_3, x_4, x_5, x_6, l_7, rfl, t_7⟩ := has_IpcOp ht1
  have his0 := his
  have his20 := his2
  obtain ⟨s_7, rfl, ws_0, ws_1, ws_2, ws_3, ws_4, ws_5, ws_6, is_7⟩ := cells_IpcOp his
  obtain ⟨u_7, rfl, wu_0, wu_1, wu_2, wu_3, wu_4, wu_5, wu_6, iu_7⟩ := cells_IpcOp his2
  refine ⟨by omega, by omega, p, hp, _, hc 0 _ rfl, _, hc 1 _ rfl, _, hc 2 _ rfl, _, hc 3 _ rfl, _, hc 4 _ rfl, _, hc 5 _ rfl, _, hc 6 _ rfl, s_7, hc 7 _ rfl, by omega, by omega, p2, hp2, _, hc2 0 _ rfl, _, hc2 1 _ rfl, _, hc2 2 _ rfl, _, hc2 3 _ rfl, _, hc2 4 _ rfl, _, hc2 5 _ rfl, _, hc2 6 _ rfl, u_7, hc2 7 _ rfl, (c41 (cs1 := [.int .i64 x_0, .int .i64 x_1, .int .i64 x_2, .int .i64 x_3, .int .i64 x_4, .int .i64 x_5, .int .i64 x_6, .slice s_7.a s_7.len s_7.cap]) (cs2 := [.int .i64 x_0, .int .i64 x_1, .int .i64 x_2, .int .i64 x_3, .int .i64 x_4, .int .i64 x_5, .int .i64 x_6, .slice u_7.a u_7.len u_7.cap]) ht0 his0 his20).mono ?_⟩
  rintro _ w9 ⟨rfl, e9⟩
  refine ⟨true, rfl, BIf.f rfl ?_⟩
  rw [w64 (by omega) (by omega)]
  exact hJ _ _ ⟨k + 1, by omega, by omega, Only.trans e4 e9⟩ (by omega)

/- markByteS -/
theorem c31 {l : List Dat} {a0 : Sl} {bs : List Nat} {k0 : Int} {w : World} (ht : ∀ e, e ∈ l → Has TyIpcOp e) (h : OwnD w (.sl 8 l) bs [.slice a0.a a0.len a0.cap]) (hn : bs.Nodup) (h0 : 1 ≤ k0) (hk : k0 + Dat.cnts l ≤ 1099511627776) : CallW Try.prog 31 #[.slice a0.a a0.len a0.cap, .int .i64 k0] w (fun v w' => v = .int .i64 (k0 + Dat.cnts l) ∧ ∃ l', l'.length = l.length ∧ Dat.cnts l' = Dat.cnts l ∧ (∀ e, e ∈ l' → Has TyIpcOp e) ∧ MarkedF TXT l' k0 ∧ OwnD w' (.sl 8 l') bs [.slice a0.a a0.len a0.cap] ∧ Only (fun k => k ∈ bs) w w') := by
  refine go31 ?_
  unfold W31
  obtain ⟨hlen, hmax⟩ := ownD_len h
  have hmx : maxLen = 9223372036854775807 := rfl
  rw [hlen]
  refine LoopW.m2 (fun (x i : Int) w' => ∃ (k : Nat) (l' : List Dat), i = k ∧ k ≤ l.length ∧ l'.length = k ∧ x = k0 + Dat.cnts l' ∧ Dat.cnts l' = Dat.cnts (l.take k) ∧ (∀ e, e ∈ l' → Has TyIpcOp e) ∧ MarkedF TXT l' k0 ∧ OwnD w' (.sl 8 (l' ++ l.drop k)) bs [.slice a0.a a0.len a0.cap] ∧ Only (fun k => k ∈ bs) w w') (fun _ (i : Int) _ => (l.length - i).toNat) ⟨0, [], rfl, by omega, rfl, by simp [Dat.cnts], by simp [Dat.cnts], fun e he => (by cases he), markedF_nil, by simpa using h, Only.refl _ _⟩ ?_
  rintro (kx : Int) (i : Int) w4 ⟨k, l', rfl, hkl, hl', hx, hcn, hty, hmk, ho, o4⟩ J hJ
  refine BIf.dec (fun hlt => ?_) (fun hge => ?_)
  · obtain ⟨d, hd⟩ : ∃ d, l[k]? = some d := ⟨_, List.getElem?_eq_getElem (by omega)⟩
    have hcg := cnts_get hd
    have hct := cnts_take hd
    have ht0 := ht d (mem_get hd)
    obtain ⟨x_0, x_1, x_2, x_3, x_4, x_5, x_6, l_7, rfl, t_7⟩ := has_IpcOp ht0
    simp only [Dat.cnt, Dat.cnts] at hcg hct
    obtain ⟨b, bp, b1, bq, vp, v1, vq, ha, hbs, hvp, hod, hm, hvl, hlc, _⟩ := ownD_at ho (get_app hl' hd)
    rw [(take_app hl').1, (take_app hl').2] at hm
    have hv0 := hm.len
    have hbs0 := hbs
    rw [Int.toNat_natCast, ← hvp]
    simp (disch := omega) only [w64]
    have hbs : bs = b :: (bp ++ (([] ++ b1) ++ bq)) := hbs
    have me : ME w4 b 8 l' (l.drop (k + 1)) bp bq vp vq [] _ [] b1 [] v1 := ⟨hm, by unfold OwnF; exact ⟨rfl, rfl⟩, ownD_st hod, by rw [← hbs]; exact hn⟩
    refine ⟨by omega, by omega, _, ha, ?_⟩
    refine me.sc (d' := .int .i64 (kx)) sc_int (fun w => own_int (wf_i64 (by omega) (by omega))) rfl (fun w5 cr5 o5 me => ?_)
    have o4 := Only.trans o4 (o5.mono (fun c _ hc => by subst hc; rw [hbs]; simp))
    refine ⟨by omega, by omega, _, ha, ?_⟩
    refine me.sc (d' := .int .i64 (kx + 1)) sc_int (fun w => own_int (wf_i64 (by omega) (by omega))) rfl (fun w6 cr6 o6 me => ?_)
    have o4 := Only.trans o4 (o6.mono (fun c _ hc => by subst hc; rw [hbs]; simp))
    refine ⟨by omega, by omega, _, ha, ?_⟩
    refine me.sc (d' := .int .i64 (kx + 1 + 1)) sc_int (fun w => own_int (wf_i64 (by omega) (by omega))) rfl (fun w7 cr7 o7 me => ?_)
    have o4 := Only.trans o4 (o7.mono (fun c _ hc => by subst hc; rw [hbs]; simp))
    refine ⟨by omega, by omega, _, ha, ?_⟩
    refine me.sc (d' := .int .i64 (kx + 1 + 1 + 1)) sc_int (fun w => own_int (wf_i64 (by omega) (by omega))) rfl (fun w8 cr8 o8 me => ?_)
    have o4 := Only.trans o4 (o8.mono (fun c _ hc => by subst hc; rw [hbs]; simp))
    refine ⟨by omega, by omega, _, ha, ?_⟩
    refine me.sc (d' := .int .i64 (kx + 1 + 1 + 1 + 1)) sc_int (fun w => own_int (wf_i64 (by omega) (by omega))) rfl (fun w9 cr9 o9 me => ?_)
    have o4 := Only.trans o4 (o9.mono (fun c _ hc => by subst hc; rw [hbs]; simp))
    refine ⟨by omega, by omega, _, ha, ?_⟩
    refine me.sc (d' := .int .i64 (kx + 1 + 1 + 1 + 1 + 1)) sc_int (fun w => own_int (wf_i64 (by omega) (by omega))) rfl (fun w10 cr10 o10 me => ?_)
    have o4 := Only.trans o4 (o10.mono (fun c _ hc => by subst hc; rw [hbs]; simp))
    refine ⟨by omega, by omega, _, ha, ?_⟩
    refine me.sc (d' := .int .i64 (kx + 1 + 1 + 1 + 1 + 1 + 1)) sc_int (fun w => own_int (wf_i64 (by omega) (by omega))) rfl (fun w11 cr11 o11 me => ?_)
    have o4 := Only.trans o4 (o11.mono (fun c _ hc => by subst hc; rw [hbs]; simp))
    obtain ⟨b12, c12, hod12, hn12, hc12, hcl12⟩ := me.open
    obtain ⟨s12, rfl⟩ := ownD_sl_s hod12
    refine ⟨by omega, by omega, _, ha, s12, hc12 0 _ rfl, (c68 t_7 hod12 hn12 (by omega) (by omega)).mono ?_⟩
    rintro _ w12 ⟨rfl, m_7, g1_7, g2_7, g3_7, g4_7, g5_7, o12⟩
    obtain ⟨br12, cr12, me, hbs2⟩ := hcl12 w12 _ o12 g5_7
    have hbs := hbs.trans hbs2
    have o4 := Only.trans o4 (o12.mono (fun c _ hc => by rw [hbs]; simp [hc]))
    refine ⟨_, rfl, ?_⟩
    try simp (disch := omega) only [w64]
    obtain ⟨hm2, hod2, hbr⟩ := me.fin
    subst hbr
    have hrow := row_close (bs := bs) (a0 := a0) hm2 hod2 hvp hl' (by omega) ha (by rw [hlen]) (by rw [hbs, List.append_nil]) (by have : (l' ++ l.drop k).length = l.length := (by simp; omega); omega) hmax hv0 hvl
    have hmkd : Marked TXT (.st [.int .i64 (kx), .int .i64 (kx + 1), .int .i64 (kx + 1 + 1), .int .i64 (kx + 1 + 1 + 1), .int .i64 (kx + 1 + 1 + 1 + 1), .int .i64 (kx + 1 + 1 + 1 + 1 + 1), .int .i64 (kx + 1 + 1 + 1 + 1 + 1 + 1), .sl 1 m_7]) kx := marked_st (markedF_cons (k := kx) (k' := kx + 1) (marked_int (by rw [w64 (by omega) (by omega)])) (markedF_cons (k := kx + 1) (k' := kx + 1 + 1) (marked_int (by rw [w64 (by omega) (by omega)])) (markedF_cons (k := kx + 1 + 1) (k' := kx + 1 + 1 + 1) (marked_int (by rw [w64 (by omega) (by omega)])) (markedF_cons (k := kx + 1 + 1 + 1) (k' := kx + 1 + 1 + 1 + 1) (marked_int (by rw [w64 (by omega) (by omega)])) (markedF_cons (k := kx + 1 + 1 + 1 + 1) (k' := kx + 1 + 1 + 1 + 1 + 1) (marked_int (by rw [w64 (by omega) (by omega)])) (markedF_cons (k := kx + 1 + 1 + 1 + 1 + 1) (k' := kx + 1 + 1 + 1 + 1 + 1 + 1) (marked_int (by rw [w64 (by omega) (by omega)])) (markedF_cons (k := kx + 1 + 1 + 1 + 1 + 1 + 1) (k' := kx + 1 + 1 + 1 + 1 + 1 + 1 + 1) (marked_int (by rw [w64 (by omega) (by omega)])) (markedF_cons (k := kx + 1 + 1 + 1 + 1 + 1 + 1 + 1) (k' := kx + 1 + 1 + 1 + 1 + 1 + 1 + 1 + (Dat.cnts l_7 : Int)) (marked_sl g4_7) (markedF_nil (k := kx + 1 + 1 + 1 + 1 + 1 + 1 + 1 + (Dat.cnts l_7 : Int))) (by simp only [Dat.cnt]; omega)) (by simp only [Dat.cnt]; omega)) (by simp only [Dat.cnt]; omega)) (by simp only [Dat.cnt]; omega)) (by simp only [Dat.cnt]; omega)) (by simp only [Dat.cnt]; omega)) (by simp only [Dat.cnt]; omega)) (by simp only [Dat.cnt]; omega))
    have hhas : Has TyIpcOp (.st [.int .i64 (kx), .int .i64 (kx + 1), .int .i64 (kx + 1 + 1), .int .i64 (kx + 1 + 1 + 1), .int .i64 (kx + 1 + 1 + 1 + 1), .int .i64 (kx + 1 + 1 + 1 + 1 + 1), .int .i64 (kx + 1 + 1 + 1 + 1 + 1 + 1), .sl 1 m_7]) := mk_st (mkF_cons mk_int (mkF_cons mk_int (mkF_cons mk_int (mkF_cons mk_int (mkF_cons mk_int (mkF_cons mk_int (mkF_cons mk_int (mkF_cons (mk_sl g3_7) (mkF_nil)))))))))
    refine hJ _ _ _ ⟨k + 1, l' ++ [_], by omega, by omega, by simp; omega, ?_, ?_, has_snoc hty hhas, markedF_snoc hmk hmkd hx, hrow, o4⟩ (by omega)
    · rw [cnts_snoc]; simp only [Dat.cnt, Dat.cnts]; omega
    · rw [cnts_snoc, hct]; simp only [Dat.cnt, Dat.cnts]; omega
  · have hkl2 : k = l.length := by omega
    subst hkl2
    rw [List.take_length] at hcn
    rw [List.drop_length, List.append_nil, hlen] at ho
    exact ⟨by rw [hx, hcn], l', hl', hcn, hty, hmk, ho, o4⟩

/- markIpcOp -/
/- markIpcResS -/
theorem c32 {l : List Dat} {a0 : Sl} {bs : List Nat} {k0 : Int} {w : World} (ht : ∀ e, e ∈ l → Has TyIpcRes e) (h : OwnD w (.sl 4 l) bs [.slice a0.a a0.len a0.cap]) (hn : bs.Nodup) (h0 : 1 ≤ k0) (hk : k0 + Dat.cnts l ≤ 1099511627776) : CallW Try.prog 32 #[.slice a0.a a0.len a0.cap, .int .i64 k0] w (fun v w' => v = .int .i64 (k0 + Dat.cnts l) ∧ ∃ l', l'.length = l.length ∧ Dat.cnts l' = Dat.cnts l ∧ (∀ e, e ∈ l' → Has TyIpcRes e) ∧ MarkedF TXT l' k0 ∧ OwnD w' (.sl 4 l') bs [.slice a0.a a0.len a0.cap] ∧ Only (fun k => k ∈ bs) w w') := by
  refine go32 ?_
  unfold W32
  obtain ⟨hlen, hmax⟩ := ownD_len h
  have hmx : maxLen = 9223372036854775807 := rfl
  rw [hlen]
  refine LoopW.m2 (fun (x i : Int) w' => ∃ (k : Nat) (l' : List Dat), i = k ∧ k ≤ l.length ∧ l'.length = k ∧ x = k0 + Dat.cnts l' ∧ Dat.cnts l' = Dat.cnts (l.take k) ∧ (∀ e, e ∈ l' → Has TyIpcRes e) ∧ MarkedF TXT l' k0 ∧ OwnD w' (.sl 4 (l' ++ l.drop k)) bs [.slice a0.a a0.len a0.cap] ∧ Only (fun k => k ∈ bs) w w') (fun _ (i : Int) _ => (l.length - i).toNat) ⟨0, [], rfl, by omega, rfl, by simp [Dat.cnts], by simp [Dat.cnts], fun e he => (by cases he), markedF_nil, by simpa using h, Only.refl _ _⟩ ?_
  rintro (kx : Int) (i : Int) w4 ⟨k, l', rfl, hkl, hl', hx, hcn, hty, hmk, ho, o4⟩ J hJ
  refine BIf.dec (fun hlt => ?_) (fun hge => ?_)
  · obtain ⟨d, hd⟩ : ∃ d, l[k]? = some d := ⟨_, List.getElem?_eq_getElem (by omega)⟩
    have hcg := cnts_get hd
    have hct := cnts_take hd
    have ht0 := ht d (mem_get hd)
    obtain ⟨x_0, x_1, l_2, x_3, rfl, t_2⟩ := has_IpcRes ht0
    simp only [Dat.cnt, Dat.cnts] at hcg hct
    obtain ⟨b, bp, b1, bq, vp, v1, vq, ha, hbs, hvp, hod, hm, hvl, hlc, _⟩ := ownD_at ho (get_app hl' hd)
    rw [(take_app hl').1, (take_app hl').2] at hm
    have hv0 := hm.len
    have hbs0 := hbs
    rw [Int.toNat_natCast, ← hvp]
    simp (disch := omega) only [w64]
    have hbs : bs = b :: (bp ++ (([] ++ b1) ++ bq)) := hbs
    have me : ME w4 b 4 l' (l.drop (k + 1)) bp bq vp vq [] _ [] b1 [] v1 := ⟨hm, by unfold OwnF; exact ⟨rfl, rfl⟩, ownD_st hod, by rw [← hbs]; exact hn⟩
    refine ⟨by omega, by omega, _, ha, ?_⟩
    refine me.sc (d' := .int .i64 (kx)) sc_int (fun w => own_int (wf_i64 (by omega) (by omega))) rfl (fun w5 cr5 o5 me => ?_)
    have o4 := Only.trans o4 (o5.mono (fun c _ hc => by subst hc; rw [hbs]; simp))
    refine ⟨by omega, by omega, _, ha, ?_⟩
    refine me.sc (d' := .int .i64 (kx + 1)) sc_int (fun w => own_int (wf_i64 (by omega) (by omega))) rfl (fun w6 cr6 o6 me => ?_)
    have o4 := Only.trans o4 (o6.mono (fun c _ hc => by subst hc; rw [hbs]; simp))
    obtain ⟨b7, c7, hod7, hn7, hc7, hcl7⟩ := me.open
    obtain ⟨s7, rfl⟩ := ownD_sl_s hod7
    refine ⟨by omega, by omega, _, ha, s7, hc7 0 _ rfl, (c68 t_2 hod7 hn7 (by omega) (by omega)).mono ?_⟩
    rintro _ w7 ⟨rfl, m_2, g1_2, g2_2, g3_2, g4_2, g5_2, o7⟩
    obtain ⟨br7, cr7, me, hbs2⟩ := hcl7 w7 _ o7 g5_2
    have hbs := hbs.trans hbs2
    have o4 := Only.trans o4 (o7.mono (fun c _ hc => by rw [hbs]; simp [hc]))
    refine ⟨_, rfl, ?_⟩
    try simp (disch := omega) only [w64]
    refine ⟨by omega, by omega, _, ha, ?_⟩
    refine me.sc (d' := .int .i64 (kx + 1 + 1 + (Dat.cnts l_2 : Int))) sc_int (fun w => own_int (wf_i64 (by omega) (by omega))) rfl (fun w8 cr8 o8 me => ?_)
    have o4 := Only.trans o4 (o8.mono (fun c _ hc => by subst hc; rw [hbs]; simp))
    obtain ⟨hm2, hod2, hbr⟩ := me.fin
    subst hbr
    have hrow := row_close (bs := bs) (a0 := a0) hm2 hod2 hvp hl' (by omega) ha (by rw [hlen]) (by rw [hbs, List.append_nil]) (by have : (l' ++ l.drop k).length = l.length := (by simp; omega); omega) hmax hv0 hvl
    have hmkd : Marked TXT (.st [.int .i64 (kx), .int .i64 (kx + 1), .sl 1 m_2, .int .i64 (kx + 1 + 1 + (Dat.cnts l_2 : Int))]) kx := marked_st (markedF_cons (k := kx) (k' := kx + 1) (marked_int (by rw [w64 (by omega) (by omega)])) (markedF_cons (k := kx + 1) (k' := kx + 1 + 1) (marked_int (by rw [w64 (by omega) (by omega)])) (markedF_cons (k := kx + 1 + 1) (k' := kx + 1 + 1 + (Dat.cnts l_2 : Int)) (marked_sl g4_2) (markedF_cons (k := kx + 1 + 1 + (Dat.cnts l_2 : Int)) (k' := kx + 1 + 1 + (Dat.cnts l_2 : Int) + 1) (marked_int (by rw [w64 (by omega) (by omega)])) (markedF_nil (k := kx + 1 + 1 + (Dat.cnts l_2 : Int) + 1)) (by simp only [Dat.cnt]; omega)) (by simp only [Dat.cnt]; omega)) (by simp only [Dat.cnt]; omega)) (by simp only [Dat.cnt]; omega))
    have hhas : Has TyIpcRes (.st [.int .i64 (kx), .int .i64 (kx + 1), .sl 1 m_2, .int .i64 (kx + 1 + 1 + (Dat.cnts l_2 : Int))]) := mk_st (mkF_cons mk_int (mkF_cons mk_int (mkF_cons (mk_sl g3_2) (mkF_cons mk_int (mkF_nil)))))
    refine hJ _ _ _ ⟨k + 1, l' ++ [_], by omega, by omega, by simp; omega, ?_, ?_, has_snoc hty hhas, markedF_snoc hmk hmkd hx, hrow, o4⟩ (by omega)
    · rw [cnts_snoc]; simp only [Dat.cnt, Dat.cnts]; omega
    · rw [cnts_snoc, hct]; simp only [Dat.cnt, Dat.cnts]; omega
  · have hkl2 : k = l.length := by omega
    subst hkl2
    rw [List.take_length] at hcn
    rw [List.drop_length, List.append_nil, hlen] at ho
    exact ⟨by rw [hx, hcn], l', hl', hcn, hty, hmk, ho, o4⟩

/- markIpcRes -/
/- heldByteS -/
theorem c69 {l : List Dat} {a0 : Sl} {k0 : Int} {w : World} (ht : ∀ e, e ∈ l → Has (.int .u8) e) (h : IsD w (.sl 1 l) [.slice a0.a a0.len a0.cap]) (hm : MarkedF TXT l k0) (h0 : 1 ≤ k0) (hk : k0 + Dat.cnts l ≤ 1099511627776) : CallW Try.prog 69 #[.slice a0.a a0.len a0.cap, .int .i64 k0] w (fun v w' => v = .int .i64 (k0 + Dat.cnts l) ∧ Ext w w') := by
  refine go69 ?_
  unfold W69
  obtain ⟨hlen, hmax, _⟩ := isD_sl h
  have hmx : maxLen = 9223372036854775807 := rfl
  rw [hlen]
  refine LoopW.m2 (fun (x i : Int) w' => ∃ k : Nat, i = k ∧ k ≤ l.length ∧ x = k0 + Dat.cnts (l.take k) ∧ Ext w w') (fun _ (i : Int) _ => (l.length - i).toNat) ⟨0, rfl, by omega, by simp [Dat.cnts], Only.refl _ _⟩ ?_
  rintro (kx : Int) (i : Int) w4 ⟨k, rfl, hkl, hx, e4⟩ J hJ
  refine BIf.dec (fun hlt => ?_) (fun hge => ?_)
  · obtain ⟨d, hd⟩ : ∃ d, l[k]? = some d := ⟨_, List.getElem?_eq_getElem (by omega)⟩
    have hcg := cnts_get hd
    have hct := cnts_take hd
    have hmd := markedF_get hm hd
    rw [← hx] at hmd
    have ht0 := ht d (mem_get hd)
    obtain ⟨p, es, hp, he, hc, his⟩ := isD_at (IsD.ext e4 _ _ h) hd
    obtain ⟨x, rfl⟩ := has_int ht0
    obtain ⟨rfl, ws⟩ := isD_int his
    simp only [Dat.cnt, Dat.cnts] at hcg hct
    simp only [Marked, MarkedF, Dat.cnt, Dat.cnts] at hmd
    have m := hmd
    try simp (disch := omega) only [w64]
    refine ⟨by omega, by omega, p, hp, _, hc 0 _ rfl, BIf.f (by rw [m]; first | (simp; done) | (simp; congr 1; omega)) ?_⟩
    exact hJ _ _ _ ⟨k + 1, by omega, by omega, by rw [hct]; omega, e4⟩ (by omega)
  · rw [List.take_of_length_le (by omega)] at hx
    exact ⟨by rw [hx], e4⟩

/- heldIpcResS -/
theorem c33 {l : List Dat} {a0 : Sl} {k0 : Int} {w : World} (ht : ∀ e, e ∈ l → Has TyIpcRes e) (h : IsD w (.sl 4 l) [.slice a0.a a0.len a0.cap]) (hm : MarkedF TXT l k0) (h0 : 1 ≤ k0) (hk : k0 + Dat.cnts l ≤ 1099511627776) : CallW Try.prog 33 #[.slice a0.a a0.len a0.cap, .int .i64 k0] w (fun v w' => v = .int .i64 (k0 + Dat.cnts l) ∧ Ext w w') := by
  refine go33 ?_
  unfold W33
  obtain ⟨hlen, hmax, _⟩ := isD_sl h
  have hmx : maxLen = 9223372036854775807 := rfl
  rw [hlen]
  refine LoopW.m2 (fun (x i : Int) w' => ∃ k : Nat, i = k ∧ k ≤ l.length ∧ x = k0 + Dat.cnts (l.take k) ∧ Ext w w') (fun _ (i : Int) _ => (l.length - i).toNat) ⟨0, rfl, by omega, by simp [Dat.cnts], Only.refl _ _⟩ ?_
  rintro (kx : Int) (i : Int) w4 ⟨k, rfl, hkl, hx, e4⟩ J hJ
  refine BIf.dec (fun hlt => ?_) (fun hge => ?_)
  · obtain ⟨d, hd⟩ : ∃ d, l[k]? = some d := ⟨_, List.getElem?_eq_getElem (by omega)⟩
    have hcg := cnts_get hd
    have hct := cnts_take hd
    have hmd := markedF_get hm hd
    rw [← hx] at hmd
    have ht0 := ht d (mem_get hd)
    obtain ⟨p, es, hp, he, hc, his⟩ := isD_at (IsD.ext e4 _ _ h) hd
    obtain ⟨x_0, x_1, l_2, x_3, rfl, t_2⟩ := has_IpcRes ht0
    obtain ⟨s_2, rfl, ws_0, ws_1, is_2, ws_3⟩ := cells_IpcRes his
    simp only [Dat.cnt, Dat.cnts] at hcg hct
    simp only [Marked, MarkedF, Dat.cnt, Dat.cnts] at hmd
    obtain ⟨m_0, m_1, m_2, m_3, _⟩ := hmd
    try simp (disch := omega) only [w64]
    refine ⟨by omega, by omega, p, hp, _, hc 0 _ rfl, BIf.f (by rw [m_0, w64 (by omega) (by omega)]; first | (simp; done) | (simp; omega)) ?_⟩
    refine ⟨by omega, by omega, p, hp, _, hc 1 _ rfl, BIf.f (by rw [m_1, w64 (by omega) (by omega)]; first | (simp; done) | (simp; omega)) ?_⟩
    refine ⟨by omega, by omega, p, hp, s_2, hc 2 _ rfl, (c69 (k0 := kx + 1 + 1) t_2 is_2 (markedF_at m_2 (by omega)) (by omega) (by omega)).mono ?_⟩
    rintro _ w5 ⟨rfl, e5⟩
    refine ⟨_, rfl, BIf.f (decide_eq_false (by omega)) ?_⟩
    try simp (disch := omega) only [w64]
    have hc := fun m v hv => e5.cell (hc m v hv)
    refine ⟨by omega, by omega, p, hp, _, hc 3 _ rfl, BIf.f (by rw [m_3, w64 (by omega) (by omega)]; first | (simp; done) | (simp; omega)) ?_⟩
    exact hJ _ _ _ ⟨k + 1, by omega, by omega, by rw [hct]; omega, Only.trans e4 e5⟩ (by omega)
  · rw [List.take_of_length_le (by omega)] at hx
    exact ⟨by rw [hx], e4⟩

/- heldIpcRes -/
end Go.Proofs.Ytbimoajgofcmbaa

/- Ports, capabilities, pipes: a run as the law asks. Conditions: none. -/
set_option linter.unusedVariables false
set_option linter.unusedSimpArgs false
namespace Go.Proofs.Ytbimoajgofcmbaa
open Go Go.Den
abbrev iopsD (ops : List DIpcOp) : Dat := .sl 8 (ops.map DIpcOp.dat)
theorem iops_of {ops : List DIpcOp} {w : World} {s : Sl} (h : IsD w (iopsD ops) [.slice s.a s.len s.cap]) (hs : (iopsD ops).sz ≤ 1048576) : OpsAt w s ops := by
  refine ⟨(isD_len h).1, fun i x hx => ?_⟩
  obtain ⟨p, es, hp, hl, hc, his⟩ := isD_elem h hx
  obtain ⟨t, rfl, _, _, _, _, _, _, _, hd⟩ := cells_IpcOp (show IsD w (.st [.int .i64 x.Kind, .int .i64 x.Holder, .int .i64 x.Id, .int .i64 x.To, .int .i64 x.Rights, .int .i64 x.Cap, .int .i64 x.N, .sl 1 (x.Data.map (Dat.int .u8))]) es from his)
  have h1 : x.dat.sz ≤ Dat.szs (ops.map DIpcOp.dat) := szs_mem (List.mem_map.2 ⟨x, List.mem_of_getElem? hx, rfl⟩)
  have h2 : x.dat.sz = 0 + (0 + (0 + (0 + (0 + (0 + (0 + ((Dat.sl 1 (x.Data.map (Dat.int .u8))).sz + 0))))))) := rfl
  rw [sz_nums] at h2
  have h3 : (iopsD ops).sz = (ops.map DIpcOp.dat).length + Dat.szs (ops.map DIpcOp.dat) := rfl
  exact ⟨p, t, hp, ⟨hc 0 _ rfl, hc 1 _ rfl, hc 2 _ rfl, hc 3 _ rfl, hc 4 _ rfl, hc 5 _ rfl, hc 6 _ rfl, hc 7 _ rfl, byAt_of hd (by omega), by omega⟩⟩
theorem res_ce (x : DIpcRes) : x.dat.ce = [.v (.int .i64 x.Code), .v (.int .i64 x.N), .sl 1 (nums .u8 x.Data), .v (.int .i64 x.From)] := by
  simp [DIpcRes.dat, Dat.ce, Dat.ces, ceE_nums]
theorem close_res {w0 w : World} {t : Sl} {l : List RRes} {F : List Asr} (h : SH w0 w (rR t l :: bR l :: F)) : SH w0 w (aRow t 4 (Dat.ceE ((l.map RRes.abs).map DIpcRes.dat)) :: F) := by
  have := SH.closeBag (f := RRes.cells) (g := fun m => m.abs.dat.ce) (e1 := fun x => [.int .i64 x.C, .int .i64 x.N]) (e2 := fun x => [.int .i64 x.From]) (hd := RRes.t) (els := fun x => nums .u8 x.Data) (z' := 1) (fun x => rfl) (fun x => by rw [res_ce]; rfl) (a := []) (b := l) h
  rw [List.map_map, ceE_map]
  exact this
theorem run_res {ops : List DIpcOp} (hb : ∀ o, o ∈ ops → ∀ x, x ∈ o.Data → 0 ≤ x ∧ x ≤ 255) : (∀ r, r ∈ runR ops → ResJ r) ∧ (runR ops).length ≤ 400 := by
  unfold runR
  split
  · exact ⟨fun r hr => by simp at hr, by simp⟩
  · have h := run_j hb (by omega) ops.length (Nat.le_refl _)
    rw [List.take_length] at h
    exact ⟨h.res, by rw [h.len]; omega⟩
theorem irun_post {ops : List DIpcOp} {w w' : World} {v : Value} (hb : ∀ o, o ∈ ops → ∀ x, x ∈ o.Data → 0 ≤ x ∧ x ≤ 255) (h : RunR ops w v w') : ∃ y : Sl, v = .slice y.a y.len y.cap ∧ Fr w.heap.size w'.heap.size w' (.sl 4 ((runR ops).map DIpcRes.dat)) [.slice y.a y.len y.cap] ∧ Ext w w' := by
  obtain ⟨t, rs, rfl, hr, h⟩ := h
  have h := close_res h
  rw [hr] at h
  have hj := run_res hb
  refine ⟨t, rfl, SH.frRow (F := []) h ?_, h.ext⟩
  have hm : maxLen = 9223372036854775807 := rfl
  have hr := hj.2
  simp only [Dat.fit, List.length_map, fits_iff, List.mem_map]
  refine ⟨by omega, ?_⟩
  rintro d ⟨c, hc, rfl⟩
  have hcj := hj.1 c hc
  have h1 := hcj.code
  have h2 := hcj.n
  have h3 := hcj.from_
  have h4 := hcj.few
  simp only [DIpcRes.dat, Dat.fit, Dat.fits, List.length_map, fits_iff, List.mem_map]
  refine ⟨wf_i64' (by omega) (by omega), wf_i64' (by omega) (by omega), ⟨by omega, ?_⟩, wf_i64' (by omega) (by omega), trivial⟩
  rintro d ⟨x, hx, rfl⟩
  have := hcj.rng x hx
  simp only [Dat.fit]
  exact wf_u8' this.1 this.2
where
  wf_i64' {n : Int} (h0 : -9223372036854775808 ≤ n) (h1 : n ≤ 9223372036854775807) : (Lit.int .i64 n).wf = true := by
    simp only [Lit.wf, Bool.and_eq_true, decide_eq_true_eq]
    exact ⟨by show (-9223372036854775808 : Int) ≤ n; omega, by show n ≤ (9223372036854775807 : Int); omega⟩
  wf_u8' {n : Int} (h0 : 0 ≤ n) (h1 : n ≤ 255) : (Lit.int .u8 n).wf = true := by
    simp only [Lit.wf, Bool.and_eq_true, decide_eq_true_eq]
    exact ⟨by show (0 : Int) ≤ n; omega, by show n ≤ (255 : Int); omega⟩
def IRunS (n : Nat) : Prop := ∀ {ops : List DIpcOp} {w : World} {s : Sl} (h : IsD w (iopsD ops) [.slice s.a s.len s.cap]) (hs : (iopsD ops).sz ≤ 1048576), CallW Try.prog n #[.slice s.a s.len s.cap] w (fun v w' => ∃ y : Sl, v = .slice y.a y.len y.cap ∧ Fr w.heap.size w'.heap.size w' (.sl 4 ((runR ops).map DIpcRes.dat)) [.slice y.a y.len y.cap] ∧ Ext w w')
theorem specIpcRun : IRunS 26 := fun h hs => (s26 (iops_of h hs)).mono (fun _ _ hv => irun_post (ops_rng (iops_of h hs)) hv)
theorem implIpcRun : IRunS 28 := fun h hs => (s28 (iops_of h hs)).mono (fun _ _ hv => irun_post (ops_rng (iops_of h hs)) hv)
theorem iops_has (ops : List DIpcOp) : ∀ e, e ∈ ops.map DIpcOp.dat → Has TyIpcOp e := fun e he => by obtain ⟨y, _, rfl⟩ := List.mem_map.1 he; exact DIpcOp.has _
theorem irun_has (ops : List DIpcOp) : ∀ e, e ∈ (runR ops).map DIpcRes.dat → Has TyIpcRes e := fun e he => by obtain ⟨y, _, rfl⟩ := List.mem_map.1 he; exact DIpcRes.has _
theorem ires_cnts : ∀ l : List DIpcRes, (∀ r, r ∈ l → r.Data.length ≤ 1024) → Dat.cnts (l.map DIpcRes.dat) ≤ 1030 * l.length
  | [], _ => by simp [Dat.cnts]
  | a :: r, h => by
    simp only [List.map_cons, DIpcRes.dat, Dat.cnts, Dat.cnt, nums_cnts, List.length_cons]
    have := ires_cnts r (fun x hx => h x (by simp [hx]))
    have := h a (by simp)
    omega
theorem iop_cnts : ∀ l : List DIpcOp, Dat.cnts (l.map DIpcOp.dat) ≤ 8 * (l.map DIpcOp.dat).length + Dat.szs (l.map DIpcOp.dat)
  | [] => by simp [Dat.cnts]
  | a :: r => by
    have h1 := iop_cnts r
    have h2 : Dat.szs ((a :: r).map DIpcOp.dat) = a.dat.sz + Dat.szs (r.map DIpcOp.dat) := rfl
    have h3 : a.dat.sz = 0 + (0 + (0 + (0 + (0 + (0 + (0 + ((Dat.sl 1 (a.Data.map (Dat.int .u8))).sz + 0))))))) := rfl
    rw [sz_nums] at h3
    simp only [List.map_cons, List.length_cons] at *
    simp only [DIpcOp.dat, Dat.cnts, Dat.cnt, nums_cnts] at *
    omega
theorem irun_cnt {ops : List DIpcOp} {w : World} {s : Sl} (h : IsD w (iopsD ops) [.slice s.a s.len s.cap]) (hs : (iopsD ops).sz ≤ 1048576) : Dat.cnts ((runR ops).map DIpcRes.dat) ≤ 412000 := by
  have hj := run_res (ops_rng (iops_of h hs))
  have := ires_cnts (runR ops) (fun r hr => (hj.1 r hr).few)
  have := hj.2
  omega
theorem iops_cnt {ops : List DIpcOp} (hs : (iopsD ops).sz ≤ 1048576) : Dat.cnts (ops.map DIpcOp.dat) ≤ 9437184 := by
  have h3 : (iopsD ops).sz = (ops.map DIpcOp.dat).length + Dat.szs (ops.map DIpcOp.dat) := rfl
  have := iop_cnts ops
  omega
end Go.Proofs.Ytbimoajgofcmbaa

/- The walk of a law: copies, both sides, comparisons; printed by a program. Conditions: none. -/
set_option linter.unusedVariables false
set_option linter.unusedSimpArgs false
set_option maxRecDepth 4000
namespace Go.Proofs.Ytbimoajgofcmbaa
open Go Go.Den
theorem goc6 {a0 : Sl} {w : World} {K : Value → World → Prop} (h : W6 a0 w K) : Calls Try.prog 6 #[.slice a0.a a0.len a0.cap] w (fun e w' => ∃ v, e = .returned v ∧ K v w') :=
 denFn_sound tt_ok mix Try.func6 (by kernel_rfl) (eq6 a0 w K ▸ h)
theorem walk6 {w : World} {ops : List DIpcOp} {p0 : Sl} (h0 : IsD w (Dat.sl 8 (ops.map DIpcOp.dat)) [.slice p0.a p0.len p0.cap]) : Calls Try.prog 6 #[.slice p0.a p0.len p0.cap] w (fun e w' => ∃ v, e = .returned v ∧ (v = .bool true ∧ Ext w w')) := by
 refine goc6 ?_
 unfold W6
 refine (c25 (iops_has ops) h0 (by omega) (by omega)).mono ?_
 rintro _ w2 ⟨⟨rw2, rfl, hrw2⟩, ew2⟩
 have e := ew2
 have zw2 := ew2.size
 refine ⟨_, rfl, ?_⟩
 refine BIf.dec (fun hn => ⟨rfl, e⟩) (fun hpw2 => ?_)
 have sz0 : (Dat.sl 8 (ops.map DIpcOp.dat)).sz ≤ 1048576 := by omega
 refine (c27 (iops_has ops) (IsD.ext e _ _ h0) (by have := sz0; omega)).mono ?_
 rintro _ w5 ⟨yw5, rfl, fw5, ew5⟩
 have e := Only.trans e ew5
 have zw5 := ew5.size
 refine ⟨yw5, rfl, ?_⟩
 refine (specIpcRun fw5.is sz0).mono ?_
 rintro _ w8 ⟨yw8_0, rfl, fw8_0, ew8⟩
 have fw5 := fw5.ext ew8
 have e := Only.trans e ew8
 have zw8 := ew8.size
 refine ⟨yw8_0, rfl, ?_⟩
 refine (c27 (iops_has ops) (IsD.ext e _ _ h0) (by have := sz0; omega)).mono ?_
 rintro _ w11 ⟨yw11, rfl, fw11, ew11⟩
 have fw5 := fw5.ext ew11
 have fw8_0 := fw8_0.ext ew11
 have e := Only.trans e ew11
 have zw11 := ew11.size
 refine ⟨yw11, rfl, ?_⟩
 refine (implIpcRun fw11.is sz0).mono ?_
 rintro _ w14 ⟨yw14_0, rfl, fw14_0, ew14⟩
 have fw5 := fw5.ext ew14
 have fw8_0 := fw8_0.ext ew14
 have fw11 := fw11.ext ew14
 have e := Only.trans e ew14
 have zw14 := ew14.size
 refine ⟨yw14_0, rfl, ?_⟩
 refine (c29 (irun_has ops) fw14_0.is fw8_0.is).mono ?_
 rintro _ w17 ⟨rfl, ew17⟩
 have fw5 := fw5.ext ew17
 have fw8_0 := fw8_0.ext ew17
 have fw11 := fw11.ext ew17
 have fw14_0 := fw14_0.ext ew17
 have e := Only.trans e ew17
 have zw17 := ew17.size
 refine ⟨_, rfl, ?_⟩
 refine BIf.f rfl ?_
 refine (c27 (iops_has ops) (IsD.ext e _ _ h0) (by have := sz0; omega)).mono ?_
 rintro _ w20 ⟨yw20, rfl, fw20, ew20⟩
 have fw5 := fw5.ext ew20
 have fw8_0 := fw8_0.ext ew20
 have fw11 := fw11.ext ew20
 have fw14_0 := fw14_0.ext ew20
 have e := Only.trans e ew20
 have zw20 := ew20.size
 refine ⟨yw20, rfl, ?_⟩
 refine (c30 (iops_has ops) fw11.is fw20.is).mono ?_
 rintro _ w23 ⟨rfl, ew23⟩
 have fw5 := fw5.ext ew23
 have fw8_0 := fw8_0.ext ew23
 have fw11 := fw11.ext ew23
 have fw14_0 := fw14_0.ext ew23
 have fw20 := fw20.ext ew23
 have e := Only.trans e ew23
 have zw23 := ew23.size
 refine ⟨_, rfl, ?_⟩
 refine BIf.f rfl ?_
 obtain ⟨bsw26, oww26, ndw26, rgw26⟩ := fw11
 refine (c31 (iops_has ops) oww26 ndw26 (by omega) (by have := sz0; have := iops_cnt sz0; (try simp only [Dat.cntT, Dat.cntTs] at *); omega)).mono ?_
 rintro _ w26 ⟨rfl, dw26, _, cnw26, hsw26, mkw26, oww26, ow26⟩
 have fw5 := fw5.only ow26 (fun k h1 h2 hk => by have := rgw26 k hk; omega)
 have fw8_0 := fw8_0.only ow26 (fun k h1 h2 hk => by have := rgw26 k hk; omega)
 have fw14_0 := fw14_0.only ow26 (fun k h1 h2 hk => by have := rgw26 k hk; omega)
 have fw20 := fw20.only ow26 (fun k h1 h2 hk => by have := rgw26 k hk; omega)
 have e := Ext.own e ow26 (fun k hk => by have := rgw26 k hk; omega)
 have zw26 := ow26.size
 have fw26 : Fr _ _ w26 (.sl 8 dw26) _ := ⟨bsw26, oww26, ndw26, rgw26⟩
 refine ⟨_, rfl, ?_⟩
 refine JoinW.each ?_
 refine BIf.f (decide_eq_false (by omega)) ?_
 refine (c29 (irun_has ops) fw14_0.is fw8_0.is).mono ?_
 rintro _ w50 ⟨rfl, ew50⟩
 have fw5 := fw5.ext ew50
 have fw8_0 := fw8_0.ext ew50
 have fw14_0 := fw14_0.ext ew50
 have fw20 := fw20.ext ew50
 have fw26 := fw26.ext ew50
 have e := Only.trans e ew50
 have zw50 := ew50.size
 refine ⟨_, rfl, ?_⟩
 refine BIf.f (by first | (simp; done) | (simp; omega)) ?_
 obtain ⟨bsw32, oww32, ndw32, rgw32⟩ := fw14_0
 refine (c32 (irun_has ops) oww32 ndw32 (by omega) (by have := irun_cnt h0 sz0; omega)).mono ?_
 rintro _ w32 ⟨rfl, dw32, _, cnw32, hsw32, mkw32, oww32, ow32⟩
 have fw5 := fw5.only ow32 (fun k h1 h2 hk => by have := rgw32 k hk; omega)
 have fw8_0 := fw8_0.only ow32 (fun k h1 h2 hk => by have := rgw32 k hk; omega)
 have fw20 := fw20.only ow32 (fun k h1 h2 hk => by have := rgw32 k hk; omega)
 have fw26 := fw26.only ow32 (fun k h1 h2 hk => by have := rgw32 k hk; omega)
 have e := Ext.own e ow32 (fun k hk => by have := rgw32 k hk; omega)
 have zw32 := ow32.size
 have fw32 : Fr _ _ w32 (.sl 4 dw32) _ := ⟨bsw32, oww32, ndw32, rgw32⟩
 refine ⟨_, rfl, ?_⟩
 refine (c33 hsw32 fw32.is mkw32 (by omega) (by have := cnw32; have := irun_cnt h0 sz0; omega)).mono ?_
 rintro _ w35 ⟨rfl, ew35⟩
 have fw5 := fw5.ext ew35
 have fw8_0 := fw8_0.ext ew35
 have fw20 := fw20.ext ew35
 have fw26 := fw26.ext ew35
 have fw32 := fw32.ext ew35
 have e := Only.trans e ew35
 have zw35 := ew35.size
 refine ⟨_, rfl, ?_⟩
 refine BIf.f (decide_eq_false (by omega)) ?_
 refine BIf.f (by first | (simp; done) | (simp; omega)) ?_
 refine (c27 (iops_has ops) (IsD.ext e _ _ h0) (by have := sz0; omega)).mono ?_
 rintro _ w38 ⟨yw38, rfl, fw38, ew38⟩
 have fw5 := fw5.ext ew38
 have fw8_0 := fw8_0.ext ew38
 have fw20 := fw20.ext ew38
 have fw26 := fw26.ext ew38
 have fw32 := fw32.ext ew38
 have e := Only.trans e ew38
 have zw38 := ew38.size
 refine ⟨yw38, rfl, ?_⟩
 refine (implIpcRun fw38.is sz0).mono ?_
 rintro _ w41 ⟨yw41_0, rfl, fw41_0, ew41⟩
 have fw5 := fw5.ext ew41
 have fw8_0 := fw8_0.ext ew41
 have fw20 := fw20.ext ew41
 have fw26 := fw26.ext ew41
 have fw32 := fw32.ext ew41
 have fw38 := fw38.ext ew41
 have e := Only.trans e ew41
 have zw41 := ew41.size
 refine ⟨yw41_0, rfl, ?_⟩
 refine (c29 (irun_has ops) fw41_0.is fw8_0.is).mono ?_
 rintro _ w44 ⟨rfl, ew44⟩
 have fw5 := fw5.ext ew44
 have fw8_0 := fw8_0.ext ew44
 have fw20 := fw20.ext ew44
 have fw26 := fw26.ext ew44
 have fw32 := fw32.ext ew44
 have fw38 := fw38.ext ew44
 have fw41_0 := fw41_0.ext ew44
 have e := Only.trans e ew44
 have zw44 := ew44.size
 refine ⟨_, rfl, ?_⟩
 refine BIf.f rfl ?_
 refine (c33 hsw32 fw32.is mkw32 (by omega) (by have := cnw32; have := irun_cnt h0 sz0; omega)).mono ?_
 rintro _ w47 ⟨rfl, ew47⟩
 have fw5 := fw5.ext ew47
 have fw8_0 := fw8_0.ext ew47
 have fw20 := fw20.ext ew47
 have fw26 := fw26.ext ew47
 have fw32 := fw32.ext ew47
 have fw38 := fw38.ext ew47
 have fw41_0 := fw41_0.ext ew47
 have e := Only.trans e ew47
 have zw47 := ew47.size
 refine ⟨_, rfl, ?_⟩
 refine BIf.f (decide_eq_false (by omega)) ?_
 refine BIf.f (by first | (simp; done) | (simp; omega)) ?_
 exact ⟨by trivial, e⟩
open Go.RowKit in
theorem law_calls6 {w : World} {a0 : Option Addr} {len0 cap0 : Nat} {ops : List DIpcOp} (h0 : (cSlice cDIpcOp).is w [.slice a0 len0 cap0] ops) : Calls Try.prog 6 #[.slice a0 len0 cap0] w (fun e w' => e = .returned (.bool true) ∧ Below w.heap.size w w') :=
 (walk6 (p0 := ⟨a0, len0, cap0⟩) (isD_mkSl (f := DIpcOp.dat) h0 (fun es x hx => cDIpcOp_dat hx))).mono (by rintro e w' ⟨v, rfl, rfl, he⟩; exact ⟨rfl, he.below⟩)
end Go.Proofs.Ytbimoajgofcmbaa

/- The row of the law FnExactIpcRun: what its walk shows is what the statement says. Conditions: none. -/
namespace Go.Proofs.Ytbimoajgofcmbaa.fnExactIpcRun
open Go.ChangeShapes Go.WideShapes Go.ChangeAt Go.RowKit
open Go.ChangeMaps (open_string shut_string)
set_option linter.unusedVariables false
theorem own : ownKnob Try.prog.godebug = none := by kernel_rfl
theorem laidOut : laidOutB Try.prog = true := by kernel_rfl
set_option maxRecDepth 100000 in
theorem lifted (os : Os) (started : os.Started) (H : Type) (enc : TypeId × Value → H) :
    ReturnsInHanded {} Try.checked os 6 .any (Rows.fnExactIpcRunSpec.pre6 enc Try.prog Try.f6 Rows.fnExactIpcRunRow.domain false) (Rows.fnExactIpcRunSpec.post enc Try.prog Try.f6 false true false false) := by
  refine returnsInHanded_of_change_sized (C := Try.checked) own started (by kernel_rfl) Try.func6
    (ChangeSpec.witness6 (enc := enc) (C := Try.checked) false ⟨#[], #[.slice none 0 0], []⟩ 8 (by kernel_rfl) (by kernel_rfl) (by kernel_rfl) (by kernel_rfl)) ?_
  intro W base args ds gs before hval0 hW hcnd hsz0 _
  have hsz : (DataW.weightsEach Try.prog (Try.f6.params.toList ++ Rows.fnExactIpcRunSpec.plain.varTypes Try.prog) (ds ++ gs)).all (· ≤ reachBytes) = true := hsz0
  have hval : ∀ (j : Nat) t v, Try.f6.params[j]? = some t → args[j]? = some v → Value.okWide Try.prog W .any base t v := hval0
  have hW' := hW
  obtain ⟨p, q, hA0, hV, rfl, hfz, hnd⟩ := hW
  have hA : DataW.TrodAll enc Try.prog W 0 (fun _ => true) true Try.f6.params.toList args.toList ds p := hA0
  rw [Try.params6] at hA hval hsz
  obtain ⟨v0, vs0, d0, ds0, p0, q0, hargs, rfl, rfl, h0, r0⟩ := trodAll_cons hA
  obtain ⟨rfl, rfl, rfl⟩ := trodAll_nil r0
  obtain rfl : args = #[v0] := by cases args; simp_all
  obtain ⟨rfl, rfl⟩ := trodVars_none hV
  have k0 := h0
  have lt0 : ∀ x ∈ p0, x.block < W.heap.size := by obtain ⟨m, hm⟩ := k0; exact DataW.trod_lt m _ _ _ hm
  obtain ⟨a0, len0, cap0, rfl⟩ := okWide_slice Try.underlying46 (hval 0 46 v0 rfl rfl)
  obtain ⟨x0, w0⟩ : ∃ x, (Go.Den.cSlice cDIpcOp).is W [.slice a0 len0 cap0] x := by obtain ⟨fuel, hf⟩ := h0; exact ((o46).at_ enc W fuel _ _ hf).2
  clear hA0 hval0 hsz0 hsz
  refine (law_calls6 w0).mono fun e W' ⟨he, bel⟩ => ?_
  subst he
  exact ⟨_, rfl, _, _, _, [], _, [], hW', trodAll_mk1 (shut_bool Try.underlying4 _), (trodAll_cons_mk (Below.trod laidOut (by kernel_rfl) (of_decide_eq_true (by kernel_rfl)) k0 bel lt0) trodAll_mk0), rfl, bel.frame _, fun h => by cases h⟩
theorem over : Rows.fnExactIpcRunRow.holds Try.pinned (OpenSpec.ofChange Rows.fnExactIpcRunSpec) :=
  OpenClaim.holds_of_wide 6 Try.f6 rfl rfl rfl rfl rfl rfl rfl ⟨rfl, rfl, rfl, rfl, rfl⟩ rfl rfl rfl rfl rfl (by kernel_rfl) Try.func6 (by kernel_rfl)
    (of_decide_eq_true (by kernel_rfl)) (by unfold Func.isWrapper; first | (rw [if_pos (by decide +kernel)]; kernel_rfl) | (rw [if_neg (by decide +kernel)]; exact ⟨rfl, rfl⟩))
    (fun os started H enc _ => lifted os started H enc)
theorem proved : Rows.FnExactIpcRunSaid := over
#print axioms proved
end Go.Proofs.Ytbimoajgofcmbaa.fnExactIpcRun
namespace Go.Proofs.Ytbimoajgofcmbaa
/-- The row, under a short name, for the claim. -/
theorem fnExactIpcRun_holds : Rows.FnExactIpcRunSaid := fnExactIpcRun.proved
end Go.Proofs.Ytbimoajgofcmbaa
