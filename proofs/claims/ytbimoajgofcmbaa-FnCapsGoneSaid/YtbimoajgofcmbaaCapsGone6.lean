/- Part 6 of 8: plain readings of code, rules for them, and a proof over them, joined by a program. Conditions: none. -/
import Derived.Test.YtbimoajgofcmbaaCapsGone5
/- Ports, capabilities, pipes: the program's small functions; a Cap dropped. Conditions: none. -/
set_option linter.unusedVariables false
set_option linter.unusedSimpArgs false
namespace Go.Proofs.Ytbimoajgofcmbaa
open Go Go.Den
theorem c103 {n : Int} {w : World} : CallW Try.prog 103 #[.int .i64 n] w (fun v w' => v = .agg #[.int .i64 n, .int .i64 0, .slice none 0 0, .int .i64 0] ∧ Ext w w') := by
  refine go103 ?_
  unfold W103
  have h := SH.start w
  refine h.alloc (fun w1 h e1 n1 => ?_)
  refine h.put 0 rfl rfl rfl (fun w2 h n2 => ?_)
  exact ⟨_, h.cell 0 rfl rfl, _, h.cell 0 rfl rfl, N0, h.cell 0 rfl rfl, _, h.cell 0 rfl rfl, rfl, h.ext⟩
theorem c110 {a b : Int} {w : World} (h0 : 0 ≤ a) (h1 : a ≤ 64) : CallW Try.prog 110 #[.int .i64 a, .int .i64 b] w (fun v w' => v = .bool (decide (b < -a ∨ 64 - a < b)) ∧ w' = w) := by
  refine go110 ?_
  unfold W110
  rw [w64 (n := 0 - a) (by omega) (by omega), w64 (n := 64 - a) (by omega) (by omega)]
  refine JoinW.cut1 (fun (c : Bool) w' => c = decide (b < -a ∨ 64 - a < b) ∧ w' = w) (BIf.dec (fun hc => ⟨(decide_eq_true (.inl (by omega))).symm, rfl⟩) (fun hc => ⟨by rw [Bool.eq_iff_iff]; simp; omega, rfl⟩)) ?_
  rintro (c : Bool) w3 ⟨rfl, rfl⟩
  exact ⟨rfl, rfl⟩
theorem mid_get {α : Type} {As F : List α} {x : α} : (As ++ x :: F)[As.length]? = some x := by simp
/-- The Cap is not that one. -/
theorem c120 {w0 w : World} {As F : List Asr} {ib : Nat} {id : Int} {c : DCap} (h : SH w0 w (As ++ aB ib (([.int .i64 id] : List Value).map Ce.v) :: F)) :
    CallW Try.prog 120 ⟨[] ++ ([.agg #[.int .i64 c.Id, .int .i64 c.Holder, .int .i64 c.Port, .int .i64 c.Rights, .int .i64 c.Parent]] ++ [.pointer (some ⟨ib, 0, none⟩)])⟩ w (fun v w' => v = .bool (c.Id != id) ∧ Ext w w') := by
  refine go120 (a0_0 := c.Id) (a0_1 := c.Holder) (a0_2 := c.Port) (a0_3 := c.Rights) (a0_4 := c.Parent) ?_
  unfold W120
  have hc := h.cell As.length mid_get (i := 0) rfl
  have h := SH.start w
  refine h.alloc (fun w1 h e1 n1 => ?_)
  exact ⟨_, h.cell 0 rfl rfl, _, h.ext.cell hc, rfl, h.ext⟩
/-- The Cap is not below. -/
theorem c108 {w0 w : World} {As F : List Asr} {ib m : Nat} {ks : List Int} {c : DCap} (h : SH w0 w (As ++ aB ib (([.map (some m)] : List Value).map Ce.v) :: aSet m ks :: F)) :
    CallW Try.prog 108 ⟨[] ++ ([.agg #[.int .i64 c.Id, .int .i64 c.Holder, .int .i64 c.Port, .int .i64 c.Rights, .int .i64 c.Parent]] ++ [.pointer (some ⟨ib, 0, none⟩)])⟩ w (fun v w' => v = .bool (!decide (c.Id ∈ ks)) ∧ Ext w w') := by
  refine go108 (a0_0 := c.Id) (a0_1 := c.Holder) (a0_2 := c.Port) (a0_3 := c.Rights) (a0_4 := c.Parent) ?_
  unfold W108
  have e0 : Ext w w := Only.refl _ _
  have g : SH w0 w (As ++ aB ib (([.map (some m)] : List Value).map Ce.v) :: aSet m ks :: F) := h
  refine g.alloc (fun w1 g e1 n1 => ?_)
  have g : SH w0 w1 ((aB w.heap.size (c.cells.map Ce.v) :: As) ++ aB ib (([.map (some m)] : List Value).map Ce.v) :: aSet m ks :: F) := g
  have hc := g.cell (As.length + 1) (b := ib) (i := 0) (l := ([.map (some m)] : List Value).map Ce.v) (by show (aB w.heap.size (c.cells.map Ce.v) :: (As ++ _))[As.length + 1]? = _; rw [List.getElem?_cons_succ]; exact mid_get) rfl
  refine ⟨some m, hc, _, g.cell 0 rfl rfl, ?_⟩
  have hs : ((aB w.heap.size (c.cells.map Ce.v) :: As) ++ aB ib (([.map (some m)] : List Value).map Ce.v) :: aSet m ks :: F)[As.length + 2]? = some (aSet m ks) := by
    show (aB w.heap.size (c.cells.map Ce.v) :: (As ++ _))[As.length + 2]? = _
    rw [List.getElem?_cons_succ, List.getElem?_append_right (by omega)]
    simp
  refine g.getSet (As.length + 2) hs c.Id (fun o ho => ⟨_, ho, rfl, e1⟩)
/-! ## A Cap dropped -/
theorem re_id (id up : Int) (x : DCap) : (reCap id up x).Id = x.Id := by unfold reCap; split <;> rfl
theorem re_port (id up : Int) (x : DCap) : (reCap id up x).Port = x.Port := by unfold reCap; split <;> rfl
theorem dropC_eq (cs : List DCap) (id up : Int) : (cs.map (reCap id up)).filter (fun c => c.Id != id) = dropC cs id up := by
  unfold dropC
  rw [List.filter_map]
  congr 1
  refine List.filter_congr (fun x _ => ?_)
  show ((reCap id up x).Id != id) = _
  rw [re_id]
theorem mapTo_get' {α : Type} (f : α → α) {l : List α} {k : Nat} {x : α} (h : l[k]? = some x) : ((l.take k).map f ++ l.drop k)[k]? = some x := by
  have hk := (List.getElem?_eq_some_iff.1 h).1
  rw [List.getElem?_append_right (by simp; omega)]
  simp [Nat.min_eq_left (Nat.le_of_lt hk), h]
theorem mapTo_set' {α : Type} (f : α → α) {l : List α} {k : Nat} {x : α} (h : l[k]? = some x) : ((l.take k).map f ++ l.drop k).set k (f x) = (l.take (k + 1)).map f ++ l.drop (k + 1) := by
  have hk := (List.getElem?_eq_some_iff.1 h).1
  have he : l[k] = x := (List.getElem?_eq_some_iff.1 h).2
  rw [List.set_append_right _ _ (by simp; omega), take_snoc' h, List.map_append, List.append_assoc]
  congr 1
  have : k - ((l.take k).map f).length = 0 := by simp; omega
  rw [this, List.drop_eq_getElem_cons hk, he]
  rfl
theorem mapTo_same {α : Type} (f : α → α) {l : List α} {k : Nat} {x : α} (h : l[k]? = some x) (hx : f x = x) : (l.take k).map f ++ l.drop k = (l.take (k + 1)).map f ++ l.drop (k + 1) := by
  rw [← mapTo_set' f h, hx]
  exact (set_self (mapTo_get' f h)).symm
def dropR (r : RIpc) (id : Int) (up : Int) : RIpc := ⟨r.Next, r.Ports.filter (hasR (dropC r.Caps id up)), dropC r.Caps id up, r.Pipes⟩
set_option maxHeartbeats 1000000 in
theorem s109 {w0 w : World} {F : List Asr} {b : Nat} {tp tc tq : Sl} {r : RIpc} {id : Int} {k0 : Nat} {c : DCap} (h : SH w0 w (ST b tp tc tq r ++ F)) (hw : IWf r.abs) (hk : capIx r.abs id = k0) (hc : r.Caps[k0]? = some c) :
    CallW Try.prog 109 #[.pointer (some ⟨b, 0, none⟩), .int .i64 id] w (fun v w' => ∃ tp' tc' : Sl, v = .tuple #[] ∧ SH w0 w' (ST b tp' tc' tq (dropR r id c.Parent) ++ F)) := by
  refine go109 ?_
  unfold W109
  have hfc := hw.few.1
  have hfp := hw.few.2.1
  have hfp : r.Ports.length ≤ 1048576 := by have e : r.abs.Ports.length = r.Ports.length := List.length_map ..; omega
  have hfc : r.Caps.length ≤ 1048576 := hfc
  have h : SH w0 w (BI b r.Next tp tc tq :: rP tp r.Ports :: bP r.Ports :: rC tc r.Caps :: rQ tq r.Pipes :: bQ r.Pipes :: F) := h
  have hcl := h.len 3 rfl
  rw [recs_len] at hcl
  refine h.alloc (fun w1 h e1 n1 => ?_)
  have h : SH w0 w1 (aB w.heap.size (([.int .i64 id] : List Value).map Ce.v) :: BI b r.Next tp tc tq :: rP tp r.Ports :: bP r.Ports :: rC tc r.Caps :: rQ tq r.Pipes :: bQ r.Pipes :: F) := h
  refine ⟨_, h.cell 0 rfl rfl, ?_⟩
  have hat : IpcAt w1 tp tc tq r.abs := ipc_at (F := F) (SH.drop (SH.drop h)) hw
  obtain ⟨q, hq⟩ := h.rowQ 4 rfl hc
  refine (c59 (h.cell 1 rfl rfl) hat).mono ?_
  rintro _ w4 ⟨rfl, rfl⟩
  rw [hk, ptrE_at hq]
  refine ⟨_, rfl, _, rfl, _, h.rdR 4 rfl hq hc rfl, _, rfl, tc, h.cellP 1 rfl rfl, ?_⟩
  have h : SH w0 w4 (aB w.heap.size (([.int .i64 id] : List Value).map Ce.v) :: BI b r.Next tp tc tq :: rP tp r.Ports :: bP r.Ports :: rC tc ((r.Caps.take 0).map (reCap id c.Parent) ++ r.Caps.drop 0) :: rQ tq r.Pipes :: bQ r.Pipes :: F) := h
  refine LoopW.m1 (fun (i : Int) w' => ∃ k : Nat, i = k ∧ k ≤ r.Caps.length ∧ SH w0 w' (aB w.heap.size (([.int .i64 id] : List Value).map Ce.v) :: BI b r.Next tp tc tq :: rP tp r.Ports :: bP r.Ports :: rC tc ((r.Caps.take k).map (reCap id c.Parent) ++ r.Caps.drop k) :: rQ tq r.Pipes :: bQ r.Pipes :: F)) (fun (i : Int) _ => (r.Caps.length - i).toNat) ⟨0, rfl, by omega, h⟩ ?_
  clear h
  rintro (i : Int) w12 ⟨k, rfl, hkl, h⟩ J hJ
  refine BIf.dec (fun hlt => ?_) (fun hge => ?_)
  · have hget : r.Caps[k]? = some r.Caps[k] := List.getElem?_eq_getElem (by omega)
    generalize r.Caps[k] = x at *
    have hg := mapTo_get' (reCap id c.Parent) hget
    have hst := mapTo_set' (reCap id c.Parent) hget
    have hsm := mapTo_same (reCap id c.Parent) hget
    have hlen : k < ((r.Caps.take k).map (reCap id c.Parent) ++ r.Caps.drop k).length := (List.getElem?_eq_some_iff.1 hg).1
    have h := h.drew
    simp only [Int.toNat_natCast]
    rw [w64 (n := (k : Int) + 1) (by omega) (by omega)]
    refine ⟨_, rfl, tc, h.cellP 1 rfl rfl, by omega, by omega, q, hq, _, h.rdR 4 rfl hq hg rfl, _, h.cell 0 rfl rfl, BIf.eq (fun he => ?_) (fun he => ?_)⟩
    · refine ⟨_, rfl, tc, h.cellP 1 rfl rfl, by omega, by omega, q, hq, ?_⟩
      rw [set_at hg] at h
      refine h.setR 4 (reCap id c.Parent x) rfl hq hlen (by show 4 < 5; omega) (by unfold reCap; rw [if_pos he]; rfl) (fun w21 h n21 => ?_)
      have h : SH w0 w21 (aB w.heap.size (([.int .i64 id] : List Value).map Ce.v) :: BI b r.Next tp tc tq :: rP tp r.Ports :: bP r.Ports :: rC tc (((r.Caps.take k).map (reCap id c.Parent) ++ r.Caps.drop k).set k (reCap id c.Parent x)) :: rQ tq r.Pipes :: bQ r.Pipes :: F) := h
      rw [hst] at h
      exact hJ _ _ ⟨k + 1, by omega, by omega, h⟩ (by omega)
    · rw [hsm (by unfold reCap; rw [if_neg he])] at h
      exact hJ _ _ ⟨k + 1, by omega, by omega, h⟩ (by omega)
  · have hke : k = r.Caps.length := by omega
    rw [hke, List.take_length, List.drop_length, List.append_nil] at h
    have h : SH w0 w12 (BI b r.Next tp tc tq :: rP tp r.Ports :: bP r.Ports :: rC tc (r.Caps.map (reCap id c.Parent)) :: aB w.heap.size (([.int .i64 id] : List Value).map Ce.v) :: rQ tq r.Pipes :: bQ r.Pipes :: F) := ((((h.front (n := 4) rfl).front (n := 4) rfl).front (n := 4) rfl).front (n := 4) rfl)
    refine (s107 (p := fun c => c.Id != id) h (by rw [List.length_map]; exact hfc) hfp (fun c w1 As _ hA => c120 hA)).mono ?_
    rintro _ w23 ⟨tp', tc', rfl, h⟩
    rw [dropC_eq] at h
    refine ⟨rfl, tp', tc', rfl, ?_⟩
    exact (h.dropAt 4)
end Go.Proofs.Ytbimoajgofcmbaa

/- Ports, capabilities, pipes: the step's cases; what is handed back. Conditions: none. -/
set_option linter.unusedVariables false
set_option linter.unusedSimpArgs false
namespace Go.Proofs.Ytbimoajgofcmbaa
open Go Go.Den
theorem step_bad {d : DIpc} {o : DIpcOp} (h : BadO o) : stepI d o = (d, resE 1) := if_pos h
theorem step_1 {d : DIpc} {o : DIpcOp} (h : ¬ BadO o) (k : o.Kind = 1) : stepI d o = newPort d o := by unfold stepI; rw [if_neg h, if_pos k]
theorem step_7 {d : DIpc} {o : DIpcOp} (h : ¬ BadO o) (k : o.Kind = 7) : stepI d o = goneI d o := by unfold stepI; rw [if_neg h, if_neg (by omega), if_pos k]
theorem step_8 {d : DIpc} {o : DIpcOp} (h : ¬ BadO o) (k : o.Kind = 8) : stepI d o = newPipe d := by unfold stepI; rw [if_neg h, if_neg (by omega), if_neg (by omega), if_pos k]
theorem step_p0 {d : DIpc} {o : DIpcOp} (h : ¬ BadO o) (k : 9 ≤ o.Kind) (hp : pipeOf d o.Id = none) : stepI d o = (d, resE 5) := by unfold stepI; rw [if_neg h, if_neg (by omega), if_neg (by omega), if_neg (by omega), if_pos k, hp]
theorem step_p {d : DIpc} {o : DIpcOp} {p : DPipe} (h : ¬ BadO o) (k : 9 ≤ o.Kind) (hp : pipeOf d o.Id = some p) : stepI d o = pipeI d o (pipeIx d o.Id).toNat p := by unfold stepI; rw [if_neg h, if_neg (by omega), if_neg (by omega), if_neg (by omega), if_pos k, hp]
theorem step_c0 {d : DIpc} {o : DIpcOp} (h : ¬ BadO o) (k : 2 ≤ o.Kind ∧ o.Kind ≤ 6) (hp : capOf d o.Id = none) : stepI d o = (d, resE 5) := by unfold stepI; rw [if_neg h, if_neg (by omega), if_neg (by omega), if_neg (by omega), if_neg (by omega), hp]
theorem step_ch {d : DIpc} {o : DIpcOp} {c : DCap} (h : ¬ BadO o) (k : 2 ≤ o.Kind ∧ o.Kind ≤ 6) (hp : capOf d o.Id = some c) (hh : c.Holder ≠ o.Holder) : stepI d o = (d, resE 5) := by unfold stepI; rw [if_neg h, if_neg (by omega), if_neg (by omega), if_neg (by omega), if_neg (by omega), hp]; exact if_pos hh
theorem step_c {d : DIpc} {o : DIpcOp} {c : DCap} (h : ¬ BadO o) (k : 2 ≤ o.Kind ∧ o.Kind ≤ 6) (hp : capOf d o.Id = some c) (hh : c.Holder = o.Holder) : stepI d o = capI d o c := by unfold stepI; rw [if_neg h, if_neg (by omega), if_neg (by omega), if_neg (by omega), if_neg (by omega), hp]; exact if_neg (by omega)
theorem cap_2 {d : DIpc} {o : DIpcOp} {c : DCap} (k : o.Kind = 2) : capI d o c = giveI d o c := if_pos k
theorem cap_3 {d : DIpc} {o : DIpcOp} {c : DCap} (k : o.Kind = 3) : capI d o c = revF d o.Id := by unfold capI; rw [if_neg (by omega), if_pos k]
theorem cap_4 {d : DIpc} {o : DIpcOp} {c : DCap} (k : o.Kind = 4) : capI d o c = (cleanF (dropF d o.Id), resN 0) := by unfold capI; rw [if_neg (by omega), if_neg (by omega), if_pos k]
theorem cap_5 {d : DIpc} {o : DIpcOp} {c : DCap} (k : o.Kind = 5) : capI d o c = sendI d o c := by unfold capI; rw [if_neg (by omega), if_neg (by omega), if_neg (by omega), if_pos k]
theorem cap_6 {d : DIpc} {o : DIpcOp} {c : DCap} (k : o.Kind = 6) : capI d o c = recvI d o c := by unfold capI; rw [if_neg (by omega), if_neg (by omega), if_neg (by omega), if_neg (by omega)]
/-! ## Rights -/
theorem am_fin4 : ∀ y : Fin 8, ((andI .i64 ((y.val : Nat) : Int) 4) == 0) = !amongB 4 ((y.val : Nat) : Int) := by decide
theorem am_fin1 : ∀ y : Fin 8, ((andI .i64 ((y.val : Nat) : Int) 1) == 0) = !amongB 1 ((y.val : Nat) : Int) := by decide
theorem am_fin2 : ∀ y : Fin 8, ((andI .i64 ((y.val : Nat) : Int) 2) == 0) = !amongB 2 ((y.val : Nat) : Int) := by decide
theorem am4 {y : Int} (h1 : 1 ≤ y) (h2 : y ≤ 7) : ((andI .i64 y 4) == 0) = !amongB 4 y := by
  have := am_fin4 ⟨y.toNat, by omega⟩; simp only at this; rwa [show ((y.toNat : Nat) : Int) = y by omega] at this
theorem am1 {y : Int} (h1 : 1 ≤ y) (h2 : y ≤ 7) : ((andI .i64 y 1) == 0) = !amongB 1 y := by
  have := am_fin1 ⟨y.toNat, by omega⟩; simp only at this; rwa [show ((y.toNat : Nat) : Int) = y by omega] at this
theorem am2 {y : Int} (h1 : 1 ≤ y) (h2 : y ≤ 7) : ((andI .i64 y 2) == 0) = !amongB 2 y := by
  have := am_fin2 ⟨y.toNat, by omega⟩; simp only at this; rwa [show ((y.toNat : Nat) : Int) = y by omega] at this
/-! ## What is handed back -/
abbrev BR (b : Nat) (c n : Int) (t : Sl) (f : Int) : Asr := aB b (([.int .i64 c, .int .i64 n, .slice t.a t.len t.cap, .int .i64 f] : List Value).map Ce.v)
abbrev rV (c n : Int) (t : Sl) (f : Int) : Value := .agg #[.int .i64 c, .int .i64 n, .slice t.a t.len t.cap, .int .i64 f]
def opV (o : DIpcOp) (td : Sl) : List Value := [.int .i64 o.Kind, .int .i64 o.Holder, .int .i64 o.Id, .int .i64 o.To, .int .i64 o.Rights, .int .i64 o.Cap, .int .i64 o.N, .slice td.a td.len td.cap]
abbrev BO (b : Nat) (o : DIpcOp) (td : Sl) : Asr := aB b ((opV o td).map Ce.v)
abbrev BC (b : Nat) (c : DCap) : Asr := aB b (c.cells.map Ce.v)
/-- The state and the answer, both one's own. -/
def SR (w0 : World) (F : List Asr) (b : Nat) (res : IRes) (v : Value) (w' : World) : Prop := ∃ (tp tc tq t : Sl) (r : RIpc), v = rV res.2.Code res.2.N t res.2.From ∧ r.abs = res.1 ∧ SH w0 w' (rD t res.2.Data :: (ST b tp tc tq r ++ F))
/-- The answer under way. -/
def Mid (w0 : World) (F : List Asr) (b rb : Nat) (res : IRes) (w' : World) : Prop := ∃ (tp tc tq t : Sl) (r : RIpc), r.abs = res.1 ∧ SH w0 w' (BR rb res.2.Code res.2.N t res.2.From :: rD t res.2.Data :: (ST b tp tc tq r ++ F))
theorem errT {w0 w : World} {As : List Asr} {rb i : Nat} {n : Int} {K : Value → World → Prop} (h : SH w0 w As) (hA : As[i]? = some (BR rb 0 0 N0 0)) (hK : ∀ w', SH w0 w' (As.set i (BR rb n 0 N0 0)) → K (rV n 0 N0 0) w') :
    CallW Try.prog 103 #[.int .i64 n] w (fun v13 w14 => ∃ n15 : Int, ∃ n16 : Int, ∃ l17 : Sl, ∃ n18 : Int, v13 = .agg #[.int .i64 n15, .int .i64 n16, .slice l17.a l17.len l17.cap, .int .i64 n18] ∧ MayN w14 ⟨rb, 0, none⟩ 4 ∧ LetW (puts w14 ⟨rb, 0, none⟩ 0 [.int .i64 n15, .int .i64 n16, .slice l17.a l17.len l17.cap, .int .i64 n18]) fun w19 => ∃ n20 : Int, w19.cell? ⟨rb, 0, none⟩ = some (.int .i64 n20) ∧ ∃ n21 : Int, w19.cell? ⟨rb, 1, none⟩ = some (.int .i64 n21) ∧ ∃ l22 : Sl, w19.cell? ⟨rb, 2, none⟩ = some (.slice l22.a l22.len l22.cap) ∧ ∃ n23 : Int, w19.cell? ⟨rb, 3, none⟩ = some (.int .i64 n23) ∧ K (.agg #[.int .i64 n20, .int .i64 n21, .slice l22.a l22.len l22.cap, .int .i64 n23]) w19) := by
  refine c103.mono ?_
  rintro _ w14 ⟨rfl, e14⟩
  have h := h.to e14
  refine ⟨n, 0, N0, 0, rfl, ?_⟩
  refine h.put i hA rfl rfl (fun w19 h n19 => ?_)
  have hi : (As.set i (aB rb (([.int .i64 n, .int .i64 0, .slice N0.a N0.len N0.cap, .int .i64 0] : List Value).map Ce.v)))[i]? = some (BR rb n 0 N0 0) := by
    rw [List.getElem?_set_self]
    exact (List.getElem?_eq_some_iff.1 hA).1
  exact ⟨_, h.cell i hi rfl, _, h.cell i hi rfl, N0, h.cell i hi rfl, _, h.cell i hi rfl, hK _ h⟩
theorem srE {w0 w' : World} {F : List Asr} {b : Nat} {tp tc tq : Sl} {r : RIpc} {n : Int} {res : IRes} (hres : res = (r.abs, resE n)) (h : SH w0 w' (ST b tp tc tq r ++ F)) : SR w0 F b res (rV n 0 N0 0) w' := by
  subst hres
  exact ⟨tp, tc, tq, N0, r, rfl, rfl, h.nil none 1⟩
/-- All numbers of a state that can be. -/
theorem IOk.rights {d : DIpc} (h : IOk d) {c : DCap} (hc : c ∈ d.Caps) : 1 ≤ c.Rights ∧ c.Rights ≤ 7 := by
  obtain ⟨i, hi⟩ := List.getElem?_of_mem hc
  exact ⟨(h.cap i c hi).r1, (h.cap i c hi).r7⟩
theorem abs_ports (r : RIpc) : r.abs.Ports.length = r.Ports.length := List.length_map ..
theorem abs_pipes (r : RIpc) : r.abs.Pipes.length = r.Pipes.length := List.length_map ..
theorem filter_abs (l : List RPort) (cs : List DCap) : (l.filter (hasR cs)).map RPort.abs = (l.map RPort.abs).filter (hasCap cs) := by
  rw [List.filter_map]; rfl
/-- Each port of a state that can be has a Cap. -/
theorem IOk.has {d : DIpc} (h : IOk d) : ∀ p, p ∈ d.Ports → hasCap d.Caps p = true := fun p hp => by
  obtain ⟨i, hi⟩ := List.getElem?_of_mem hp
  obtain ⟨c, hc, he⟩ := (h.port i p hi).some_
  exact List.any_eq_true.2 ⟨c, hc, by simpa using he⟩
/-- What is below a Cap is at its port. -/
theorem und_port {d : DIpc} (h : IOk d) {top : Int} {t : DCap} (ht : t ∈ d.Caps) (hid : t.Id = top) : ∀ (n : Nat) (i : Nat) (c : DCap), i ≤ n → d.Caps[i]? = some c → Und d top c.Id → c.Port = t.Port
  | n, i, c, hn, hc, hu => by
    obtain ⟨h0, h1⟩ := (und_iff h hc).1 hu
    have hco := h.cap i c hc
    rcases hco.par with h2 | ⟨k, p, hp⟩
    · exact absurd h2 h0
    · obtain ⟨k', p', e1, e2, e3, e4⟩ := par_at h hc h0
      have hkk : k' = k := by have := hp.ix; omega
      subst hkk
      have hpp : p' = p := by have := hp.at_; rw [this] at e2; exact (Option.some.inj e2).symm
      subst hpp
      rcases h1 with h1 | h1
      · obtain ⟨j, hj⟩ := List.getElem?_of_mem ht
        have hkj := ((cap_mono h e2 hj).2).1 (by rw [e3, h1, hid])
        subst hkj
        rw [e2] at hj
        have := Option.some.inj hj
        rw [← this, hp.port]
      · rcases n with _ | n
        · omega
        · rw [← hp.port]
          exact und_port h ht hid n k' p' (by omega) e2 (by rw [e3]; exact h1)
theorem rev_has {d : DIpc} (h : IOk d) {top : Int} {t : DCap} (ht : t ∈ d.Caps) (hid : t.Id = top) : ∀ p, p ∈ d.Ports → hasCap (revC d top) p = true := fun p hp => by
  have := h.has p hp
  obtain ⟨c, hc, he⟩ := List.any_eq_true.1 this
  have htr : t ∈ revC d top := by
    unfold revC
    refine List.mem_filter.2 ⟨ht, ?_⟩
    have : ¬ Und d top t.Id := fun hu => by have := und_gt h hu; omega
    simp [this]
  by_cases hu : Und d top c.Id
  · obtain ⟨i, hi⟩ := List.getElem?_of_mem hc
    have hport := und_port h ht hid i i c (Nat.le_refl _) hi hu
    refine List.any_eq_true.2 ⟨t, htr, ?_⟩
    rw [hport] at he
    exact he
  · exact List.any_eq_true.2 ⟨c, List.mem_filter.2 ⟨hc, by simp [hu]⟩, he⟩
end Go.Proofs.Ytbimoajgofcmbaa

/- Ports, capabilities, pipes: a holder gone, its Caps dropped one behind the other (plain). Conditions: none. -/
set_option linter.unusedVariables false
set_option linter.unusedSimpArgs false
namespace Go.Proofs.Ytbimoajgofcmbaa
open Go Go.Den
theorem has_drop {cs : List DCap} {id up : Int} {p : DPort} (h : hasCap (dropC cs id up) p = true) : hasCap cs p = true := by
  obtain ⟨c, hc, he⟩ := List.any_eq_true.1 h
  unfold dropC at hc
  obtain ⟨x, hx, rfl⟩ := List.mem_map.1 hc
  rw [re_port] at he
  exact List.any_eq_true.2 ⟨x, (List.mem_filter.1 hx).1, he⟩
theorem clean_self {d : DIpc} (h : IOk d) : cleanF d = d := by
  unfold cleanF
  rw [List.filter_eq_self.2 (h.has)]
theorem capOf_clean (d : DIpc) (id : Int) : capOf (cleanF d) id = capOf d id := rfl
theorem clean_drop (d : DIpc) (id : Int) : cleanF (dropF (cleanF d) id) = cleanF (dropF d id) := by
  unfold dropF
  rw [capOf_clean]
  cases hc : capOf d id with
  | none => unfold cleanF; simp
  | some c =>
    unfold cleanF
    dsimp only
    congr 1
    rw [List.filter_filter]
    refine List.filter_congr (fun p _ => ?_)
    by_cases hp : hasCap (dropC d.Caps id c.Parent) p = true
    · rw [hp, has_drop hp]; rfl
    · simp [hp]
/-- The one dropped, in parts. -/
def dropRo (r : RIpc) (id : Int) : RIpc := match capOf r.abs id with
  | none => r
  | some c => dropR r id c.Parent
theorem gone_abs : ∀ (ids : List Int) {r : RIpc} {d : DIpc}, r.abs = cleanF d → (∀ id, id ∈ ids → True) → (ids.foldl dropRo r).abs = cleanF (ids.foldl dropF d)
  | [], r, d, h, _ => h
  | id :: t, r, d, h, _ => by
    have h2 : (dropRo r id).abs = cleanF (dropF d id) := by
      unfold dropRo
      cases hc : capOf r.abs id with
      | none =>
        have hc2 : capOf d id = none := by rw [h] at hc; exact hc
        unfold dropF
        rw [hc2]; exact h
      | some c =>
        dsimp only
        rw [drop_abs' hc, h, clean_drop]
    exact gone_abs t h2 (fun _ _ => trivial)
where
  drop_abs' {r : RIpc} {id : Int} {c : DCap} (hc : capOf r.abs id = some c) : (dropR r id c.Parent).abs = cleanF (dropF r.abs id) := by
    unfold dropF
    rw [hc]
    unfold dropR cleanF RIpc.abs
    dsimp only
    rw [filter_abs]
theorem capOf_mem {d : DIpc} {c : DCap} (h : c ∈ d.Caps) : ∃ (k : Nat) (c' : DCap), capIx d c.Id = k ∧ d.Caps[k]? = some c' ∧ capOf d c.Id = some c' := by
  rcases capIx_cases d c.Id with ⟨_, _, e3⟩ | ⟨k, c', e1, e2, e3, _⟩
  · exact absurd rfl (e3 c h)
  · exact ⟨k, c', e1, e2, e3⟩
/-- The others are there still. -/
theorem drop_keeps {r : RIpc} {id id' : Int} (h : ∃ c, c ∈ r.Caps ∧ c.Id = id') (hne : id' ≠ id) : ∃ c, c ∈ (dropRo r id).Caps ∧ c.Id = id' := by
  unfold dropRo
  cases hc : capOf r.abs id with
  | none => exact h
  | some c =>
    obtain ⟨x, hx, rfl⟩ := h
    exact ⟨reCap id c.Parent x, List.mem_map.2 ⟨x, List.mem_filter.2 ⟨hx, by simpa using hne⟩, rfl⟩, re_id _ _ _⟩
theorem drop_wf {r : RIpc} {id : Int} (h : IWf r.abs) : IWf (dropRo r id).abs := by
  unfold dropRo
  cases hc : capOf r.abs id with
  | none => exact h
  | some c =>
    have hp : ∀ p, p ∈ (dropR r id c.Parent).abs.Ports → p ∈ r.abs.Ports := fun p hp => by
      obtain ⟨x, hx, rfl⟩ := List.mem_map.1 hp
      exact List.mem_map.2 ⟨x, (List.mem_filter.1 hx).1, rfl⟩
    obtain ⟨f1, f2, f3⟩ := h.few
    refine ⟨fun p hp2 => h.msgs p (hp p hp2), h.pipes, ⟨h.pw.pipes⟩, ⟨?_, ?_, f3⟩, fun p hp2 => h.queues p (hp p hp2)⟩
    · have h1 : (dropC r.Caps id c.Parent).length ≤ r.Caps.length := by
        unfold dropC; rw [List.length_map]; exact List.length_filter_le ..
      have h2 : r.Caps.length ≤ 1048576 := f1
      show (dropC r.Caps id c.Parent).length ≤ _
      omega
    · rw [abs_ports] at f2 ⊢
      have := List.length_filter_le (hasR (dropC r.Caps id c.Parent)) r.Ports
      show (r.Ports.filter _).length ≤ _
      omega
theorem foldl_snoc {α β : Type} {f : β → α → β} {l : List α} {k : Nat} {x : α} {z : β} (h : l[k]? = some x) : (l.take (k + 1)).foldl f z = f ((l.take k).foldl f z) x := by
  have hk := (List.getElem?_eq_some_iff.1 h).1
  have he : l[k] = x := (List.getElem?_eq_some_iff.1 h).2
  rw [List.take_add_one, h, List.foldl_append]
  rfl
/-- The numbers of a holder's Caps: each is there once. -/
theorem ids_nd {d : DIpc} (h : IOk d) (hl : Int) : (idsOf d hl).Nodup ∧ ∀ id, id ∈ idsOf d hl → ∃ c, c ∈ d.Caps ∧ c.Id = id := by
  constructor
  · have hids : (d.Caps.map DCap.Id).Nodup := by
      rw [List.nodup_iff_pairwise_ne, List.pairwise_map]
      refine List.pairwise_iff_getElem.2 (fun i j hi hj hij => ?_)
      have := (cap_mono h (List.getElem?_eq_getElem hi) (List.getElem?_eq_getElem hj)).1.2 hij
      omega
    refine List.Nodup.sublist ?_ hids
    exact (List.filter_sublist).map _
  · intro id hid
    obtain ⟨c, hc, rfl⟩ := List.mem_map.1 hid
    exact ⟨c, (List.mem_filter.1 hc).1, rfl⟩
theorem nd_get {l : List Int} (h : l.Nodup) {i j : Nat} {x : Int} (hi : l[i]? = some x) (hj : l[j]? = some x) : i = j := by
  obtain ⟨h1, e1⟩ := List.getElem?_eq_some_iff.1 hi
  obtain ⟨h2, e2⟩ := List.getElem?_eq_some_iff.1 hj
  rw [List.nodup_iff_pairwise_ne] at h
  have hp := List.pairwise_iff_getElem.1 h
  rcases Nat.lt_trichotomy i j with hlt | he | hlt
  · exact absurd (e1.trans e2.symm) (hp i j h1 h2 hlt)
  · exact he
  · exact absurd (e2.trans e1.symm) (hp j i h2 h1 hlt)
theorem fold_wf {r : RIpc} : ∀ (l : List Int), IWf r.abs → IWf (l.foldl dropRo r).abs := by
  intro l
  induction l generalizing r with
  | nil => exact fun h => h
  | cons a t ih => exact fun h => ih (drop_wf h)
theorem fold_keeps {id : Int} : ∀ (l : List Int) {r : RIpc}, id ∉ l → (∃ c, c ∈ r.Caps ∧ c.Id = id) → ∃ c, c ∈ (l.foldl dropRo r).Caps ∧ c.Id = id
  | [], r, _, h => h
  | a :: t, r, hn, h => fold_keeps t (fun hm => hn (by simp [hm])) (drop_keeps h (fun he => hn (by simp [he])))
/-- One that is alone in its number is taken out. -/
theorem filter_out {l : List RPipe} {k : Nat} {p p2 : RPipe} (hx : l[k]? = some p) (hid : p2.Id = p.Id) (huniq : ∀ (j : Nat) (y : RPipe), l[j]? = some y → y.Id = p.Id → j = k) : (l.set k p2).filter (fun x => x.Id != p.Id) = l.eraseIdx k := by
  have hk := (List.getElem?_eq_some_iff.1 hx).1
  have e : l.set k p2 = l.take k ++ p2 :: l.drop (k + 1) := by
    rw [List.set_eq_take_append_cons_drop, if_pos hk]
  rw [e, List.filter_append, List.filter_cons_of_neg (by simp [hid]), List.eraseIdx_eq_take_drop_succ]
  congr 1
  · refine List.filter_eq_self.2 (fun y hy => ?_)
    obtain ⟨j, hj⟩ := List.getElem?_of_mem hy
    rw [List.getElem?_take] at hj
    split at hj
    · simp only [bne_iff_ne, ne_eq]
      exact fun he => by have := huniq j y hj he; omega
    · cases hj
  · refine List.filter_eq_self.2 (fun y hy => ?_)
    obtain ⟨j, hj⟩ := List.getElem?_of_mem hy
    rw [List.getElem?_drop] at hj
    simp only [bne_iff_ne, ne_eq]
    exact fun he => by have := huniq _ y hj he; omega
theorem pipe_lt {d : DIpc} (h : IOk d) : ∀ (n i j : Nat) (a b : DPipe), j = i + n + 1 → d.Pipes[i]? = some a → d.Pipes[j]? = some b → a.Id < b.Id
  | 0, i, j, a, b, hj, ha, hb => (h.pipe j b hb).sorted a (by omega) (by rw [show j - 1 = i by omega]; exact ha)
  | n + 1, i, j, a, b, hj, ha, hb => by
    have hjl := (List.getElem?_eq_some_iff.1 hb).1
    have hc : d.Pipes[j - 1]? = some d.Pipes[j - 1] := List.getElem?_eq_getElem (by omega)
    have h1 := pipe_lt h n i (j - 1) a _ (by omega) ha hc
    have h2 := (h.pipe j b hb).sorted _ (by omega) hc
    omega
theorem pipe_uniq {d : DIpc} (h : IOk d) {i j : Nat} {a b : DPipe} (ha : d.Pipes[i]? = some a) (hb : d.Pipes[j]? = some b) (he : a.Id = b.Id) : i = j := by
  rcases Nat.lt_trichotomy i j with hlt | e | hlt
  · have := pipe_lt h (j - i - 1) i j a b (by omega) ha hb; omega
  · exact e
  · have := pipe_lt h (i - j - 1) j i b a (by omega) hb ha; omega
/-! ## Parts of rows of bytes -/
theorem rowN_pre {w : World} {s : Sl} {m : List Int} {k : Nat} (h : RowAt w s.a s.len (m.map (Value.int .u8))) (hk : k ≤ m.length) : RowAt w (cutA s.a s.cap (Int.toNat 0) 1) (k - Int.toNat 0) ((m.take k).map (Value.int .u8)) := by
  have h1 : RowAt w s.a (s.len * 1) (m.flatMap (fun x => [Value.int .u8 x])) := by rw [Nat.mul_one, ← List.map_eq_flatMap]; exact h
  have := RowAt.pre (f := fun x => [Value.int .u8 x]) (z := 1) (fun _ => rfl) h1 hk
  rw [Nat.mul_one, ← List.map_eq_flatMap] at this
  exact this
theorem rowN_suf {w : World} {s : Sl} {m : List Int} {k : Nat} (h : RowAt w s.a s.len (m.map (Value.int .u8))) (hl : s.len = m.length) (hc : s.len ≤ s.cap) (hk : k ≤ m.length) : RowAt w (cutA s.a s.cap k 1) (s.len - k) ((m.drop k).map (Value.int .u8)) := by
  have h1 : RowAt w s.a (s.len * 1) (m.flatMap (fun x => [Value.int .u8 x])) := by rw [Nat.mul_one, ← List.map_eq_flatMap]; exact h
  have := RowAt.suf (f := fun x => [Value.int .u8 x]) (z := 1) (fun _ => rfl) h1 hl hc hk
  rw [Nat.mul_one, ← List.map_eq_flatMap] at this
  exact this
end Go.Proofs.Ytbimoajgofcmbaa

/- Ports, capabilities, pipes: the program's step. Conditions: none. -/
set_option linter.unusedVariables false
set_option linter.unusedSimpArgs false
namespace Go.Proofs.Ytbimoajgofcmbaa
open Go Go.Den
theorem caps_only {w0 w : World} {As : List Asr} (h : SH w0 w As) (n : Nat) {t : Sl} {l : List DCap} (hA : As[n]? = some (rC t l)) (hf : l.length ≤ 1048576) : IpcAt w N0 t N0 ⟨0, [], l, []⟩ :=
  ⟨caps_at h n hA hf, ⟨rfl, fun i x hx => by simp at hx⟩, ⟨rfl, fun i x hx => by simp at hx⟩, by simp⟩
theorem lenM_set {w0 w : World} {As : List Asr} {m : Nat} {ks : List Int} {K : Int → Prop} (h : SH w0 w As) (i : Nat) (hA : As[i]? = some (aSet m ks)) (hk : K (ks.length : Int)) : lenM (some m) w K := by
  obtain ⟨H1, H2, h1, h2, hs⟩ := (h.front hA).cut
  have h1 : H1 = [(m, .m (ks.map (fun n => (Value.int .i64 n, Value.bool true))))] := h1
  subst h1
  obtain ⟨es, k, he, hm⟩ := hs.blk (m, .m (ks.map (fun n => (Value.int .i64 n, Value.bool true)))) (by simp)
  refine ⟨⟨es⟩, k, he, ?_⟩
  have := congrArg List.length hm
  simp at this
  rw [show ((⟨es⟩ : Array MapEntry)).size = ks.length by simpa using this]
  exact hk
/-- As many as are below. -/
theorem below_len {d : DIpc} (h : IOk d) {top : Int} {ks : List Int} (hnd : ks.Nodup) (hin : ∀ x, x ∈ ks → ∃ c, c ∈ d.Caps ∧ c.Id = x) (hks : ∀ (j : Nat) (y : DCap), d.Caps[j]? = some y → (y.Id ∈ ks ↔ Und d top y.Id)) : (ks.length : Int) = (d.Caps.length : Int) - ((revC d top).length : Int) := by
  classical
  have h1 : (d.Caps.filter (fun c => decide (Und d top c.Id))).length + (revC d top).length = d.Caps.length := by
    unfold revC
    have := (List.filter_append_perm (fun c : DCap => decide (Und d top c.Id)) d.Caps).length_eq
    rw [List.length_append] at this
    exact this
  have hids : (d.Caps.map DCap.Id).Nodup := by
    rw [List.nodup_iff_pairwise_ne, List.pairwise_map]
    refine List.pairwise_iff_getElem.2 (fun i j hi hj hij => ?_)
    have := (cap_mono h (List.getElem?_eq_getElem hi) (List.getElem?_eq_getElem hj)).1.2 hij
    omega
  have h2 : ((d.Caps.filter (fun c => decide (Und d top c.Id))).map DCap.Id).Nodup := by
    refine List.Nodup.sublist ?_ hids
    exact (List.filter_sublist).map _
  have hp : ks.Perm ((d.Caps.filter (fun c => decide (Und d top c.Id))).map DCap.Id) := by
    refine (List.perm_ext_iff_of_nodup hnd h2).2 (fun x => ⟨fun hx => ?_, fun hx => ?_⟩)
    · obtain ⟨c, hc, rfl⟩ := hin x hx
      obtain ⟨j, hj⟩ := List.getElem?_of_mem hc
      exact List.mem_map.2 ⟨c, List.mem_filter.2 ⟨hc, by simpa using (hks j c hj).1 hx⟩, rfl⟩
    · obtain ⟨c, hc, rfl⟩ := List.mem_map.1 hx
      obtain ⟨hc1, hc2⟩ := List.mem_filter.1 hc
      obtain ⟨j, hj⟩ := List.getElem?_of_mem hc1
      exact (hks j c hj).2 (by simpa using hc2)
  have h3 := hp.length_eq
  rw [List.length_map] at h3
  omega
theorem drop_abs {r : RIpc} {id : Int} {c : DCap} (hc : capOf r.abs id = some c) : (dropR r id c.Parent).abs = cleanF (dropF r.abs id) := by
  unfold dropF
  rw [hc]
  unfold dropR cleanF RIpc.abs
  dsimp only
  rw [filter_abs]
set_option maxRecDepth 8000 in
set_option maxHeartbeats 8000000 in
theorem s75 {w0 w : World} {F : List Asr} {b : Nat} {tp tc tq td : Sl} {r : RIpc} {o : DIpcOp} (h : SH w0 w (ST b tp tc tq r ++ F)) (hw : IWf r.abs) (hi : IOk r.abs) (hb : ByAt w0 td o.Data) (hbs : o.Data.length ≤ 1048576) :
    CallW Try.prog 75 #[.pointer (some ⟨b, 0, none⟩), .agg ⟨opV o td⟩] w (SR w0 F b (stepI r.abs o)) := by
  refine go75 (a0 := some ⟨b, 0, none⟩) (a1_0 := o.Kind) (a1_1 := o.Holder) (a1_2 := o.Id) (a1_3 := o.To) (a1_4 := o.Rights) (a1_5 := o.Cap) (a1_6 := o.N) (a1_7 := td) ?_
  unfold W75
  have hnx : 0 ≤ r.Next ∧ r.Next ≤ 1099511627776 := hi.next
  have hfc : r.Caps.length ≤ 128 := hi.caps
  have hfp : r.Ports.length ≤ 32 := by rw [← abs_ports]; exact hi.ports
  have hfq : r.Pipes.length ≤ 32 := by rw [← abs_pipes]; exact hi.pipes
  have hdl := hb.len
  have h : SH w0 w (BI b r.Next tp tc tq :: rP tp r.Ports :: bP r.Ports :: rC tc r.Caps :: rQ tq r.Pipes :: bQ r.Pipes :: F) := h
  have htp := h.len 1 rfl
  have htc := h.len 3 rfl
  have htq := h.len 4 rfl
  rw [recs_len] at htp htc htq
  refine h.alloc (fun w1 h e1 n1 => ?_)
  refine h.alloc (fun w2 h e2 n2 => ?_)
  have h : SH w0 w2 (BR w1.heap.size 0 0 N0 0 :: BO w.heap.size o td :: BI b r.Next tp tc tq :: rP tp r.Ports :: bP r.Ports :: rC tc r.Caps :: rQ tq r.Pipes :: bQ r.Pipes :: F) := h
  generalize w1.heap.size = rb at *
  generalize w.heap.size = wb at *
  refine ⟨_, h.cell 1 rfl rfl, c57.mono ?_⟩
  rintro _ w5 ⟨rfl, rfl⟩
  refine ⟨_, rfl, ?_⟩
  refine JoinW.cut1 (fun (x : Bool) w' => x = decide (o.Holder < 0 ∨ 64 ≤ o.Holder ∨ o.Kind < 1) ∧ w' = w5) (BIf.of (fun hx => ⟨?_, rfl⟩) (fun hx => ⟨_, h.cell 1 rfl rfl, ?_, rfl⟩)) ?_
  · rw [Bool.eq_iff_iff]; simp at hx ⊢; omega
  · rw [Bool.eq_iff_iff]; simp at hx ⊢; omega
  rintro (x : Bool) w9 ⟨rfl, rfl⟩
  refine JoinW.cut1 (fun (x : Bool) w' => x = decide (BadO o) ∧ w' = w9) (BIf.dec (fun hx => ⟨(decide_eq_true (by unfold BadO; omega)).symm, rfl⟩) (fun hx => ⟨_, h.cell 1 rfl rfl, by rw [Bool.eq_iff_iff, decide_eq_true_iff, decide_eq_true_iff]; unfold BadO; omega, rfl⟩)) ?_
  rintro (x : Bool) w12 ⟨rfl, rfl⟩
  refine BIf.dec (fun hbad => errT h (i := 0) rfl (fun w' h => srE (step_bad hbad) h.drop.drop)) (fun hbad => ?_)
  have hbad2 := hbad
  unfold BadO at hbad2
  refine h.alloc (fun w24 h e24 n24 => ?_)
  generalize w12.heap.size = cb at *
  have h : SH w0 w24 (BC cb ⟨0, 0, 0, 0, 0⟩ :: BR rb 0 0 N0 0 :: BO wb o td :: BI b r.Next tp tc tq :: rP tp r.Ports :: bP r.Ports :: rC tc r.Caps :: rQ tq r.Pipes :: bQ r.Pipes :: F) := h
  refine JoinW.cut0 (fun w' => ∃ c : DCap, ((2 ≤ o.Kind ∧ o.Kind ≤ 6) → ∃ k0 : Nat, capIx r.abs o.Id = k0 ∧ r.Caps[k0]? = some c ∧ capOf r.abs o.Id = some c ∧ c.Id = o.Id ∧ c.Holder = o.Holder) ∧ SH w0 w' (BC cb c :: BR rb 0 0 N0 0 :: BO wb o td :: BI b r.Next tp tc tq :: rP tp r.Ports :: bP r.Ports :: rC tc r.Caps :: rQ tq r.Pipes :: bQ r.Pipes :: F)) ?_ ?_
  · refine ⟨_, h.cell 2 rfl rfl, ?_⟩
    refine JoinW.cut1 (fun (x : Bool) w' => x = decide (2 ≤ o.Kind ∧ o.Kind ≤ 6) ∧ w' = w24) (BIf.dec (fun hx => ⟨_, h.cell 2 rfl rfl, by rw [Bool.eq_iff_iff]; simp; omega, rfl⟩) (fun hx => ⟨(decide_eq_false (by omega)).symm, rfl⟩)) ?_
    rintro (x : Bool) w582 ⟨rfl, rfl⟩
    refine BIf.dec (fun h26 => ?_) (fun h26 => ⟨_, fun hc => absurd hc h26, h⟩)
    have hat : IpcAt w582 tp tc tq r.abs := ipc_at (F := F) (SH.drop (SH.drop (SH.drop (SH.drop h)))) hw
    refine ⟨_, h.cell 2 rfl rfl, (c59 (h.cell 3 rfl rfl) hat).mono ?_⟩
    rintro _ w585 ⟨rfl, rfl⟩
    refine ⟨_, rfl, ?_⟩
    have h := h.drew
    rcases capIx_cases r.abs o.Id with ⟨e1, e2, e3⟩ | ⟨k0, c, e1, e2, e3, e4⟩
    · rw [e1, ptrE_neg (by omega)]
      refine JoinW.cut1 (fun (x : Bool) w' => x = true ∧ w' = w585.drew) (BIf.t rfl ⟨rfl, rfl⟩) ?_
      rintro (x : Bool) w589 ⟨rfl, rfl⟩
      exact BIf.t rfl (errT h (i := 1) rfl (fun w' h => srE (step_c0 hbad h26 e2) h.drop.drop.drop))
    · have e2 : r.Caps[k0]? = some c := e2
      obtain ⟨q, hq⟩ := h.rowQ 6 rfl e2
      rw [e1, ptrE_at hq]
      refine JoinW.cut1 (fun (x : Bool) w' => x = (c.Holder != o.Holder) ∧ w' = w585.drew) (BIf.f rfl ⟨_, rfl, _, h.rdR 6 rfl hq e2 rfl, _, h.cell 2 rfl rfl, rfl, rfl⟩) ?_
      rintro (x : Bool) w589 ⟨rfl, rfl⟩
      refine BIf.ne (fun hh => errT h (i := 1) rfl (fun w' h => srE (step_ch hbad h26 e3 hh) h.drop.drop.drop)) (fun hh => ?_)
      refine ⟨_, rfl, _, h.rdR 6 rfl hq e2 rfl, _, h.rdR 6 rfl hq e2 rfl, _, h.rdR 6 rfl hq e2 rfl, _, h.rdR 6 rfl hq e2 rfl, _, h.rdR 6 rfl hq e2 rfl, ?_⟩
      refine h.put 0 rfl rfl rfl (fun w607 h n607 => ?_)
      exact ⟨c, fun _ => ⟨k0, rfl, e2, e3, e4, hh⟩, h⟩
  clear h
  rintro w26 ⟨c, hcap, h⟩
  have hat : IpcAt w26 tp tc tq r.abs := ipc_at (F := F) (SH.drop (SH.drop (SH.drop (SH.drop h)))) hw
  refine JoinW.cut1 (fun (p : Option Addr) w' => w' = w26 ∧ (8 < o.Kind → ∃ (k : Nat) (p0 : RPipe) (q : Addr), pipeIx r.abs o.Id = k ∧ r.Pipes[k]? = some p0 ∧ pipeOf r.abs o.Id = some p0.abs ∧ tq.a = some q ∧ p = some (q.add (k * 4)))) ?_ ?_
  · refine ⟨_, h.cell 2 rfl rfl, BIf.dec (fun h9 => ?_) (fun h9 => ⟨rfl, fun h8 => absurd h8 h9⟩)⟩
    refine ⟨_, h.cell 2 rfl rfl, (c104 (h.cellP 3 rfl rfl) hat).mono ?_⟩
    rintro _ w566 ⟨rfl, rfl⟩
    refine ⟨_, rfl, ?_⟩
    rcases pipeIx_cases r.abs o.Id with ⟨e1, e2, e3⟩ | ⟨k0, p0, e1, e2, e3, e4⟩
    · rw [e1, ptrE_neg (by omega)]
      exact BIf.t rfl (errT h (i := 1) rfl (fun w' h => srE (step_p0 hbad h9 e2) h.drop.drop.drop))
    · obtain ⟨x, hx, rfl⟩ := map_get e2
      obtain ⟨q, hq⟩ := h.rowQ 7 rfl hx
      rw [e1, ptrE_at hq]
      exact BIf.f rfl ⟨rfl, fun _ => ⟨k0, x, q, rfl, hx, e3, hq, rfl⟩⟩
  rintro (p : Option Addr) w29 ⟨rfl, hpipe⟩
  refine JoinW.cut0 (Mid w0 F b rb (stepI r.abs o)) ?_ ?_
  rotate_left
  · clear h hat
    rintro w31 ⟨tp', tc', tq', t, r', hr', h⟩
    refine ⟨_, h.cell 0 rfl rfl, _, h.cell 0 rfl rfl, t, h.cell 0 rfl rfl, _, h.cell 0 rfl rfl, ?_⟩
    refine h.put 0 rfl rfl rfl (fun w36 h n36 => ?_)
    exact ⟨_, h.cell 0 rfl rfl, _, h.cell 0 rfl rfl, t, h.cell 0 rfl rfl, _, h.cell 0 rfl rfl, tp', tc', tq', t, r', rfl, hr', h.drop⟩
  refine ⟨_, h.cell 2 rfl rfl, ?_⟩
  refine BIf.eq (fun k1 => ?_) (fun k1 => ?_)
  · -- a new port
    refine ⟨_, rfl, tp, h.cellP 3 rfl rfl, ?_⟩
    refine JoinW.cut1 (fun (x : Bool) w' => x = decide (32 ≤ r.Ports.length ∨ 128 ≤ r.Caps.length) ∧ w' = w29) (BIf.eq (fun e => ⟨(decide_eq_true (.inl (by omega))).symm, rfl⟩) (fun e => ⟨_, rfl, tc, h.cellP 3 rfl rfl, by rw [Bool.eq_iff_iff]; simp; omega, rfl⟩)) ?_
    rintro (x : Bool) w46 ⟨rfl, rfl⟩
    have hst := step_1 (d := r.abs) hbad k1
    refine BIf.dec (fun hfull => errT h (i := 1) rfl (fun w' h => srE (by rw [hst]; unfold newPort; rw [if_pos (by rw [abs_ports]; exact hfull)]) h.drop.drop.drop)) (fun hfull => ?_)
    have hres : stepI r.abs o = (⟨r.Next + 2, r.abs.Ports ++ [⟨r.Next + 1, []⟩], r.Caps ++ [⟨r.Next + 2, o.Holder, r.Next + 1, 7, 0⟩], r.abs.Pipes⟩, resN (r.Next + 2)) := by rw [hst]; unfold newPort; rw [if_neg (by rw [abs_ports]; exact hfull)]; rfl
    rw [hres]
    refine (s105 ((((h.front (n := 2) rfl).front (n := 2) rfl).front (n := 2) rfl).front (n := 3) rfl) hnx.1 (by omega)).mono ?_
    rintro _ w59 ⟨rfl, h⟩
    refine ⟨_, rfl, _, rfl, tp, h.cellP 0 rfl rfl, ?_⟩
    refine LetW_iff.2 (SH.appendR1 (f := RPort.cells) (x := ⟨r.Next + 1, N0, []⟩) (((((h.front (n := 3) rfl).front (n := 3) rfl).front (n := 3) rfl).front (n := 3) rfl).front (n := 4) rfl) rfl rfl rfl (by decide) (by show (_ + _) * 32 ≤ _; omega) (plain_port _) (fun tp2 w65 h htp2 _ => ?_))
    refine ⟨_, rfl, ?_⟩
    refine h.setVP 1 rfl rfl (fun w67 h n67 => ?_)
    refine ⟨_, h.cell 4 rfl rfl, ?_⟩
    have h : SH w0 w67 (rP tp2 (r.Ports ++ [⟨r.Next + 1, N0, []⟩]) :: BI b (r.Next + 1) tp2 tc tq :: BC cb c :: BR rb 0 0 N0 0 :: BO wb o td :: bP r.Ports :: rC tc r.Caps :: rQ tq r.Pipes :: bQ r.Pipes :: F) := h
    refine (s106 (c := ⟨0, o.Holder, r.Next + 1, 7, 0⟩) (((((((h.front (n := 5) rfl).front (n := 5) rfl).front (n := 5) rfl).front (n := 5) rfl).front (n := 4) rfl).front (n := 6) rfl).front (n := 6) rfl) (by omega) (by omega) (by omega)).mono ?_
    rintro _ w70 ⟨tc2, rfl, h⟩
    refine ⟨_, rfl, ?_⟩
    refine h.setV 4 rfl rfl (fun w72 h n72 => ?_)
    have h := (((((((((h.dropAt 5).dropAt 3).front (n := 2) rfl).front (n := 2) rfl).front (n := 2) rfl).front (n := 3) rfl).front (n := 4) rfl)).bagNil msgA).nil none 3
    have h := SH.bagSnoc (f := portA) (x := (⟨r.Next + 1, N0, []⟩ : RPort)) (SH.allIn (As := [rM N0 [], bM []]) h)
    have h := ((((((h.front (n := 3) rfl).front (n := 1) rfl).front (n := 4) rfl).front (n := 4) rfl).front (n := 4) rfl)).nil none 1
    refine ⟨tp2, tc2, tq, N0, ⟨r.Next + 2, r.Ports ++ [⟨r.Next + 1, N0, []⟩], r.Caps ++ [⟨r.Next + 2, o.Holder, r.Next + 1, 7, 0⟩], r.Pipes⟩, ?_, ?_⟩
    · unfold RIpc.abs
      rw [List.map_append]
      rfl
    · have e : r.Next + 1 + 1 = r.Next + 2 := by omega
      rw [e] at h
      exact h.p1
  refine BIf.eq (fun k2 => ?_) (fun k2 => ?_)
  · -- a Cap given
    obtain ⟨k0, c1, c2, c3, c4, c5⟩ := hcap (by omega)
    have hri := hi.rights (List.mem_of_getElem? (l := r.abs.Caps) c2)
    have hst : stepI r.abs o = giveI r.abs o c := by rw [step_c hbad (by omega) c3 c5, cap_2 k2]
    refine ⟨_, h.cell 2 rfl rfl, c57.mono ?_⟩
    rintro _ w77 ⟨rfl, rfl⟩
    refine ⟨_, rfl, ?_⟩
    refine JoinW.cut1 (fun (x : Bool) w' => x = decide (o.To < 0 ∨ 64 ≤ o.To ∨ o.Rights < 1) ∧ w' = w77) (BIf.of (fun hx => ⟨?_, rfl⟩) (fun hx => ⟨_, h.cell 2 rfl rfl, ?_, rfl⟩)) ?_
    · rw [Bool.eq_iff_iff]; simp at hx ⊢; omega
    · rw [Bool.eq_iff_iff]; simp at hx ⊢; omega
    rintro (x : Bool) w81 ⟨rfl, rfl⟩
    refine JoinW.cut1 (fun (x : Bool) w' => x = decide (o.To < 0 ∨ 64 ≤ o.To ∨ o.Rights < 1 ∨ 7 < o.Rights) ∧ w' = w81) (BIf.dec (fun hx => ⟨(decide_eq_true (by omega)).symm, rfl⟩) (fun hx => ⟨_, h.cell 2 rfl rfl, by rw [Bool.eq_iff_iff, decide_eq_true_iff, decide_eq_true_iff]; omega, rfl⟩)) ?_
    rintro (x : Bool) w84 ⟨rfl, rfl⟩
    refine BIf.dec (fun hbd => errT h (i := 1) rfl (fun w' h => srE (by rw [hst]; unfold giveI; rw [if_pos hbd]) h.drop.drop.drop)) (fun hbd => ?_)
    refine ⟨_, h.cell 0 rfl rfl, ?_⟩
    refine JoinW.cut1 (fun (x : Bool) w' => x = decide (amongB 4 c.Rights = false ∨ amongB o.Rights c.Rights = false) ∧ w' = w84) ?_ ?_
    · rw [am4 hri.1 hri.2]
      refine BIf.of (fun hx => ⟨(decide_eq_true (.inl (by simpa using hx))).symm, rfl⟩) (fun hx => ⟨_, h.cell 0 rfl rfl, _, h.cell 2 rfl rfl, _, h.cell 2 rfl rfl, ?_, rfl⟩)
      rw [among_eq (by omega) (by omega) hri.1 hri.2, Bool.eq_iff_iff]
      simp at hx
      simp [hx]
    rintro (x : Bool) w99 ⟨rfl, rfl⟩
    refine BIf.dec (fun hpm => errT h (i := 1) rfl (fun w' h => srE (by rw [hst]; unfold giveI; rw [if_neg hbd, if_pos hpm]) h.drop.drop.drop)) (fun hpm => ?_)
    refine ⟨_, rfl, tc, h.cellP 3 rfl rfl, BIf.eq (fun hfull => errT h (i := 1) rfl (fun w' h => srE (by rw [hst]; unfold giveI; rw [if_neg hbd, if_neg hpm, if_pos (by show 128 ≤ r.Caps.length; omega)]) h.drop.drop.drop)) (fun hfull => ?_)⟩
    have hres : stepI r.abs o = (addCap r.abs o.To c.Port o.Rights c.Id, resN (r.Next + 1)) := by rw [hst]; unfold giveI; rw [if_neg hbd, if_neg hpm, if_neg (by show ¬ 128 ≤ r.Caps.length; omega)]; rfl
    rw [hres]
    refine ⟨_, h.cell 2 rfl rfl, _, h.cell 0 rfl rfl, _, h.cell 2 rfl rfl, _, h.cell 0 rfl rfl, ?_⟩
    refine (s106 (c := ⟨0, o.To, c.Port, o.Rights, c.Id⟩) (((((((h.front (n := 5) rfl).front (n := 5) rfl).front (n := 4) rfl).front (n := 4) rfl).front (n := 4) rfl).front (n := 6) rfl).front (n := 6) rfl) hnx.1 (by omega) (by omega)).mono ?_
    rintro _ w129 ⟨tc2, rfl, h⟩
    refine ⟨_, rfl, ?_⟩
    refine h.setV 3 rfl rfl (fun w131 h n131 => ?_)
    have h := ((((((((h.dropAt 4).dropAt 2).front (n := 1) rfl).front (n := 4) rfl).front (n := 4) rfl).front (n := 3) rfl).front (n := 4) rfl)).nil none 1
    refine ⟨tp, tc2, tq, N0, ⟨r.Next + 1, r.Ports, r.Caps ++ [⟨r.Next + 1, o.To, c.Port, o.Rights, c.Id⟩], r.Pipes⟩, rfl, ?_⟩
    exact h.p1
  refine BIf.eq (fun k3 => ?_) (fun k3 => ?_)
  · -- what is below a Cap goes
    obtain ⟨k0, c1, c2, c3, c4, c5⟩ := hcap (by omega)
    have hcm : c ∈ r.abs.Caps := List.mem_of_getElem? (l := r.abs.Caps) c2
    have hst : stepI r.abs o = revF r.abs o.Id := by rw [step_c hbad (by omega) c3 c5, cap_3 k3]
    refine ⟨_, h.cell 0 rfl rfl, ?_⟩
    rw [c4]
    refine (c66 (h.cell 3 rfl rfl) hat hi ⟨c, hcm, c4⟩).mono ?_
    rintro _ w139 ⟨m, ks, rfl, hks, hnd, hin, g⟩
    have h := h.seq g
    refine ⟨some m, rfl, ?_⟩
    refine h.alloc (fun w141 h e141 n141 => ?_)
    refine h.setV 0 rfl rfl (fun w142 h n142 => ?_)
    have h : SH w0 w142 (aB w139.heap.size (([.map (some m)] : List Value).map Ce.v) :: aSet m ks :: BC cb c :: BR rb 0 0 N0 0 :: BO wb o td :: BI b r.Next tp tc tq :: rP tp r.Ports :: bP r.Ports :: rC tc r.Caps :: rQ tq r.Pipes :: bQ r.Pipes :: F) := h
    refine ⟨some m, h.cell 0 rfl rfl, ?_⟩
    refine lenM_set h 1 rfl ?_
    refine h.setV 3 rfl rfl (fun w145 h n145 => ?_)
    have h : SH w0 w145 (aB w139.heap.size (([.map (some m)] : List Value).map Ce.v) :: aSet m ks :: BC cb c :: BR rb 0 (ks.length : Int) N0 0 :: BO wb o td :: BI b r.Next tp tc tq :: rP tp r.Ports :: bP r.Ports :: rC tc r.Caps :: rQ tq r.Pipes :: bQ r.Pipes :: F) := h
    refine (s107 (p := fun x => !decide (x.Id ∈ ks)) (((((((((h.front (n := 4) rfl).front (n := 4) rfl).front (n := 4) rfl).front (n := 4) rfl).front (n := 4) rfl).front (n := 8) rfl).front (n := 8) rfl).front (n := 8) rfl).front (n := 8) rfl) (by omega) (by omega) (fun x w1 As _ hA => c108 hA)).mono ?_
    rintro _ w147 ⟨tp2, tc2, rfl, h⟩
    have hrev : r.Caps.filter (fun x => !decide (x.Id ∈ ks)) = revC r.abs o.Id := by
      unfold revC
      refine List.filter_congr (fun x hx => ?_)
      obtain ⟨j, hj⟩ := List.getElem?_of_mem hx
      have := hks j x hj
      by_cases hu : Und r.abs o.Id x.Id
      · simp [hu, this.2 hu]
      · have hn : x.Id ∉ ks := fun hm => hu (this.1 hm)
        simp [hu, hn]
    rw [hrev] at h
    have hall : r.Ports.filter (hasR (revC r.abs o.Id)) = r.Ports := List.filter_eq_self.2 (fun p hp => rev_has hi hcm c4 p.abs (List.mem_map.2 ⟨p, hp, rfl⟩))
    rw [hall] at h
    have hlen := below_len hi (ks := ks) hnd hin hks
    rw [hst]
    refine ⟨rfl, ?_⟩
    have h := ((((((((((h.dropAt 8).dropAt 6).dropAt 5).dropAt 4).front (n := 3) rfl).front (n := 3) rfl).front (n := 3) rfl).front (n := 3) rfl).front (n := 4) rfl)).nil none 1
    refine ⟨tp2, tc2, tq, N0, ⟨r.Next, r.Ports, revC r.abs o.Id, r.Pipes⟩, rfl, ?_⟩
    have e : (ks.length : Int) = ((r.Caps.length : Int) - ((revC r.abs o.Id).length : Int)) := hlen
    rw [e] at h
    exact h.p1
  refine BIf.eq (fun k4 => ?_) (fun k4 => ?_)
  · -- a Cap dropped
    obtain ⟨k0, c1, c2, c3, c4, c5⟩ := hcap (by omega)
    have hst : stepI r.abs o = (cleanF (dropF r.abs o.Id), resN 0) := by rw [step_c hbad (by omega) c3 c5, cap_4 k4]
    refine ⟨_, h.cell 0 rfl rfl, ?_⟩
    rw [c4]
    refine (s109 (F := BC cb c :: BR rb 0 0 N0 0 :: BO wb o td :: F) (r := r) (((((((((h.front (n := 2) rfl).front (n := 2) rfl).front (n := 2) rfl).front (n := 8) rfl).front (n := 8) rfl).front (n := 8) rfl).front (n := 8) rfl).front (n := 8) rfl).front (n := 8) rfl) hw c1 c2).mono ?_
    rintro _ w150 ⟨tp2, tc2, rfl, h⟩
    refine ⟨rfl, ?_⟩
    have h : SH w0 w150 (BI b r.Next tp2 tc2 tq :: rP tp2 (dropR r o.Id c.Parent).Ports :: bP (dropR r o.Id c.Parent).Ports :: rC tc2 (dropR r o.Id c.Parent).Caps :: rQ tq r.Pipes :: bQ r.Pipes :: BC cb c :: BR rb 0 0 N0 0 :: BO wb o td :: F) := h
    have h := ((((((((((h.dropAt 8).dropAt 6).front (n := 5) rfl).front (n := 5) rfl).front (n := 5) rfl).front (n := 5) rfl).front (n := 5) rfl).front (n := 5) rfl).front (n := 6) rfl)).nil none 1
    rw [hst]
    exact ⟨tp2, tc2, tq, N0, dropR r o.Id c.Parent, drop_abs c3, h.p1⟩
  refine BIf.eq (fun k5 => ?_) (fun k5 => ?_)
  · -- a message sent
    obtain ⟨k0, c1, c2, c3, c4, c5⟩ := hcap (by omega)
    have hcm : c ∈ r.abs.Caps := List.mem_of_getElem? (l := r.abs.Caps) c2
    have hri := hi.rights hcm
    have hst : stepI r.abs o = sendI r.abs o c := by rw [step_c hbad (by omega) c3 c5, cap_5 k5]
    refine ⟨_, h.cell 0 rfl rfl, ?_⟩
    rw [am1 hri.1 hri.2]
    refine BIf.of (fun hx => errT h (i := 1) rfl (fun w' h => srE (by rw [hst]; unfold sendI; rw [if_pos (by simpa using hx)]) h.drop.drop.drop)) (fun hx => ?_)
    have ha1 : ¬ amongB 1 c.Rights = false := by simpa using hx
    refine ⟨td, h.cell 2 rfl rfl, BIf.dec (fun hl => errT h (i := 1) rfl (fun w' h => srE (by rw [hst]; unfold sendI; rw [if_neg ha1, if_pos (by omega)]) h.drop.drop.drop)) (fun hl => ?_)⟩
    refine JoinW.cut0 (fun w' => stepI r.abs o = pushI r.abs o c ∧ SH w0 w' (BC cb c :: BR rb 0 0 N0 0 :: BO wb o td :: BI b r.Next tp tc tq :: rP tp r.Ports :: bP r.Ports :: rC tc r.Caps :: rQ tq r.Pipes :: bQ r.Pipes :: F)) ?_ ?_
    · refine ⟨_, h.cell 2 rfl rfl, BIf.ne (fun hc0 => ?_) (fun hc0 => ⟨by rw [hst]; unfold sendI; rw [if_neg ha1, if_neg (by omega), if_neg (by omega)], h⟩)⟩
      refine ⟨_, h.cell 2 rfl rfl, (c59 (h.cell 3 rfl rfl) hat).mono ?_⟩
      rintro _ w244 ⟨rfl, rfl⟩
      refine ⟨_, rfl, ?_⟩
      have h := h.drew
      rcases capIx_cases r.abs o.Cap with ⟨e1, e2, e3⟩ | ⟨k2, c', e1, e2, e3, e4⟩
      · rw [e1, ptrE_neg (by omega)]
        refine JoinW.cut1 (fun (x : Bool) w' => x = true ∧ w' = w244.drew) (BIf.t rfl ⟨rfl, rfl⟩) ?_
        rintro (x : Bool) w248 ⟨rfl, rfl⟩
        exact BIf.t rfl (errT h (i := 1) rfl (fun w' h => srE (by rw [hst]; unfold sendI; rw [if_neg ha1, if_neg (by omega), if_pos hc0, e2]) h.drop.drop.drop))
      · have e2 : r.Caps[k2]? = some c' := e2
        have hri2 := hi.rights (List.mem_of_getElem? (l := r.abs.Caps) e2)
        obtain ⟨q, hq⟩ := h.rowQ 6 rfl e2
        rw [e1, ptrE_at hq]
        refine JoinW.cut1 (fun (x : Bool) w' => x = (c'.Holder != o.Holder) ∧ w' = w244.drew) (BIf.f rfl ⟨_, rfl, _, h.rdR 6 rfl hq e2 rfl, _, h.cell 2 rfl rfl, rfl, rfl⟩) ?_
        rintro (x : Bool) w248 ⟨rfl, rfl⟩
        refine BIf.ne (fun hh => errT h (i := 1) rfl (fun w' h => srE (by rw [hst]; unfold sendI; rw [if_neg ha1, if_neg (by omega), if_pos hc0, e3]; exact if_pos hh) h.drop.drop.drop)) (fun hh => ?_)
        refine ⟨_, rfl, _, h.rdR 6 rfl hq e2 rfl, ?_⟩
        rw [am4 hri2.1 hri2.2]
        refine BIf.of (fun hx4 => errT h (i := 1) rfl (fun w' h => srE (by rw [hst]; unfold sendI; rw [if_neg ha1, if_neg (by omega), if_pos hc0, e3]; dsimp only; rw [if_neg (by omega), if_pos (by simpa using hx4)]) h.drop.drop.drop)) (fun hx4 => ⟨?_, h⟩)
        rw [hst]; unfold sendI; rw [if_neg ha1, if_neg (by omega), if_pos hc0, e3]; dsimp only; rw [if_neg (by omega), if_neg (by simpa using hx4)]
    clear h
    rintro w176 ⟨hst2, h⟩
    refine ⟨_, rfl, tc, h.cellP 3 rfl rfl, ?_⟩
    refine LoopW.m2 (fun (bb : Bool) (i : Int) w' => ∃ k : Nat, i = k ∧ k ≤ r.Caps.length ∧ bb = (r.Caps.take k).any (fun x => x.Port == c.Port && amongB 2 x.Rights) ∧ SH w0 w' (BC cb c :: BR rb 0 0 N0 0 :: BO wb o td :: BI b r.Next tp tc tq :: rP tp r.Ports :: bP r.Ports :: rC tc r.Caps :: rQ tq r.Pipes :: bQ r.Pipes :: F)) (fun _ (i : Int) _ => (r.Caps.length - i).toNat) ⟨0, rfl, by omega, rfl, h⟩ ?_
    clear h
    rintro (bb : Bool) (i : Int) w182 ⟨k, rfl, hk, hbb, h⟩ J hJ
    refine BIf.dec (fun hlt => ?_) (fun hge => ?_)
    · have hget : r.Caps[k]? = some r.Caps[k] := List.getElem?_eq_getElem (by omega)
      generalize r.Caps[k] = y at *
      have hriy := hi.rights (List.mem_of_getElem? (l := r.abs.Caps) hget)
      have hany := any_snoc (fun x : DCap => x.Port == c.Port && amongB 2 x.Rights) hget
      obtain ⟨q, hq⟩ := h.rowQ 6 rfl hget
      simp only [Int.toNat_natCast]
      rw [w64 (n := (k : Int) + 1) (by omega) (by omega)]
      refine ⟨by omega, by omega, q, hq, _, h.rdR 6 rfl hq hget rfl, _, h.rdR 6 rfl hq hget rfl, _, h.rdR 6 rfl hq hget rfl, _, h.rdR 6 rfl hq hget rfl, _, h.rdR 6 rfl hq hget rfl, ?_⟩
      refine h.alloc (fun w189 h e189 n189 => ?_)
      refine h.put 0 rfl rfl rfl (fun w190 h n190 => ?_)
      refine JoinW.cut1 (fun (x : Bool) w' => x = (bb || (y.Port == c.Port && amongB 2 y.Rights)) ∧ w' = w190) ?_ ?_
      · refine BIf.of (fun hx => ⟨by rw [hx]; rfl, rfl⟩) (fun hx => ⟨_, h.cell 0 rfl rfl, _, h.cell 1 rfl rfl, BIf.of (fun he => ⟨_, h.cell 0 rfl rfl, ?_, rfl⟩) (fun he => ⟨?_, rfl⟩)⟩)
        · rw [hx, he, Bool.false_or, Bool.true_and, bne, am2 hriy.1 hriy.2, Bool.not_not]
        · rw [hx, he]; rfl
      rintro (x : Bool) w193 ⟨rfl, rfl⟩
      exact hJ _ _ _ ⟨k + 1, by omega, by omega, by rw [hany, hbb], h.drop⟩ (by omega)
    have hke : k = r.Caps.length := by omega
    rw [hke, List.take_length] at hbb
    have hbb : bb = heardB r.abs c := hbb
    subst hbb
    clear hJ
    have hat2 : IpcAt w182 tp tc tq r.abs := ipc_at (F := F) (SH.drop (SH.drop (SH.drop (SH.drop h)))) hw
    refine ⟨_, h.cell 0 rfl rfl, (c58 (h.cell 3 rfl rfl) hat2).mono ?_⟩
    rintro _ w199 ⟨rfl, rfl⟩
    refine ⟨_, rfl, ?_⟩
    refine BIf.of (fun hhd => errT h (i := 1) rfl (fun w' h => srE (by rw [hst2]; unfold pushI; rw [if_pos (by simpa using hhd)]) h.drop.drop.drop)) (fun hhd => ?_)
    have hhd2 : ¬ heardB r.abs c = false := by simpa using hhd
    rcases portIx_cases r.abs c.Port with ⟨e1, e2, e3⟩ | ⟨kp, P, e1, e2, e3, e4⟩
    · have := (hi.cap k0 c c2).port
      omega
    obtain ⟨x, hx, rfl⟩ := map_get e2
    have hx : r.Ports[kp]? = some x := hx
    have hlk : kp < r.Ports.length := (List.getElem?_eq_some_iff.1 hx).1
    have hq8 : x.Q.length ≤ 8 := by have := (hi.port kp x.abs e2).few; have e : x.abs.Queue.length = x.Q.length := List.length_map ..; omega
    obtain ⟨q, hq⟩ := h.rowQ 4 rfl hx
    rw [e1, ptrE_at hq]
    refine ⟨_, rfl, x.q, h.rdR 4 rfl hq hx rfl, ?_⟩
    have g : SH w0 w199 (rM x.q x.Q :: bM x.Q :: bP (r.Ports.eraseIdx kp) :: BC cb c :: BR rb 0 0 N0 0 :: BO wb o td :: BI b r.Next tp tc tq :: rP tp r.Ports :: rC tc r.Caps :: rQ tq r.Pipes :: bQ r.Pipes :: F) := SH.allOut (As := [rM x.q x.Q, bM x.Q]) ((((((((h.front (n := 4) rfl).front (n := 4) rfl).front (n := 4) rfl).front (n := 4) rfl).front (n := 4) rfl).front (n := 5) rfl)).bagOut hx)
    have hql := g.len 0 rfl
    rw [recs_len] at hql
    have hqa : x.abs.Queue.length = x.Q.length := List.length_map ..
    refine BIf.eq (fun h8 => errT h (i := 1) rfl (fun w' h => srE (by rw [hst2]; unfold pushI; rw [if_neg hhd2, e3]; exact if_pos (by omega)) h.drop.drop.drop)) (fun h8 => ?_)
    have hres : stepI r.abs o = (setQ r.abs kp x.abs (x.abs.Queue ++ [⟨o.Holder, o.Data, o.Cap⟩]), resN 0) := by
      rw [hst2]; unfold pushI; rw [if_neg hhd2, e3, e1, Int.toNat_natCast]; exact if_neg (by omega)
    rw [hres]
    clear h
    have g := g.drew
    refine ⟨_, rfl, x.q, g.rdR 7 rfl hq hx rfl, _, g.cell 5 rfl rfl, td, g.cell 5 rfl rfl, _, g.cell 5 rfl rfl, ?_⟩
    refine SH.appendN (k := .u8) (m := []) (us := o.Data) (g.nil none 1) (hb.ext g.ext).row rfl rfl (by decide) (by show (_ + _) * 1 ≤ _; simp; omega) (fun t230 w231 g ht230 _ => ?_)
    refine ⟨⟨_, g.cell 6 rfl rfl, rfl⟩, ⟨_, g.cell 6 rfl rfl, rfl⟩, ⟨x.q, g.rdR 8 rfl hq hx rfl, rfl⟩, ?_⟩
    refine g.alloc (fun w235 g e235 n235 => ?_)
    have hrow : RowAt w235 (some ⟨w231.heap.size, 0, none⟩) (1 * 3) ([(⟨o.Holder, t230, o.Cap, o.Data⟩ : RMsg)].flatMap RMsg.cells) := row_one (g.blkAt 0 rfl) rfl
    refine ⟨⟨x.q, g.rdR 9 rfl hq hx rfl, rfl⟩, ?_⟩
    refine SH.appendR (f := RMsg.cells) (us := [⟨o.Holder, t230, o.Cap, o.Data⟩]) (g.drop.p1) hrow rfl (fun _ => rfl) rfl rfl (by decide) (by show (_ + _) * 40 ≤ _; simp; omega) plain_msg (fun q2 w238 g hq2l _ => ?_)
    refine ⟨_, rfl, ?_⟩
    have g : SH w0 w238 (rM q2 (x.Q ++ [⟨o.Holder, t230, o.Cap, o.Data⟩]) :: rD t230 o.Data :: bM x.Q :: bP (r.Ports.eraseIdx kp) :: BC cb c :: BR rb 0 0 N0 0 :: BO wb o td :: BI b r.Next tp tc tq :: rP tp (r.Ports.set kp x) :: rC tc r.Caps :: rQ tq r.Pipes :: bQ r.Pipes :: F) := by rw [← set_at hx]; exact g
    refine g.setR 8 (⟨x.Id, q2, x.Q ++ [⟨o.Holder, t230, o.Cap, o.Data⟩]⟩ : RPort) rfl hq hlk (by show 1 < 2; omega) rfl (fun w240 g n240 => ?_)
    have g : SH w0 w240 (rM q2 (x.Q ++ [⟨o.Holder, t230, o.Cap, o.Data⟩]) :: rD t230 o.Data :: bM x.Q :: bP (r.Ports.eraseIdx kp) :: BC cb c :: BR rb 0 0 N0 0 :: BO wb o td :: BI b r.Next tp tc tq :: rP tp (r.Ports.set kp ⟨x.Id, q2, x.Q ++ [⟨o.Holder, t230, o.Cap, o.Data⟩]⟩) :: rC tc r.Caps :: rQ tq r.Pipes :: bQ r.Pipes :: F) := g
    have g := SH.bagSnoc (f := msgA) (x := (⟨o.Holder, t230, o.Cap, o.Data⟩ : RMsg)) (((g.front (n := 0) rfl).front (n := 2) rfl).front (n := 2) rfl)
    have g := SH.bagIn (f := portA) (y := (⟨x.Id, q2, x.Q ++ [⟨o.Holder, t230, o.Cap, o.Data⟩]⟩ : RPort)) hx (SH.allIn (As := [rM q2 (x.Q ++ [⟨o.Holder, t230, o.Cap, o.Data⟩]), bM (x.Q ++ [⟨o.Holder, t230, o.Cap, o.Data⟩])]) g.p1)
    have g := (((((((g.dropAt 3).dropAt 1).front (n := 0) rfl).front (n := 3) rfl).front (n := 3) rfl).front (n := 3) rfl)).nil none 1
    refine ⟨tp, tc, tq, N0, ⟨r.Next, r.Ports.set kp ⟨x.Id, q2, x.Q ++ [⟨o.Holder, t230, o.Cap, o.Data⟩]⟩, r.Caps, r.Pipes⟩, ?_, ?_⟩
    · unfold RIpc.abs setQ
      rw [List.map_set]
      unfold RPort.abs
      rw [List.map_append]
      rfl
    · exact g.p1
  refine BIf.eq (fun k6 => ?_) (fun k6 => ?_)
  · -- a message received
    obtain ⟨k0, c1, c2, c3, c4, c5⟩ := hcap (by omega)
    have hcm : c ∈ r.abs.Caps := List.mem_of_getElem? (l := r.abs.Caps) c2
    have hri := hi.rights hcm
    have hst : stepI r.abs o = recvI r.abs o c := by rw [step_c hbad (by omega) c3 c5, cap_6 k6]
    refine ⟨_, h.cell 0 rfl rfl, (c58 (h.cell 3 rfl rfl) hat).mono ?_⟩
    rintro _ w278 ⟨rfl, rfl⟩
    refine ⟨_, rfl, _, h.cell 0 rfl rfl, ?_⟩
    rw [am2 hri.1 hri.2]
    refine BIf.of (fun hx => errT h (i := 1) rfl (fun w' h => srE (by rw [hst]; unfold recvI; rw [if_pos (by simpa using hx)]) h.drop.drop.drop)) (fun hx => ?_)
    have ha2 : ¬ amongB 2 c.Rights = false := by simpa using hx
    rcases portIx_cases r.abs c.Port with ⟨e1, e2, e3⟩ | ⟨kp, P, e1, e2, e3, e4⟩
    · have := (hi.cap k0 c c2).port
      omega
    obtain ⟨x, hx, rfl⟩ := map_get e2
    have hx : r.Ports[kp]? = some x := hx
    have hlk : kp < r.Ports.length := (List.getElem?_eq_some_iff.1 hx).1
    have hq8 : x.Q.length ≤ 8 := by have := (hi.port kp x.abs e2).few; have e : x.abs.Queue.length = x.Q.length := List.length_map ..; omega
    obtain ⟨q, hq⟩ := h.rowQ 4 rfl hx
    rw [e1, ptrE_at hq]
    refine ⟨_, rfl, x.q, h.rdR 4 rfl hq hx rfl, ?_⟩
    have g : SH w0 w278 (rM x.q x.Q :: bM x.Q :: bP (r.Ports.eraseIdx kp) :: BC cb c :: BR rb 0 0 N0 0 :: BO wb o td :: BI b r.Next tp tc tq :: rP tp r.Ports :: rC tc r.Caps :: rQ tq r.Pipes :: bQ r.Pipes :: F) := SH.allOut (As := [rM x.q x.Q, bM x.Q]) ((((((((h.front (n := 4) rfl).front (n := 4) rfl).front (n := 4) rfl).front (n := 4) rfl).front (n := 4) rfl).front (n := 5) rfl)).bagOut hx)
    have hql := g.len 0 rfl
    have hqc := g.lenCap 0 rfl
    rw [recs_len] at hql
    have hqa : x.abs.Queue = x.Q.map RMsg.abs := rfl
    refine BIf.eq (fun h0 => errT h (i := 1) rfl (fun w' h => srE (by
      have : x.Q = [] := List.eq_nil_of_length_eq_zero (by omega)
      rw [hst]; unfold recvI; rw [if_neg ha2, e3]; dsimp only; rw [hqa, this]; rfl) h.drop.drop.drop)) (fun h0 => ?_)
    clear h
    obtain ⟨m, rest, hQ⟩ : ∃ m rest, x.Q = m :: rest := by
      cases hxq : x.Q with
      | nil => rw [hxq] at hql; simp at hql; omega
      | cons m rest => exact ⟨m, rest, rfl⟩
    have hm0 : x.Q[0]? = some m := by rw [hQ]; rfl
    have hmok := (hi.port kp x.abs e2).msgs m.abs (List.mem_map.2 ⟨m, by rw [hQ]; simp, rfl⟩)
    have hmcap : 0 ≤ m.Cap := hmok.2.2.2.1
    have hmby := hw.msgs x.abs (List.mem_of_getElem? e2) m.abs (List.mem_map.2 ⟨m, by rw [hQ]; simp, rfl⟩)
    have hmbl : m.Data.length ≤ 1048576 := hmby.few
    obtain ⟨qm, hqm⟩ := g.rowQ 0 rfl hm0
    refine ⟨_, rfl, x.q, g.rdR 7 rfl hq hx rfl, by omega, by omega, qm, hqm, _, g.rdR 0 rfl hqm hm0 rfl, m.D, g.rdR 0 rfl hqm hm0 rfl, _, g.rdR 0 rfl hqm hm0 rfl, ?_⟩
    refine g.alloc (fun w311 g e311 n311 => ?_)
    refine g.put 0 rfl rfl rfl (fun w312 g n312 => ?_)
    have g : SH w0 w312 (aB w278.heap.size (m.cells.map Ce.v) :: rM x.q x.Q :: bM x.Q :: bP (r.Ports.eraseIdx kp) :: BC cb c :: BR rb 0 0 N0 0 :: BO wb o td :: BI b r.Next tp tc tq :: rP tp r.Ports :: rC tc r.Caps :: rQ tq r.Pipes :: bQ r.Pipes :: F) := g
    refine ⟨_, rfl, x.q, g.rdR 8 rfl hq hx rfl, by omega, by omega, ?_⟩
    have hsuf := RowAt.suf (f := RMsg.cells) (z := 3) (i := 1) (fun _ => rfl) (g.rowR 1 rfl) hql hqc (by omega)
    refine SH.appendR (f := RMsg.cells) (l := []) (us := x.Q.drop 1) (g.nil none 3) hsuf (by simp; omega) (fun _ => rfl) rfl rfl (by decide) (by show (_ + _) * 40 ≤ _; simp; omega) plain_msg (fun q2 w316 g hq2l _ => ?_)
    refine ⟨_, rfl, ?_⟩
    have hdr : x.Q.drop 1 = rest := by rw [hQ]; rfl
    have g : SH w0 w316 (rM q2 rest :: aB w278.heap.size (m.cells.map Ce.v) :: rM x.q x.Q :: bM x.Q :: bP (r.Ports.eraseIdx kp) :: BC cb c :: BR rb 0 0 N0 0 :: BO wb o td :: BI b r.Next tp tc tq :: rP tp (r.Ports.set kp x) :: rC tc r.Caps :: rQ tq r.Pipes :: bQ r.Pipes :: F) := by rw [← set_at hx, ← hdr]; exact g
    refine g.setR 9 (⟨x.Id, q2, rest⟩ : RPort) rfl hq hlk (by show 1 < 2; omega) rfl (fun w318 g n318 => ?_)
    have g : SH w0 w318 (rM q2 rest :: aB w278.heap.size (m.cells.map Ce.v) :: rM x.q x.Q :: bM x.Q :: bP (r.Ports.eraseIdx kp) :: BC cb c :: BR rb 0 0 N0 0 :: BO wb o td :: BI b r.Next tp tc tq :: rP tp (r.Ports.set kp ⟨x.Id, q2, rest⟩) :: rC tc r.Caps :: rQ tq r.Pipes :: bQ r.Pipes :: F) := g
    rw [hQ] at g
    have g := SH.bagUn ((((g.dropAt 2).front (n := 1) rfl).front (n := 1) rfl).front (n := 2) rfl)
    have g : SH w0 w318 (rD m.D m.Data :: bM rest :: rM q2 rest :: aB w278.heap.size (m.cells.map Ce.v) :: bP (r.Ports.eraseIdx kp) :: BC cb c :: BR rb 0 0 N0 0 :: BO wb o td :: BI b r.Next tp tc tq :: rP tp (r.Ports.set kp ⟨x.Id, q2, rest⟩) :: rC tc r.Caps :: rQ tq r.Pipes :: bQ r.Pipes :: F) := g
    have g := g.drew
    refine ⟨m.D, g.cell 3 rfl rfl, _, g.cell 3 rfl rfl, ?_⟩
    have hmr := g.rowN 0 rfl
    refine SH.appendN (k := .u8) (m := []) (us := m.Data) (g.nil none 1) hmr rfl rfl (by decide) (by show (_ + _) * 1 ≤ _; simp; omega) (fun t321 w322 g ht321 _ => ?_)
    refine ⟨⟨_, g.cell 4 rfl rfl, rfl⟩, ?_⟩
    refine g.setV 7 rfl rfl (fun w324 g n324 => ?_)
    refine ⟨⟨_, g.cell 4 rfl rfl, rfl⟩, ?_⟩
    refine g.setV 7 rfl rfl (fun w326 g n326 => ?_)
    have g : SH w0 w326 (rD t321 m.Data :: rD m.D m.Data :: bM rest :: rM q2 rest :: aB w278.heap.size (m.cells.map Ce.v) :: bP (r.Ports.eraseIdx kp) :: BC cb c :: BR rb 0 0 t321 m.From :: BO wb o td :: BI b r.Next tp tc tq :: rP tp (r.Ports.set kp ⟨x.Id, q2, rest⟩) :: rC tc r.Caps :: rQ tq r.Pipes :: bQ r.Pipes :: F) := g
    refine ⟨_, g.cell 4 rfl rfl, ?_⟩
    refine (c59 (d := ⟨0, [], r.Caps, []⟩) (g.cell 9 rfl rfl) (caps_only g 11 rfl (by omega))).mono ?_
    rintro _ w329 ⟨rfl, rfl⟩
    have hcx : capIx ⟨0, [], r.Caps, []⟩ m.Cap = capIx r.abs m.Cap := rfl
    rw [hcx]
    refine ⟨_, rfl, _, g.cell 4 rfl rfl, ?_⟩
    have g := SH.bagIn (f := portA) (y := (⟨x.Id, q2, rest⟩ : RPort)) hx (SH.allIn (As := [rM q2 rest, bM rest]) (((((((g.dropAt 6).dropAt 1).front (n := 3) rfl).front (n := 1) rfl).front (n := 4) rfl).front (n := 3) rfl).front (n := 4) rfl))
    have g : SH w0 w329 (bP (r.Ports.set kp ⟨x.Id, q2, rest⟩) :: rD t321 m.Data :: aB w278.heap.size (m.cells.map Ce.v) :: BR rb 0 0 t321 m.From :: BO wb o td :: BI b r.Next tp tc tq :: rP tp (r.Ports.set kp ⟨x.Id, q2, rest⟩) :: rC tc r.Caps :: rQ tq r.Pipes :: bQ r.Pipes :: F) := g
    have habs : (⟨r.Next, r.Ports.set kp ⟨x.Id, q2, rest⟩, r.Caps, r.Pipes⟩ : RIpc).abs = setQ r.abs kp x.abs (rest.map RMsg.abs) := by
      unfold RIpc.abs setQ
      rw [List.map_set]
      rfl
    have hrv : ∀ (res : IRes), (match capOf r.abs m.abs.Cap with
        | none => (setQ r.abs kp x.abs (rest.map RMsg.abs), (⟨0, 0, m.abs.Data, m.abs.From⟩ : DIpcRes))
        | some x2 => if 0 < m.abs.Cap ∧ r.abs.Caps.length < 128 then (addCap (setQ r.abs kp x.abs (rest.map RMsg.abs)) o.Holder x2.Port x2.Rights m.abs.Cap, ⟨0, r.abs.Next + 1, m.abs.Data, m.abs.From⟩) else (setQ r.abs kp x.abs (rest.map RMsg.abs), ⟨0, 0, m.abs.Data, m.abs.From⟩)) = res → stepI r.abs o = res := fun res he => by
      rw [← he, hst]; unfold recvI; rw [if_neg ha2, e3]; dsimp only; rw [hqa, hQ, e1, Int.toNat_natCast]; rfl
    refine JoinW.cut1 (fun (y : Bool) w' => y = (decide (m.Cap ≠ 0) && decide (0 ≤ capIx r.abs m.Cap)) ∧ w' = w329) (BIf.ne (fun hz => ⟨?_, rfl⟩) (fun hz => ⟨by simp [hz], rfl⟩)) ?_
    · rw [ptrE_none (fun hpos => by
        rcases capIx_cases r.abs m.Cap with ⟨e, _⟩ | ⟨k2, c', e, e', _⟩
        · omega
        · obtain ⟨q', hq'⟩ := g.rowQ 7 rfl (show r.Caps[k2]? = some c' from e')
          rw [hq']; exact fun hh => by cases hh)]
      rw [Bool.eq_iff_iff]; simp [hz]
    rintro (y : Bool) w334 ⟨rfl, rfl⟩
    refine JoinW.cut1 (fun (y : Bool) w' => y = (decide (m.Cap ≠ 0) && decide (0 ≤ capIx r.abs m.Cap) && decide (r.Caps.length < 128)) ∧ w' = w334) (BIf.of (fun hy => ⟨_, rfl, tc, g.cellP 5 rfl rfl, by rw [hy, Bool.true_and, Bool.eq_iff_iff]; simp; omega, rfl⟩) (fun hy => ⟨by rw [hy]; rfl, rfl⟩)) ?_
    rintro (y : Bool) w337 ⟨rfl, rfl⟩
    rcases capIx_cases r.abs m.Cap with ⟨f1, f2, f3⟩ | ⟨k2, c', f1, f2, f3, f4⟩
    · refine BIf.f (by rw [f1]; simp) ?_
      rw [hrv (setQ r.abs kp x.abs (rest.map RMsg.abs), ⟨0, 0, m.Data, m.From⟩) (by have : capOf r.abs m.abs.Cap = none := f2; rw [this]; rfl)]
      refine ⟨tp, tc, tq, t321, ⟨r.Next, r.Ports.set kp ⟨x.Id, q2, rest⟩, r.Caps, r.Pipes⟩, habs, ?_⟩
      exact (((((((g.dropAt 4).dropAt 2).front (n := 0) rfl).front (n := 4) rfl).front (n := 4) rfl).front (n := 3) rfl).front (n := 4) rfl)
    · have f2 : r.Caps[k2]? = some c' := f2
      obtain ⟨q', hq'⟩ := g.rowQ 7 rfl f2
      rw [f1, ptrE_at hq']
      by_cases hgo : m.Cap ≠ 0 ∧ r.Caps.length < 128
      · refine BIf.t (by simp [hgo.1, hgo.2]) ?_
        rw [hrv (addCap (setQ r.abs kp x.abs (rest.map RMsg.abs)) o.Holder c'.Port c'.Rights m.Cap, ⟨0, r.Next + 1, m.Data, m.From⟩) (by
          have : capOf r.abs m.abs.Cap = some c' := f3
          rw [this]; exact if_pos ⟨by show 0 < m.Cap; have := hgo.1; omega, hgo.2⟩)]
        have g := g.drew
        refine ⟨_, g.cell 4 rfl rfl, _, rfl, _, g.rdR 7 rfl hq' f2 rfl, _, rfl, _, g.rdR 7 rfl hq' f2 rfl, _, rfl, _, g.rdR 7 rfl hq' f2 rfl, ?_⟩
        refine (s106 (c := ⟨0, o.Holder, c'.Port, c'.Rights, c'.Id⟩) ((((((((g.dropAt 4).dropAt 2).front (n := 4) rfl).front (n := 3) rfl).front (n := 3) rfl).front (n := 3) rfl).front (n := 5) rfl).front (n := 5) rfl) hnx.1 (by omega) (by omega)).mono ?_
        rintro _ w346 ⟨tc2, rfl, g⟩
        refine ⟨_, rfl, ?_⟩
        refine g.setV 4 rfl rfl (fun w348 g n348 => ?_)
        refine ⟨tp, tc2, tq, t321, ⟨r.Next + 1, r.Ports.set kp ⟨x.Id, q2, rest⟩, r.Caps ++ [⟨r.Next + 1, o.Holder, c'.Port, c'.Rights, m.Cap⟩], r.Pipes⟩, ?_, ?_⟩
        · unfold addCap
          rw [← habs]
          rfl
        · have e : c'.Id = m.Cap := f4
          rw [e] at g
          exact ((((((g.front (n := 1) rfl).front (n := 2) rfl).front (n := 5) rfl).front (n := 3) rfl).front (n := 4) rfl).front (n := 5) rfl)
      · refine BIf.f (by rcases Decidable.not_and_iff_or_not.1 hgo with hh | hh <;> simp [hh]) ?_
        rw [hrv (setQ r.abs kp x.abs (rest.map RMsg.abs), ⟨0, 0, m.Data, m.From⟩) (by
          have : capOf r.abs m.abs.Cap = some c' := f3
          rw [this]; exact if_neg (fun hh => hgo ⟨by have h1 : 0 < m.Cap := hh.1; omega, hh.2⟩))]
        refine ⟨tp, tc, tq, t321, ⟨r.Next, r.Ports.set kp ⟨x.Id, q2, rest⟩, r.Caps, r.Pipes⟩, habs, ?_⟩
        exact (((((((g.dropAt 4).dropAt 2).front (n := 0) rfl).front (n := 4) rfl).front (n := 4) rfl).front (n := 3) rfl).front (n := 4) rfl)
  refine BIf.eq (fun k7 => ?_) (fun k7 => ?_)
  · -- a holder gone
    have hst : stepI r.abs o = goneI r.abs o := step_7 hbad k7
    refine ⟨_, rfl, tc, h.cellP 3 rfl rfl, ?_⟩
    refine LoopW.m2 (fun (t : Sl) (i : Int) w' => ∃ k : Nat, i = k ∧ k ≤ r.Caps.length ∧ SH w0 w' (aRow t 1 (nums .i64 (((r.Caps.take k).filter (fun x => x.Holder == o.Holder)).map DCap.Id)) :: BC cb c :: BR rb 0 0 N0 0 :: BO wb o td :: BI b r.Next tp tc tq :: rP tp r.Ports :: bP r.Ports :: rC tc r.Caps :: rQ tq r.Pipes :: bQ r.Pipes :: F)) (fun _ (i : Int) _ => (r.Caps.length - i).toNat) ⟨0, rfl, by omega, h.nil none 1⟩ ?_
    clear h
    rintro (t : Sl) (i : Int) w356 ⟨k, rfl, hk, h⟩ J hJ
    have hkl : (((r.Caps.take k).filter (fun x => x.Holder == o.Holder)).map DCap.Id).length ≤ k := by
      rw [List.length_map]
      have := List.length_filter_le (fun x : DCap => x.Holder == o.Holder) (r.Caps.take k); simp at this; omega
    refine BIf.dec (fun hlt => ?_) (fun hge => ?_)
    · have hget : r.Caps[k]? = some r.Caps[k] := List.getElem?_eq_getElem (by omega)
      generalize r.Caps[k] = y at *
      have hsn := filter_snoc' (p := fun x : DCap => x.Holder == o.Holder) hget
      obtain ⟨q, hq⟩ := h.rowQ 7 rfl hget
      simp only [Int.toNat_natCast]
      rw [w64 (n := (k : Int) + 1) (by omega) (by omega)]
      refine ⟨by omega, by omega, q, hq, _, h.rdR 7 rfl hq hget rfl, _, h.rdR 7 rfl hq hget rfl, _, h.rdR 7 rfl hq hget rfl, _, h.rdR 7 rfl hq hget rfl, _, h.rdR 7 rfl hq hget rfl, ?_⟩
      refine h.alloc (fun w363 h e363 n363 => ?_)
      refine h.put 0 rfl rfl rfl (fun w364 h n364 => ?_)
      refine ⟨_, h.cell 0 rfl rfl, _, h.cell 4 rfl rfl, BIf.of (fun he => ?_) (fun he => ?_)⟩
      · rw [if_pos he] at hsn
        refine ⟨_, h.cell 0 rfl rfl, ?_⟩
        refine LetW_iff.2 (SH.appendN1 h.drop rfl rfl (by decide) (by show (_ + _) * 8 ≤ _; omega) (fun t2 w370 h ht2 _ => ?_))
        refine hJ _ _ _ ⟨k + 1, by omega, by omega, ?_⟩ (by omega)
        rw [hsn, List.map_append]
        exact h
      · rw [if_neg (by rw [he]; decide), List.append_nil] at hsn
        exact hJ _ _ _ ⟨k + 1, by omega, by omega, by rw [hsn]; exact h.drop⟩ (by omega)
    have hke : k = r.Caps.length := by omega
    rw [hke, List.take_length] at h hkl
    clear hJ
    obtain ⟨hnd, hex⟩ := ids_nd hi o.Holder
    have hids : (r.Caps.filter (fun x => x.Holder == o.Holder)).map DCap.Id = idsOf r.abs o.Holder := rfl
    rw [hids] at h hkl
    have hgone : goneI r.abs o = (cleanF ((idsOf r.abs o.Holder).foldl dropF r.abs), resN ((idsOf r.abs o.Holder).length : Int)) := rfl
    generalize idsOf r.abs o.Holder = ids at *
    have htl := h.len 0 rfl
    rw [nums_len] at htl
    refine LoopW.m1 (fun (i : Int) w' => ∃ (j : Nat) (tp' tc' : Sl), i = j ∧ j ≤ ids.length ∧ SH w0 w' (ST b tp' tc' tq ((ids.take j).foldl dropRo r) ++ (aRow t 1 (nums .i64 ids) :: BC cb c :: BR rb 0 0 N0 0 :: BO wb o td :: F))) (fun (i : Int) _ => (ids.length - i).toNat) ⟨0, tp, tc, rfl, by omega, ((((((((((h.front (n := 3) rfl).front (n := 3) rfl).front (n := 3) rfl).front (n := 3) rfl).front (n := 9) rfl).front (n := 9) rfl).front (n := 9) rfl).front (n := 9) rfl).front (n := 9) rfl).front (n := 9) rfl)⟩ ?_
    clear h
    rintro (i : Int) w373 ⟨j, tp', tc', rfl, hj, h⟩ J hJ
    have h : SH w0 w373 (BI b ((ids.take j).foldl dropRo r).Next tp' tc' tq :: rP tp' ((ids.take j).foldl dropRo r).Ports :: bP ((ids.take j).foldl dropRo r).Ports :: rC tc' ((ids.take j).foldl dropRo r).Caps :: rQ tq ((ids.take j).foldl dropRo r).Pipes :: bQ ((ids.take j).foldl dropRo r).Pipes :: aRow t 1 (nums .i64 ids) :: BC cb c :: BR rb 0 0 N0 0 :: BO wb o td :: F) := h
    refine BIf.dec (fun hlt => ?_) (fun hge => ?_)
    · have hget : ids[j]? = some ids[j] := List.getElem?_eq_getElem (by omega)
      generalize ids[j] = id at *
      obtain ⟨q, hq, hcell⟩ := h.elem0 6 rfl (nums_get hget) rfl
      simp only [Int.toNat_natCast]
      rw [w64 (n := (j : Int) + 1) (by omega) (by omega)]
      refine ⟨by omega, by omega, q, hq, _, hcell, ?_⟩
      have hwj := fold_wf (ids.take j) hw
      have hnot : id ∉ ids.take j := fun hm => by
        obtain ⟨j2, hj2⟩ := List.getElem?_of_mem hm
        rw [List.getElem?_take] at hj2
        split at hj2
        · have := nd_get hnd hj2 hget; omega
        · cases hj2
      obtain ⟨c', hc', hid⟩ := fold_keeps (ids.take j) hnot (hex id (List.mem_of_getElem? hget))
      have hfs := foldl_snoc (f := dropRo) (z := r) hget
      generalize (ids.take j).foldl dropRo r = rj at *
      subst hid
      obtain ⟨k2, c2', g1, g2, g3⟩ := capOf_mem (d := rj.abs) hc'
      refine (s109 (F := aRow t 1 (nums .i64 ids) :: BC cb c :: BR rb 0 0 N0 0 :: BO wb o td :: F) (r := rj) h hwj g1 g2).mono ?_
      rintro _ w377 ⟨tp2, tc2, rfl, h⟩
      refine ⟨rfl, hJ _ _ ⟨j + 1, tp2, tc2, by omega, by omega, ?_⟩ (by omega)⟩
      rw [hfs]
      unfold dropRo
      rw [g3]
      exact h
    · have hje : j = ids.length := by omega
      rw [hje, List.take_length] at h
      refine h.setV 8 rfl rfl (fun w378 h n378 => ?_)
      rw [hst, hgone]
      have h := (((((((((((h.dropAt 9).dropAt 7).dropAt 6).front (n := 5) rfl).front (n := 5) rfl).front (n := 5) rfl).front (n := 5) rfl).front (n := 5) rfl).front (n := 5) rfl).front (n := 6) rfl)).nil none 1
      refine ⟨tp', tc', tq, N0, ids.foldl dropRo r, gone_abs ids (clean_self hi).symm (fun _ _ => trivial), ?_⟩
      rw [htl] at h
      exact h.p1
  refine BIf.eq (fun k8 => ?_) (fun k8 => ?_)
  · -- a new pipe
    have hst : stepI r.abs o = newPipe r.abs := step_8 hbad k8
    refine ⟨_, rfl, tq, h.cellP 3 rfl rfl, BIf.eq (fun hfull => errT h (i := 1) rfl (fun w' h => srE (by rw [hst]; unfold newPipe; rw [if_pos (by rw [abs_pipes]; omega)]) h.drop.drop.drop)) (fun hfull => ?_)⟩
    have hres : stepI r.abs o = (⟨r.Next + 1, r.abs.Ports, r.Caps, r.abs.Pipes ++ [⟨r.Next + 1, 1, 1, []⟩]⟩, resN (r.Next + 1)) := by rw [hst]; unfold newPipe; rw [if_neg (by rw [abs_pipes]; omega)]; rfl
    rw [hres]
    refine (s105 ((((h.front (n := 2) rfl).front (n := 2) rfl).front (n := 2) rfl).front (n := 3) rfl) hnx.1 (by omega)).mono ?_
    rintro _ w393 ⟨rfl, h⟩
    refine ⟨_, rfl, ?_⟩
    refine h.setV 2 rfl rfl (fun w395 h n395 => ?_)
    have h := h.drew
    refine ⟨_, rfl, tq, h.cellP 0 rfl rfl, _, h.cell 2 rfl rfl, ?_⟩
    refine h.alloc (fun w399 h e399 n399 => ?_)
    have hrow : RowAt w399 (some ⟨w395.drew.heap.size, 0, none⟩) (1 * 4) ([(⟨r.Next + 1, 1, 1, N0, []⟩ : RPipe)].flatMap RPipe.cells) := row_one (h.blkAt 0 rfl) rfl
    refine ⟨⟨tq, h.cellP 1 rfl rfl, rfl⟩, ?_⟩
    refine SH.appendR (f := RPipe.cells) (us := [⟨r.Next + 1, 1, 1, N0, []⟩]) (((((((((h.dropAt 0).front (n := 6) rfl).front (n := 6) rfl).front (n := 6) rfl).front (n := 6) rfl).front (n := 6) rfl).front (n := 6) rfl).front (n := 6) rfl).front (n := 7) rfl) hrow rfl (fun _ => rfl) rfl rfl (by decide) (by show (_ + _) * 48 ≤ _; simp; omega) plain_pipe (fun tq2 w402 h htq2 _ => ?_)
    refine ⟨_, rfl, ?_⟩
    refine h.setVP 1 rfl rfl (fun w404 h n404 => ?_)
    have h := SH.bagSnoc (f := pipeA) (x := (⟨r.Next + 1, 1, 1, N0, []⟩ : RPipe)) (((((((((((h.dropAt 4).dropAt 2).front (n := 0) rfl).front (n := 5) rfl).front (n := 5) rfl).front (n := 5) rfl).front (n := 4) rfl).front (n := 5) rfl).front (n := 6) rfl)).nil none 1)
    have h := ((((((((h.front (n := 0) rfl).front (n := 6) rfl).front (n := 6) rfl).front (n := 6) rfl).front (n := 6) rfl).front (n := 6) rfl).front (n := 6) rfl)).nil none 1
    refine ⟨tp, tc, tq2, N0, ⟨r.Next + 1, r.Ports, r.Caps, r.Pipes ++ [⟨r.Next + 1, 1, 1, N0, []⟩]⟩, ?_, ?_⟩
    · unfold RIpc.abs
      rw [List.map_append]
      rfl
    · exact h.p1
  obtain ⟨kp, p0, q, e1, hx, e3, hq, rfl⟩ := hpipe (by omega)
  have hlk : kp < r.Pipes.length := (List.getElem?_eq_some_iff.1 hx).1
  have hax : r.abs.Pipes[kp]? = some p0.abs := by show (r.Pipes.map RPipe.abs)[kp]? = _; rw [List.getElem?_map, hx]; rfl
  have hpo := hi.pipe kp p0.abs hax
  have hpr : 0 ≤ p0.R ∧ p0.R ≤ 64 := hpo.r
  have hpw : 0 ≤ p0.W ∧ p0.W ≤ 64 := hpo.w
  have hpd : p0.Data.length ≤ 512 := hpo.few
  have hid : p0.Id = o.Id := by
    rcases pipeIx_cases r.abs o.Id with ⟨_, f2, _⟩ | ⟨k2, P, f1, f2, f3, f4⟩
    · rw [f2] at e3; cases e3
    · rw [f3] at e3
      have := Option.some.inj e3
      rw [← f4, this]; rfl
  have hst : stepI r.abs o = pipeI r.abs o kp p0.abs := by rw [step_p hbad (by omega) e3, e1, Int.toNat_natCast]
  refine BIf.eq (fun k9 => ?_) (fun k9 => ?_)
  · -- ends
    have hst : stepI r.abs o = endsI r.abs o kp p0.abs := by rw [hst]; exact if_pos k9
    refine JoinW.cut1 (fun (x : Bool) w' => x = decide (o.To < -p0.R ∨ 64 - p0.R < o.To ∨ o.N < -p0.W ∨ 64 - p0.W < o.N) ∧ w' = w29.drew) ?_ ?_
    · have h := h.drew
      refine ⟨_, rfl, _, h.rdR 7 rfl hq hx rfl, _, h.cell 2 rfl rfl, (c110 hpr.1 hpr.2).mono ?_⟩
      rintro _ w461 ⟨rfl, rfl⟩
      refine ⟨_, rfl, BIf.dec (fun hb1 => ⟨(decide_eq_true (by omega)).symm, rfl⟩) (fun hb1 => ?_)⟩
      refine ⟨_, rfl, _, h.rdR 7 rfl hq hx rfl, _, h.cell 2 rfl rfl, (c110 hpw.1 hpw.2).mono ?_⟩
      rintro _ w467 ⟨rfl, rfl⟩
      exact ⟨_, rfl, by rw [Bool.eq_iff_iff, decide_eq_true_iff, decide_eq_true_iff]; omega, rfl⟩
    rintro (x : Bool) w407 ⟨rfl, rfl⟩
    have h := h.drew
    refine BIf.dec (fun hbd => errT h (i := 1) rfl (fun w' h => srE (by rw [hst]; unfold endsI; exact if_pos hbd) h.drop.drop.drop)) (fun hbd => ?_)
    have h := h.drew
    refine ⟨_, rfl, _, h.rdR 7 rfl hq hx rfl, _, h.cell 2 rfl rfl, _, rfl, ?_⟩
    rw [w64 (n := p0.R + o.To) (by omega) (by omega)]
    rw [set_at hx] at h
    refine h.setR 7 (⟨p0.Id, p0.R + o.To, p0.W, p0.D, p0.Data⟩ : RPipe) rfl hq hlk (by show 1 < 4; omega) rfl (fun w423 h n423 => ?_)
    have h := h.drew
    have hx2 : (r.Pipes.set kp ⟨p0.Id, p0.R + o.To, p0.W, p0.D, p0.Data⟩)[kp]? = some ⟨p0.Id, p0.R + o.To, p0.W, p0.D, p0.Data⟩ := List.getElem?_set_self hlk
    refine ⟨_, rfl, _, h.rdR 7 rfl hq hx2 rfl, _, h.cell 2 rfl rfl, _, rfl, ?_⟩
    show May _ _ ∧ LetW (w423.drew.setCell _ (.int .i64 (IntKind.i64.wrap (p0.W + o.N)))) _
    rw [w64 (n := p0.W + o.N) (by omega) (by omega)]
    refine h.setR 7 (⟨p0.Id, p0.R + o.To, p0.W + o.N, p0.D, p0.Data⟩ : RPipe) rfl hq hlk (by show 2 < 4; omega) rfl (fun w428 h n428 => ?_)
    have h := h.drew
    have hx3 : (r.Pipes.set kp ⟨p0.Id, p0.R + o.To, p0.W + o.N, p0.D, p0.Data⟩)[kp]? = some ⟨p0.Id, p0.R + o.To, p0.W + o.N, p0.D, p0.Data⟩ := List.getElem?_set_self hlk
    have h : SH w0 w428.drew (BC cb c :: BR rb 0 0 N0 0 :: BO wb o td :: BI b r.Next tp tc tq :: rP tp r.Ports :: bP r.Ports :: rC tc r.Caps :: rQ tq (r.Pipes.set kp ⟨p0.Id, p0.R + o.To, p0.W + o.N, p0.D, p0.Data⟩) :: bQ (r.Pipes.set kp p0) :: F) := h
    rw [← set_at hx] at h
    refine ⟨_, rfl, _, h.rdR 7 rfl hq hx3 rfl, _, rfl, _, h.rdR 7 rfl hq hx3 rfl, ?_⟩
    show BIf (IntKind.i64.wrap (p0.R + o.To + (p0.W + o.N)) == 0) _ _
    rw [w64 (n := p0.R + o.To + (p0.W + o.N)) (by omega) (by omega)]
    refine BIf.eq (fun hz => ?_) (fun hz => ?_)
    · have hres : stepI r.abs o = (⟨r.Next, r.abs.Ports, r.Caps, r.abs.Pipes.eraseIdx kp⟩, resN 0) := by rw [hst]; unfold endsI; exact (if_neg hbd).trans (if_pos hz)
      rw [hres]
      have hfo : (r.Pipes.set kp (⟨p0.Id, p0.R + o.To, p0.W + o.N, p0.D, p0.Data⟩ : RPipe)).filter (fun x => x.Id != o.Id) = r.Pipes.eraseIdx kp := by
        rw [← hid]
        exact filter_out (p2 := ⟨p0.Id, p0.R + o.To, p0.W + o.N, p0.D, p0.Data⟩) hx rfl (fun j y hy he => (pipe_uniq hi (a := y.abs) (b := p0.abs) (by show (r.Pipes.map RPipe.abs)[j]? = _; rw [List.getElem?_map, hy]; rfl) hax he))
      have hpl2 : (r.Pipes.set kp (⟨p0.Id, p0.R + o.To, p0.W + o.N, p0.D, p0.Data⟩ : RPipe)).length = r.Pipes.length := List.length_set ..
      generalize r.Pipes.set kp (⟨p0.Id, p0.R + o.To, p0.W + o.N, p0.D, p0.Data⟩ : RPipe) = ps2 at *
      refine ⟨_, rfl, tq, h.cellP 3 rfl rfl, ?_⟩
      refine LoopW.m2 (fun (t : Sl) (i : Int) w' => ∃ k : Nat, i = k ∧ k ≤ ps2.length ∧ SH w0 w' (rQ t ((ps2.take k).filter (fun x => x.Id != o.Id)) :: BC cb c :: BR rb 0 0 N0 0 :: BO wb o td :: BI b r.Next tp tc tq :: rP tp r.Ports :: bP r.Ports :: rC tc r.Caps :: rQ tq ps2 :: bQ r.Pipes :: F)) (fun _ (i : Int) _ => (ps2.length - i).toNat) ⟨0, rfl, by omega, h.nil none 4⟩ ?_
      clear h
      rintro (t : Sl) (i : Int) w438 ⟨k, rfl, hk, h⟩ J hJ
      have hkl : ((ps2.take k).filter (fun x => x.Id != o.Id)).length ≤ k := by have := List.length_filter_le (fun x : RPipe => x.Id != o.Id) (ps2.take k); simp at this; omega
      refine BIf.dec (fun hlt => ?_) (fun hge => ?_)
      · have hget : ps2[k]? = some ps2[k] := List.getElem?_eq_getElem (by omega)
        generalize ps2[k] = y at *
        have hsn := filter_snoc' (p := fun x : RPipe => x.Id != o.Id) hget
        obtain ⟨q2, hq2⟩ := h.rowQ 8 rfl hget
        simp only [Int.toNat_natCast]
        rw [w64 (n := (k : Int) + 1) (by omega) (by omega)]
        refine ⟨by omega, by omega, q2, hq2, _, h.rdR 8 rfl hq2 hget rfl, _, h.rdR 8 rfl hq2 hget rfl, _, h.rdR 8 rfl hq2 hget rfl, y.D, h.rdR 8 rfl hq2 hget rfl, ?_⟩
        refine h.alloc (fun w444 h e444 n444 => ?_)
        refine h.put 0 rfl rfl rfl (fun w445 h n445 => ?_)
        refine ⟨_, h.cell 0 rfl rfl, _, h.cell 4 rfl rfl, BIf.of (fun he => ?_) (fun he => ?_)⟩
        · rw [if_pos he] at hsn
          refine ⟨_, h.cell 0 rfl rfl, _, h.cell 0 rfl rfl, _, h.cell 0 rfl rfl, y.D, h.cell 0 rfl rfl, ?_⟩
          refine LetW_iff.2 (SH.appendR1 (f := RPipe.cells) (x := y) h.drop rfl rfl rfl (by decide) (by show (_ + _) * 48 ≤ _; omega) (plain_pipe _) (fun t2 w454 h ht2 _ => ?_))
          exact hJ _ _ _ ⟨k + 1, by omega, by omega, by rw [hsn]; exact h⟩ (by omega)
        · rw [if_neg (by rw [he]; decide), List.append_nil] at hsn
          exact hJ _ _ _ ⟨k + 1, by omega, by omega, by rw [hsn]; exact h.drop⟩ (by omega)
      · have hke : k = ps2.length := by omega
        rw [hke, List.take_length, hfo] at h
        refine ⟨_, rfl, ?_⟩
        refine h.setVP 4 rfl rfl (fun w456 h n456 => ?_)
        have h := SH.bagErase (i := kp) ((((((((((h.dropAt 8).dropAt 3).dropAt 1).front (n := 0) rfl).front (n := 5) rfl).front (n := 5) rfl).front (n := 5) rfl).front (n := 5) rfl).front (n := 5) rfl).front (n := 6) rfl)
        have h := ((((((((h.front (n := 0) rfl).front (n := 6) rfl).front (n := 6) rfl).front (n := 6) rfl).front (n := 6) rfl).front (n := 6) rfl).front (n := 6) rfl)).nil none 1
        refine ⟨tp, tc, t, N0, ⟨r.Next, r.Ports, r.Caps, r.Pipes.eraseIdx kp⟩, ?_, ?_⟩
        · unfold RIpc.abs
          dsimp only
          rw [map_erase]
        · exact h.p1
    · have hres : stepI r.abs o = (setP r.abs kp ⟨p0.Id, p0.R + o.To, p0.W + o.N, p0.Data⟩, resN 0) := by rw [hst]; unfold endsI; exact (if_neg hbd).trans (if_neg hz)
      rw [hres]
      have h1 := SH.bagOut (f := pipeA) (((((((((h.dropAt 2).dropAt 0).front (n := 5) rfl).front (n := 5) rfl).front (n := 5) rfl).front (n := 5) rfl).front (n := 5) rfl).front (n := 5) rfl).front (n := 6) rfl) hx
      have h1 : SH w0 w428.drew (pipeA ⟨p0.Id, p0.R + o.To, p0.W + o.N, p0.D, p0.Data⟩ :: aBag pipeA (r.Pipes.eraseIdx kp) :: _) := h1
      have h := SH.bagIn (f := pipeA) hx h1
      have h := ((((((((h.front (n := 0) rfl).front (n := 6) rfl).front (n := 6) rfl).front (n := 6) rfl).front (n := 6) rfl).front (n := 6) rfl).front (n := 6) rfl)).nil none 1
      refine ⟨tp, tc, tq, N0, ⟨r.Next, r.Ports, r.Caps, r.Pipes.set kp ⟨p0.Id, p0.R + o.To, p0.W + o.N, p0.D, p0.Data⟩⟩, ?_, ?_⟩
      · unfold RIpc.abs setP
        rw [List.map_set]
        rfl
      · exact h.p1
  have g : SH w0 w29 (rD p0.D p0.Data :: bQ (r.Pipes.eraseIdx kp) :: BC cb c :: BR rb 0 0 N0 0 :: BO wb o td :: BI b r.Next tp tc tq :: rP tp r.Ports :: bP r.Ports :: rC tc r.Caps :: rQ tq r.Pipes :: F) := SH.bagOut (f := pipeA) (((((((((h.front (n := 7) rfl).front (n := 7) rfl).front (n := 7) rfl).front (n := 7) rfl).front (n := 7) rfl).front (n := 7) rfl).front (n := 7) rfl).front (n := 7) rfl).front (n := 8) rfl) hx
  have hdl2 := g.len 0 rfl
  have hdc := g.lenCap 0 rfl
  rw [nums_len] at hdl2
  refine BIf.eq (fun k10 => ?_) (fun k10 => ?_)
  · -- bytes written
    have hst : stepI r.abs o = writeI r.abs o kp p0.abs := by rw [hst]; exact (if_neg k9).trans (if_pos k10)
    have h := h.drew
    have g := g.drew
    refine ⟨_, rfl, p0.D, h.rdR 7 rfl hq hx rfl, td, h.cell 2 rfl rfl, _, rfl, _, h.rdR 7 rfl hq hx rfl, ?_⟩
    refine BIf.eq (fun hr0 => errT h (i := 1) rfl (fun w' h => srE (by rw [hst]; unfold writeI; exact if_pos hr0) h.drop.drop.drop)) (fun hr0 => ?_)
    have hn : minI (IntKind.i64.wrap (512 - (p0.D.len : Int))) (td.len : Int) = ((wlen o p0.abs : Nat) : Int) := by
      have e : p0.abs.Data.length = p0.Data.length := rfl
      rw [w64 (by omega) (by omega)]
      unfold minI wlen
      split <;> omega
    have hnl : wlen o p0.abs ≤ o.Data.length ∧ wlen o p0.abs ≤ 512 := by unfold wlen; omega
    rw [hn]
    refine JoinW.cut1 (fun (x : Bool) w' => x = decide (wlen o p0.abs = 0 ∧ 0 < o.Data.length) ∧ w' = w29.drew) (BIf.eq (fun hz => ⟨td, h.cell 2 rfl rfl, by rw [Bool.eq_iff_iff, decide_eq_true_iff, decide_eq_true_iff]; omega, rfl⟩) (fun hz => ⟨(decide_eq_false (by omega)).symm, rfl⟩)) ?_
    rintro (x : Bool) w487 ⟨rfl, rfl⟩
    refine BIf.dec (fun hag => errT h (i := 1) rfl (fun w' h => srE (by rw [hst]; unfold writeI; exact (if_neg hr0).trans (if_pos hag)) h.drop.drop.drop)) (fun hag => ?_)
    have hres : stepI r.abs o = (setP r.abs kp ⟨p0.Id, p0.R, p0.W, p0.Data ++ o.Data.take (wlen o p0.abs)⟩, resN (wlen o p0.abs : Nat)) := by rw [hst]; unfold writeI; exact (if_neg hr0).trans (if_neg hag)
    rw [hres]
    clear h
    generalize wlen o p0.abs = n at *
    have g := g.drew
    have hcl := hb.cap
    refine ⟨_, rfl, p0.D, g.rdR 9 rfl hq hx rfl, td, g.cell 4 rfl rfl, by omega, by omega, ?_⟩
    have hpr2 := g.rowN 0 rfl
    simp only [Int.toNat_natCast]
    refine SH.appendN (k := .u8) (m := []) (us := p0.Data) (g.nil none 1) hpr2 rfl rfl (by decide) (by show (_ + _) * 1 ≤ _; simp; omega) (fun t502 w503 g ht502 _ => ?_)
    refine ⟨⟨td, g.cell 5 rfl rfl, rfl⟩, ?_⟩
    refine SH.appendN (k := .u8) (us := o.Data.take n) g (rowN_pre (hb.ext g.ext).row hnl.1) rfl rfl (by decide) (by show (_ + _) * 1 ≤ _; simp; omega) (fun t505 w506 g ht505 _ => ?_)
    refine ⟨_, rfl, ?_⟩
    have g : SH w0 w506 (rD t505 (p0.Data ++ o.Data.take n) :: rD p0.D p0.Data :: bQ (r.Pipes.eraseIdx kp) :: BC cb c :: BR rb 0 0 N0 0 :: BO wb o td :: BI b r.Next tp tc tq :: rP tp r.Ports :: bP r.Ports :: rC tc r.Caps :: rQ tq (r.Pipes.set kp p0) :: F) := by rw [← set_at hx]; exact g
    refine g.setR 10 (⟨p0.Id, p0.R, p0.W, t505, p0.Data ++ o.Data.take n⟩ : RPipe) rfl hq hlk (by show 3 < 4; omega) rfl (fun w508 g n508 => ?_)
    refine g.setV 4 rfl rfl (fun w509 g n509 => ?_)
    have g : SH w0 w509 (rD t505 (p0.Data ++ o.Data.take n) :: rD p0.D p0.Data :: bQ (r.Pipes.eraseIdx kp) :: BC cb c :: BR rb 0 (n : Nat) N0 0 :: BO wb o td :: BI b r.Next tp tc tq :: rP tp r.Ports :: bP r.Ports :: rC tc r.Caps :: rQ tq (r.Pipes.set kp ⟨p0.Id, p0.R, p0.W, t505, p0.Data ++ o.Data.take n⟩) :: F) := g
    have g := SH.bagIn (f := pipeA) (y := (⟨p0.Id, p0.R, p0.W, t505, p0.Data ++ o.Data.take n⟩ : RPipe)) hx (((g.dropAt 5).dropAt 3).dropAt 1)
    have g := ((((((((g.front (n := 0) rfl).front (n := 6) rfl).front (n := 6) rfl).front (n := 6) rfl).front (n := 6) rfl).front (n := 6) rfl).front (n := 6) rfl)).nil none 1
    refine ⟨tp, tc, tq, N0, ⟨r.Next, r.Ports, r.Caps, r.Pipes.set kp ⟨p0.Id, p0.R, p0.W, t505, p0.Data ++ o.Data.take n⟩⟩, ?_, ?_⟩
    · unfold RIpc.abs setP
      rw [List.map_set]
      rfl
    · exact g.p1
  have k11 : o.Kind = 11 := by omega
  refine BIf.t (by simp [k11]) ?_
  have hst : stepI r.abs o = readI r.abs o kp p0.abs := by rw [hst]; exact (if_neg k9).trans (if_neg k10)
  refine ⟨_, h.cell 2 rfl rfl, ?_⟩
  refine JoinW.cut1 (fun (x : Bool) w' => x = decide (o.N < 0 ∨ 1024 < o.N) ∧ w' = w29) (BIf.dec (fun hx => ⟨(decide_eq_true (.inl hx)).symm, rfl⟩) (fun hx => ⟨_, h.cell 2 rfl rfl, by rw [Bool.eq_iff_iff, decide_eq_true_iff, decide_eq_true_iff]; omega, rfl⟩)) ?_
  rintro (x : Bool) w514 ⟨rfl, rfl⟩
  refine BIf.dec (fun hbd => errT h (i := 1) rfl (fun w' h => srE (by rw [hst]; unfold readI; exact if_pos hbd) h.drop.drop.drop)) (fun hbd => ?_)
  refine ⟨_, rfl, p0.D, h.rdR 7 rfl hq hx rfl, ?_⟩
  have hdd : p0.abs.Data.length = p0.Data.length := rfl
  refine JoinW.cut1 (fun (x : Bool) w' => x = decide (p0.Data.length = 0 ∧ 0 < p0.W) ∧ w' = w514) (BIf.eq (fun hz => ⟨_, rfl, _, h.rdR 7 rfl hq hx rfl, by rw [Bool.eq_iff_iff, decide_eq_true_iff, decide_eq_true_iff]; omega, rfl⟩) (fun hz => ⟨(decide_eq_false (by omega)).symm, rfl⟩)) ?_
  rintro (x : Bool) w530 ⟨rfl, rfl⟩
  refine JoinW.cut1 (fun (x : Bool) w' => x = decide (p0.Data.length = 0 ∧ 0 < p0.W ∧ 0 < o.N) ∧ w' = w530) (BIf.dec (fun hz => ⟨_, h.cell 2 rfl rfl, by rw [Bool.eq_iff_iff, decide_eq_true_iff, decide_eq_true_iff]; omega, rfl⟩) (fun hz => ⟨(decide_eq_false (by omega)).symm, rfl⟩)) ?_
  rintro (x : Bool) w533 ⟨rfl, rfl⟩
  refine BIf.dec (fun hag => errT h (i := 1) rfl (fun w' h => srE (by rw [hst]; unfold readI; exact (if_neg hbd).trans (if_pos hag)) h.drop.drop.drop)) (fun hag => ?_)
  have hres : stepI r.abs o = (setP r.abs kp ⟨p0.Id, p0.R, p0.W, p0.Data.drop (rlen o p0.abs)⟩, ⟨0, 0, p0.Data.take (rlen o p0.abs), 0⟩) := by rw [hst]; unfold readI; exact (if_neg hbd).trans (if_neg hag)
  rw [hres]
  have hn : minI o.N (p0.D.len : Int) = ((rlen o p0.abs : Nat) : Int) := by
    unfold minI rlen
    split <;> omega
  have hnl : rlen o p0.abs ≤ p0.Data.length := by unfold rlen; omega
  clear h
  have g := g.drew
  refine ⟨_, g.cell 4 rfl rfl, _, rfl, p0.D, g.rdR 9 rfl hq hx rfl, _, rfl, p0.D, g.rdR 9 rfl hq hx rfl, ?_⟩
  rw [hn]
  generalize rlen o p0.abs = n at *
  refine ⟨by omega, by omega, ?_⟩
  simp only [Int.toNat_natCast]
  have hpr2 := g.rowN 0 rfl
  refine SH.appendN (k := .u8) (m := []) (us := p0.Data.take n) (g.nil none 1) (rowN_pre hpr2 hnl) rfl rfl (by decide) (by show (_ + _) * 1 ≤ _; simp; omega) (fun t550 w551 g ht550 _ => ?_)
  refine g.setV 4 rfl rfl (fun w552 g n552 => ?_)
  refine ⟨_, rfl, p0.D, g.rdR 10 rfl hq hx rfl, by omega, by omega, ?_⟩
  have hpr3 := g.rowN 1 rfl
  refine SH.appendN (k := .u8) (m := []) (us := p0.Data.drop n) (g.nil none 1) (rowN_suf hpr3 hdl2 hdc hnl) rfl rfl (by decide) (by show (_ + _) * 1 ≤ _; simp; omega) (fun t555 w556 g ht555 _ => ?_)
  refine ⟨_, rfl, ?_⟩
  have g : SH w0 w556 (rD t555 (p0.Data.drop n) :: rD t550 (p0.Data.take n) :: rD p0.D p0.Data :: bQ (r.Pipes.eraseIdx kp) :: BC cb c :: BR rb 0 0 t550 0 :: BO wb o td :: BI b r.Next tp tc tq :: rP tp r.Ports :: bP r.Ports :: rC tc r.Caps :: rQ tq (r.Pipes.set kp p0) :: F) := by rw [← set_at hx]; exact g
  refine g.setR 11 (⟨p0.Id, p0.R, p0.W, t555, p0.Data.drop n⟩ : RPipe) rfl hq hlk (by show 3 < 4; omega) rfl (fun w558 g n558 => ?_)
  have g : SH w0 w558 (rD t555 (p0.Data.drop n) :: rD t550 (p0.Data.take n) :: rD p0.D p0.Data :: bQ (r.Pipes.eraseIdx kp) :: BC cb c :: BR rb 0 0 t550 0 :: BO wb o td :: BI b r.Next tp tc tq :: rP tp r.Ports :: bP r.Ports :: rC tc r.Caps :: rQ tq (r.Pipes.set kp ⟨p0.Id, p0.R, p0.W, t555, p0.Data.drop n⟩) :: F) := g
  have g := SH.bagIn (f := pipeA) (y := (⟨p0.Id, p0.R, p0.W, t555, p0.Data.drop n⟩ : RPipe)) hx ((((((g.dropAt 6).dropAt 4).dropAt 2).front (n := 1) rfl).front (n := 2) rfl).front (n := 2) rfl)
  refine ⟨tp, tc, tq, t550, ⟨r.Next, r.Ports, r.Caps, r.Pipes.set kp ⟨p0.Id, p0.R, p0.W, t555, p0.Data.drop n⟩⟩, ?_, ?_⟩
  · unfold RIpc.abs setP
    rw [List.map_set]
    rfl
  · exact ((((((((g.front (n := 0) rfl).front (n := 7) rfl).front (n := 7) rfl).front (n := 7) rfl).front (n := 7) rfl).front (n := 7) rfl).front (n := 6) rfl).front (n := 7) rfl)
end Go.Proofs.Ytbimoajgofcmbaa

/- Ports, capabilities, pipes: the program's IpcStep. Conditions: none. -/
set_option linter.unusedVariables false
set_option linter.unusedSimpArgs false
namespace Go.Proofs.Ytbimoajgofcmbaa
open Go Go.Den
theorem step_err (d : DIpc) (o : DIpcOp) : (stepI d o).2.Code = 0 ∨ stepI d o = (d, resE (stepI d o).2.Code) := by
  have e : ∀ c, (((d, resE c) : IRes).2.Code = 0 ∨ ((d, resE c) : IRes) = (d, resE ((d, resE c) : IRes).2.Code)) := fun c => .inr rfl
  have hpush : ∀ c, (pushI d o c).2.Code = 0 ∨ pushI d o c = (d, resE (pushI d o c).2.Code) := fun c => by
    unfold pushI; split
    · exact e _
    · split
      · exact e _
      · split
        · exact e _
        · exact .inl rfl
  unfold stepI
  split
  · exact e _
  split
  · unfold newPort; split
    · exact e _
    · exact .inl rfl
  split
  · exact .inl rfl
  split
  · unfold newPipe; split
    · exact e _
    · exact .inl rfl
  split
  · split
    · exact e _
    · unfold pipeI; split
      · unfold endsI; split
        · exact e _
        · split <;> exact .inl rfl
      · split
        · unfold writeI; split
          · exact e _
          · split
            · exact e _
            · exact .inl rfl
        · unfold readI; split
          · exact e _
          · split
            · exact e _
            · exact .inl rfl
  · split
    · exact e _
    · split
      · exact e _
      · unfold capI; split
        · unfold giveI; split
          · exact e _
          · split
            · exact e _
            · split
              · exact e _
              · exact .inl rfl
        · split
          · exact .inl rfl
          · split
            · exact .inl rfl
            · split
              · unfold sendI; split
                · exact e _
                · split
                  · exact e _
                  · split
                    · split
                      · exact e _
                      · split
                        · exact e _
                        · split
                          · exact e _
                          · exact hpush _
                    · exact hpush _
              · unfold recvI; split
                · exact e _
                · split
                  · exact e _
                  · split
                    · exact e _
                    · split
                      · exact .inl rfl
                      · split <;> exact .inl rfl
open Classical in
noncomputable def stepA (d : DIpc) (o : DIpcOp) : IRes := if IOk d then stepI d o else (⟨0, [], [], []⟩, ⟨0, 0, [], 0⟩)
def KSR (w : World) (res : IRes) (v : Value) (w' : World) : Prop := ∃ (tp tc tq t : Sl) (r : RIpc), v = .tuple #[iV r.Next tp tc tq, rV res.2.Code res.2.N t res.2.From] ∧ r.abs = res.1 ∧ SH w w' (rD t res.2.Data :: sP tp tc tq r)
set_option maxRecDepth 4000 in
set_option maxHeartbeats 2000000 in
theorem s36 {w : World} {sp sc sq td : Sl} {d : DIpc} {o : DIpcOp} (hd : ILent w sp sc sq d) (hb : ByAt w td o.Data) (hbs : o.Data.length ≤ 1048576) :
    CallW Try.prog 36 #[iV d.Next sp sc sq, .agg ⟨opV o td⟩] w (KSR w (stepA d o)) := by
  refine go36 (a0_0 := d.Next) (a0_1 := sp) (a0_2 := sc) (a0_3 := sq) (a1_0 := o.Kind) (a1_1 := o.Holder) (a1_2 := o.Id) (a1_3 := o.To) (a1_4 := o.Rights) (a1_5 := o.Cap) (a1_6 := o.N) (a1_7 := td) ?_
  unfold W36
  have h := SH.start w
  refine h.alloc (fun w1 h e1 n1 => ?_)
  refine h.alloc (fun w2 h e2 n2 => ?_)
  refine h.alloc (fun w3 h e3 n3 => ?_)
  refine h.alloc (fun w4 h e4 n4 => ?_)
  have h : SH w w4 [BR w3.heap.size 0 0 N0 0, BI w2.heap.size 0 N0 N0 N0, BO w1.heap.size o td, BI w.heap.size d.Next sp sc sq] := h
  refine ⟨_, h.cell 3 rfl rfl, sp, h.cell 3 rfl rfl, sc, h.cell 3 rfl rfl, sq, h.cell 3 rfl rfl, (c12 (hd.ext h.ext).at_ hd.wf.pw.pipes).mono ?_⟩
  rintro _ w10 ⟨b11, rfl, hb11, e10⟩
  have h := h.to e10
  refine ⟨b11, rfl, ?_⟩
  by_cases hok : IOk d
  rotate_left
  · have hbf : b11 = false := by cases b11 with | false => rfl | true => exact absurd (hb11.1 rfl) hok
    have hres : stepA d o = (⟨0, [], [], []⟩, ⟨0, 0, [], 0⟩) := if_neg hok
    rw [hres]
    refine BIf.t (by rw [hbf]; rfl) ?_
    refine h.put 1 rfl rfl rfl (fun w12 h n12 => ?_)
    refine h.put 0 rfl rfl rfl (fun w13 h n13 => ?_)
    refine ⟨_, h.cell 1 rfl rfl, N0, h.cell 1 rfl rfl, N0, h.cell 1 rfl rfl, N0, h.cell 1 rfl rfl, _, h.cell 0 rfl rfl, _, h.cell 0 rfl rfl, N0, h.cell 0 rfl rfl, _, h.cell 0 rfl rfl, ?_⟩
    have h := h.drop.drop.drop.drop
    have h := ((((((SH.bagNil pipeA h).nil none 4).nil none 5).front (n := 0) rfl))).bagNil portA
    have h := (h.nil none 2).nil none 1
    exact ⟨N0, N0, N0, N0, ⟨0, [], [], []⟩, rfl, rfl, h⟩
  have hbt : b11 = true := hb11.2 hok
  have hres : stepA d o = stepI d o := if_pos hok
  rw [hres]
  refine BIf.f (by rw [hbt]; rfl) ?_
  refine ⟨_, h.cell 3 rfl rfl, sp, h.cell 3 rfl rfl, sc, h.cell 3 rfl rfl, sq, h.cell 3 rfl rfl, (c74 (hd.ext h.ext)).mono ?_⟩
  rintro _ w27 ⟨tp, tc, tq, r, rfl, hr, g⟩
  have h := h.seq g
  refine ⟨_, tp, tc, tq, rfl, ?_⟩
  refine h.alloc (fun w32 h e32 n32 => ?_)
  refine h.put 0 rfl rfl rfl (fun w33 h n33 => ?_)
  have h : SH w w33 (BI w27.heap.size r.Next tp tc tq :: rP tp r.Ports :: bP r.Ports :: rC tc r.Caps :: rQ tq r.Pipes :: bQ r.Pipes :: [BR w3.heap.size 0 0 N0 0, BI w2.heap.size 0 N0 N0 N0, BO w1.heap.size o td, BI w.heap.size d.Next sp sc sq]) := h
  refine ⟨_, h.cell 8 rfl rfl, _, h.cell 8 rfl rfl, _, h.cell 8 rfl rfl, _, h.cell 8 rfl rfl, _, h.cell 8 rfl rfl, _, h.cell 8 rfl rfl, _, h.cell 8 rfl rfl, td, h.cell 8 rfl rfl, ?_⟩
  have herr := step_err d o
  have hs := s75 (F := [BR w3.heap.size 0 0 N0 0, BI w2.heap.size 0 N0 N0 N0, BO w1.heap.size o td, BI w.heap.size d.Next sp sc sq]) (r := r) (o := o) h (by rw [hr]; exact hd.wf) (by rw [hr]; exact hok) hb hbs
  rw [hr] at hs
  generalize stepI d o = res at *
  refine hs.mono ?_
  rintro _ w43 ⟨tp2, tc2, tq2, t, r2, rfl, hr2, h⟩
  refine ⟨_, _, t, _, rfl, ?_⟩
  refine h.alloc (fun w48 h e48 n48 => ?_)
  refine h.put 0 rfl rfl rfl (fun w49 h n49 => ?_)
  have h : SH w w49 [BR w43.heap.size res.2.Code res.2.N t res.2.From, rD t res.2.Data, BI w27.heap.size r2.Next tp2 tc2 tq2, rP tp2 r2.Ports, bP r2.Ports, rC tc2 r2.Caps, rQ tq2 r2.Pipes, bQ r2.Pipes, BR w3.heap.size 0 0 N0 0, BI w2.heap.size 0 N0 N0 N0, BO w1.heap.size o td, BI w.heap.size d.Next sp sc sq] := h
  have h := h.drew
  refine ⟨_, (h.cell 0 rfl rfl : _), BIf.ne (fun hne => ?_) (fun hz => ?_)⟩
  · rcases herr with he | he
    · exact absurd he hne
    refine ⟨_, h.cell 11 rfl rfl, sp, h.cell 11 rfl rfl, sc, h.cell 11 rfl rfl, sq, h.cell 11 rfl rfl, _, h.cell 0 rfl rfl, (c74 (hd.ext h.ext)).mono ?_⟩
    rintro _ w57 ⟨tp3, tc3, tq3, r3, rfl, hr3, g⟩
    have h := h.seq g
    refine ⟨_, tp3, tc3, tq3, rfl, ⟨_, h.cell 5 rfl rfl, rfl⟩, ?_⟩
    refine h.put 14 rfl rfl rfl (fun w63 h n63 => ?_)
    refine ⟨⟨_, h.cell 5 rfl rfl, rfl⟩, ?_⟩
    refine h.put 13 rfl rfl rfl (fun w65 h n65 => ?_)
    refine ⟨_, h.cell 14 rfl rfl, tp3, h.cell 14 rfl rfl, tc3, h.cell 14 rfl rfl, tq3, h.cell 14 rfl rfl, _, h.cell 13 rfl rfl, _, h.cell 13 rfl rfl, N0, h.cell 13 rfl rfl, _, h.cell 13 rfl rfl, ?_⟩
    have h := (h.take 5).nil none 1
    refine ⟨tp3, tc3, tq3, N0, r3, ?_, by rw [hr3, he], ?_⟩
    · rw [he]; rfl
    · rw [he]; exact h
  · refine ⟨_, h.cell 2 rfl rfl, tp2, h.cell 2 rfl rfl, tc2, h.cell 2 rfl rfl, tq2, h.cell 2 rfl rfl, _, h.cell 0 rfl rfl, _, h.cell 0 rfl rfl, t, h.cell 0 rfl rfl, _, h.cell 0 rfl rfl, ?_⟩
    refine h.put 9 rfl rfl rfl (fun w82 h n82 => ?_)
    refine ⟨⟨_, h.cell 0 rfl rfl, _, h.cell 0 rfl rfl, t, h.cell 0 rfl rfl, _, h.cell 0 rfl rfl, rfl⟩, ?_⟩
    refine h.put 8 rfl rfl rfl (fun w87 h n87 => ?_)
    refine ⟨_, h.cell 9 rfl rfl, tp2, h.cell 9 rfl rfl, tc2, h.cell 9 rfl rfl, tq2, h.cell 9 rfl rfl, _, h.cell 8 rfl rfl, _, h.cell 8 rfl rfl, t, h.cell 8 rfl rfl, _, h.cell 8 rfl rfl, ?_⟩
    exact ⟨tp2, tc2, tq2, t, r2, rfl, hr2, (h.dropAt 2).drop.take 6⟩
end Go.Proofs.Ytbimoajgofcmbaa

/- Ports, capabilities, pipes: the reference's small functions. Conditions: none. -/
set_option linter.unusedVariables false
set_option linter.unusedSimpArgs false
namespace Go.Proofs.Ytbimoajgofcmbaa
open Go Go.Den
/-- Bytes that are lent: they lie in a part of the frame, or they are the caller's. -/
structure LentB (w0 : World) (F : List Asr) (t : Sl) (l : List Int) : Prop where
  len : t.len = l.length
  cap : t.len ≤ t.cap
  row : ∀ {w : World} {As : List Asr}, SH w0 w As → (∃ P, As = P ++ F) → RowAt w t.a t.len (l.map (Value.int .u8))
theorem LentB.of {w0 : World} {F : List Asr} {t : Sl} {l : List Int} (h : ByAt w0 t l) : LentB w0 F t l := ⟨h.len, h.cap, fun g _ => (h.ext g.ext).row⟩
theorem LentB.up {w0 : World} {F : List Asr} {t : Sl} {l : List Int} (h : LentB w0 F t l) (X : List Asr) : LentB w0 (X ++ F) t l := ⟨h.len, h.cap, fun g ⟨P, hP⟩ => h.row g ⟨P ++ X, by rw [hP, List.append_assoc]⟩⟩
/-- What the reference's functions hand back. -/
def KS (w0 : World) (F : List Asr) (res : IRes) (v : Value) (w' : World) : Prop := ∃ (tp tc tq t : Sl) (r : RIpc), v = .tuple #[iV r.Next tp tc tq, rV res.2.Code res.2.N t res.2.From] ∧ r.abs = res.1 ∧ SH w0 w' (rD t res.2.Data :: (sP tp tc tq r ++ F))
theorem s95 {w0 w : World} {F : List Asr} {tp tc tq : Sl} {r : RIpc} {n : Int} (h : SH w0 w (sP tp tc tq r ++ F)) : CallW Try.prog 95 #[iV r.Next tp tc tq, .int .i64 n] w (KS w0 F (r.abs, resE n)) := by
  refine go95 ?_
  unfold W95
  refine h.alloc (fun w1 h e1 n1 => ?_)
  refine h.alloc (fun w2 h e2 n2 => ?_)
  refine h.alloc (fun w3 h e3 n3 => ?_)
  refine ⟨_, h.cell 2 rfl rfl, tp, h.cell 2 rfl rfl, tc, h.cell 2 rfl rfl, tq, h.cell 2 rfl rfl, ?_⟩
  refine h.put 1 rfl rfl rfl (fun w8 h n8 => ?_)
  refine h.put 0 rfl rfl rfl (fun w9 h n9 => ?_)
  refine ⟨_, h.cell 1 rfl rfl, tp, h.cell 1 rfl rfl, tc, h.cell 1 rfl rfl, tq, h.cell 1 rfl rfl, _, h.cell 0 rfl rfl, _, h.cell 0 rfl rfl, N0, h.cell 0 rfl rfl, _, h.cell 0 rfl rfl, ?_⟩
  exact ⟨tp, tc, tq, N0, r, rfl, rfl, h.drop.drop.drop.nil none 1⟩
theorem s96 {w0 w : World} {F : List Asr} {n a1 a2 a3 a4 : Int} {tp tc tq : Sl} {cs : List DCap} (h : SH w0 w (rC tc cs :: F)) (h0 : 0 ≤ n) (h1 : n ≤ 1099511628800) (hf : cs.length ≤ 1048576) :
    CallW Try.prog 96 #[iV n tp tc tq, .int .i64 a1, .int .i64 a2, .int .i64 a3, .int .i64 a4] w (fun v w' => ∃ tc' : Sl, v = iV (n + 1) tp tc' tq ∧ SH w0 w' (rC tc' (cs ++ [⟨n + 1, a1, a2, a3, a4⟩]) :: F)) := by
  refine go96 ?_
  unfold W96
  refine h.alloc (fun w1 h e1 n1 => ?_)
  refine h.alloc (fun w2 h e2 n2 => ?_)
  refine ⟨_, h.cell 1 rfl rfl, ?_⟩
  rw [w64 (n := n + 1) (by omega) (by omega)]
  refine h.setV 1 rfl rfl (fun w4 h n4 => ?_)
  refine ⟨tc, h.cell 1 rfl rfl, _, h.cell 1 rfl rfl, ?_⟩
  refine LetW_iff.2 (SH.appendR1 (f := DCap.cells) (x := ⟨n + 1, a1, a2, a3, a4⟩) h.p2 rfl rfl rfl (by decide) (by show (_ + _) * 40 ≤ _; omega) (plain_cap' _) (fun tc2 w9 h htc2 _ => ?_))
  refine h.setV 2 rfl rfl (fun w10 h n10 => ?_)
  refine ⟨_, h.cell 2 rfl rfl, tp, h.cell 2 rfl rfl, tc2, h.cell 2 rfl rfl, tq, h.cell 2 rfl rfl, ?_⟩
  refine h.put 1 rfl rfl rfl (fun w15 h n15 => ?_)
  exact ⟨_, h.cell 1 rfl rfl, tp, h.cell 1 rfl rfl, tc2, h.cell 1 rfl rfl, tq, h.cell 1 rfl rfl, tc2, rfl, (h.dropAt 2).dropAt 1⟩
theorem dropC_snoc {cs : List DCap} {id up : Int} {k : Nat} {x : DCap} (hx : cs[k]? = some x) : dropC (cs.take (k + 1)) id up = dropC (cs.take k) id up ++ (if (x.Id != id) = true then [reCap id up x] else []) := by
  unfold dropC
  rw [filter_snoc' hx, List.map_append]
  split <;> rfl
set_option maxHeartbeats 1000000 in
theorem s97 {w0 w : World} {F : List Asr} {tp tc tq : Sl} {r : RIpc} {id : Int} {k0 : Nat} {c : DCap} (h : SH w0 w (rP tp r.Ports :: bP r.Ports :: rC tc r.Caps :: rQ tq r.Pipes :: bQ r.Pipes :: F)) (hw : IWf r.abs) (hk : capIx r.abs id = k0) (hc : r.Caps[k0]? = some c) :
    CallW Try.prog 97 #[iV r.Next tp tc tq, .int .i64 id] w (fun v w' => ∃ tc' : Sl, v = iV r.Next tp tc' tq ∧ SH w0 w' (rP tp r.Ports :: bP r.Ports :: rC tc' (dropC r.Caps id c.Parent) :: rQ tq r.Pipes :: bQ r.Pipes :: F)) := by
  refine go97 ?_
  unfold W97
  have hf : r.Caps.length ≤ 1048576 := hw.few.1
  have hcl := h.len 2 rfl
  rw [recs_len] at hcl
  have hlk : k0 < r.Caps.length := (List.getElem?_eq_some_iff.1 hc).1
  refine h.alloc (fun w1 h e1 n1 => ?_)
  refine h.alloc (fun w2 h e2 n2 => ?_)
  have h := h.drew
  have hat : IpcAt w2.drew tp tc tq r.abs := ipc_at (F := F) (SH.drop (SH.drop h)) hw
  refine ⟨tc, h.cell 1 rfl rfl, _, h.cell 1 rfl rfl, tp, h.cell 1 rfl rfl, tc, h.cell 1 rfl rfl, tq, h.cell 1 rfl rfl, (c86 hat).mono ?_⟩
  rintro _ w9 ⟨rfl, e9⟩
  have h := h.to e9
  rw [hk]
  obtain ⟨q, hq⟩ := h.rowQ 4 rfl hc
  simp only [Int.toNat_natCast]
  refine ⟨_, rfl, ⟨tc, h.cell 1 rfl rfl, rfl⟩, by omega, by omega, q, hq, _, h.rdR 4 rfl hq hc rfl, ?_⟩
  refine h.alloc (fun w14 h e14 n14 => ?_)
  have h : SH w0 w14 (rC ⟨some ⟨w9.heap.size, 0, none⟩, 0, 0⟩ (dropC (r.Caps.take 0) id c.Parent) :: BI w1.heap.size 0 N0 N0 N0 :: BI w.heap.size r.Next tp tc tq :: rP tp r.Ports :: bP r.Ports :: rC tc r.Caps :: rQ tq r.Pipes :: bQ r.Pipes :: F) := h.drop.nil _ 5
  refine LoopW.m2 (fun (t : Sl) (i : Int) w' => ∃ k : Nat, i = k ∧ k ≤ r.Caps.length ∧ SH w0 w' (rC t (dropC (r.Caps.take k) id c.Parent) :: BI w1.heap.size 0 N0 N0 N0 :: BI w.heap.size r.Next tp tc tq :: rP tp r.Ports :: bP r.Ports :: rC tc r.Caps :: rQ tq r.Pipes :: bQ r.Pipes :: F)) (fun _ (i : Int) _ => (r.Caps.length - i).toNat) ⟨0, rfl, by omega, h⟩ ?_
  clear h
  rintro (t : Sl) (i : Int) w18 ⟨k, rfl, hkk, h⟩ J hJ
  have hkl : (dropC (r.Caps.take k) id c.Parent).length ≤ k := by
    unfold dropC; rw [List.length_map]
    have := List.length_filter_le (fun x : DCap => x.Id != id) (r.Caps.take k); simp at this; omega
  refine ⟨tc, h.cell 2 rfl rfl, BIf.dec (fun hlt => ?_) (fun hge => ?_)⟩
  · have hget : r.Caps[k]? = some r.Caps[k] := List.getElem?_eq_getElem (by omega)
    generalize r.Caps[k] = x at *
    have hsn := dropC_snoc (id := id) (up := c.Parent) hget
    obtain ⟨q2, hq2⟩ := h.rowQ 5 rfl hget
    simp only [Int.toNat_natCast]
    rw [w64 (n := (k : Int) + 1) (by omega) (by omega)]
    refine ⟨tc, h.cell 2 rfl rfl, by omega, by omega, q2, hq2, _, h.rdR 5 rfl hq2 hget rfl, _, h.rdR 5 rfl hq2 hget rfl, _, h.rdR 5 rfl hq2 hget rfl, _, h.rdR 5 rfl hq2 hget rfl, _, h.rdR 5 rfl hq2 hget rfl, ?_⟩
    refine h.alloc (fun w27 h e27 n27 => ?_)
    refine h.put 0 rfl rfl rfl (fun w28 h n28 => ?_)
    refine ⟨_, h.cell 0 rfl rfl, BIf.eq (fun he => ?_) (fun he => ?_)⟩
    · rw [if_neg (by simpa using he), List.append_nil] at hsn
      exact hJ _ _ _ ⟨k + 1, by omega, by omega, by rw [hsn]; exact h.drop⟩ (by omega)
    · rw [if_pos (by simpa using he)] at hsn
      refine JoinW.cut0 (fun w' => SH w0 w' (aB w18.heap.size ((reCap id c.Parent x).cells.map Ce.v) :: rC t (dropC (r.Caps.take k) id c.Parent) :: BI w1.heap.size 0 N0 N0 N0 :: BI w.heap.size r.Next tp tc tq :: rP tp r.Ports :: bP r.Ports :: rC tc r.Caps :: rQ tq r.Pipes :: bQ r.Pipes :: F)) ?_ ?_
      · refine ⟨_, h.cell 0 rfl rfl, BIf.eq (fun hp => ?_) (fun hp => ?_)⟩
        · refine h.setV 0 rfl rfl (fun w41 h n41 => ?_)
          unfold reCap
          rw [if_pos hp]
          exact h
        · unfold reCap
          rw [if_neg hp]
          exact h
      clear h
      intro w31 h
      generalize reCap id c.Parent x = y at *
      refine ⟨_, h.cell 0 rfl rfl, _, h.cell 0 rfl rfl, _, h.cell 0 rfl rfl, _, h.cell 0 rfl rfl, _, h.cell 0 rfl rfl, ?_⟩
      refine LetW_iff.2 (SH.appendR1 (f := DCap.cells) (x := y) h.drop rfl rfl rfl (by decide) (by show (_ + _) * 40 ≤ _; omega) (plain_cap' _) (fun t2 w39 h ht2 _ => ?_))
      exact hJ _ _ _ ⟨k + 1, by omega, by omega, by rw [hsn]; exact h⟩ (by omega)
  · have hke : k = r.Caps.length := by omega
    rw [hke, List.take_length] at h
    refine h.setV 2 rfl rfl (fun w42 h n42 => ?_)
    refine ⟨_, h.cell 2 rfl rfl, tp, h.cell 2 rfl rfl, t, h.cell 2 rfl rfl, tq, h.cell 2 rfl rfl, ?_⟩
    refine h.put 1 rfl rfl rfl (fun w47 h n47 => ?_)
    refine ⟨_, h.cell 1 rfl rfl, tp, h.cell 1 rfl rfl, t, h.cell 1 rfl rfl, tq, h.cell 1 rfl rfl, t, rfl, ?_⟩
    have h := ((h.dropAt 5).dropAt 2).dropAt 1
    exact (h.front (n := 2) rfl).front (n := 2) rfl
set_option maxHeartbeats 1000000 in
theorem s98 {w0 w : World} {F : List Asr} {n : Int} {tp tc tq : Sl} {ps : List RPort} {cs : List DCap} (h : SH w0 w (rP tp ps :: bP ps :: rC tc cs :: F)) (hf : cs.length ≤ 1048576) (hfp : ps.length ≤ 1048576) :
    CallW Try.prog 98 #[iV n tp tc tq] w (fun v w' => ∃ tp' : Sl, v = iV n tp' tc tq ∧ SH w0 w' (rP tp' (ps.filter (hasR cs)) :: bP (ps.filter (hasR cs)) :: rC tc cs :: F)) := by
  refine go98 ?_
  unfold W98
  have hpl := h.len 0 rfl
  have hcl := h.len 2 rfl
  rw [recs_len] at hpl hcl
  refine h.alloc (fun w1 h e1 n1 => ?_)
  refine h.alloc (fun w2 h e2 n2 => ?_)
  refine h.alloc (fun w3 h e3 n3 => ?_)
  have h : SH w0 w3 (rP ⟨some ⟨w2.heap.size, 0, none⟩, 0, 0⟩ ((ps.take 0).filter (hasR cs)) :: BI w1.heap.size 0 N0 N0 N0 :: BI w.heap.size n tp tc tq :: rP tp ps :: bP ps :: rC tc cs :: F) := h.drop.nil _ 2
  refine LoopW.m2 (fun (t : Sl) (i : Int) w' => ∃ k : Nat, i = k ∧ k ≤ ps.length ∧ SH w0 w' (rP t ((ps.take k).filter (hasR cs)) :: BI w1.heap.size 0 N0 N0 N0 :: BI w.heap.size n tp tc tq :: rP tp ps :: bP ps :: rC tc cs :: F)) (fun _ (i : Int) _ => (ps.length - i).toNat) ⟨0, rfl, by omega, h⟩ ?_
  clear h
  rintro (t : Sl) (i : Int) w7 ⟨k, rfl, hk, h⟩ J hJ
  have hkl : ((ps.take k).filter (hasR cs)).length ≤ k := by have := List.length_filter_le (hasR cs) (ps.take k); simp at this; omega
  refine ⟨tp, h.cell 2 rfl rfl, BIf.dec (fun hlt => ?_) (fun hge => ?_)⟩
  · have hget : ps[k]? = some ps[k] := List.getElem?_eq_getElem (by omega)
    generalize ps[k] = x at *
    have hsn := filter_snoc' (p := hasR cs) hget
    simp only [Int.toNat_natCast]
    rw [w64 (n := (k : Int) + 1) (by omega) (by omega)]
    refine LoopW.m2 (fun (bb : Bool) (i : Int) w' => ∃ m : Nat, i = m ∧ m ≤ cs.length ∧ bb = (cs.take m).any (fun c => c.Port == x.Id) ∧ SH w0 w' (rP t ((ps.take k).filter (hasR cs)) :: BI w1.heap.size 0 N0 N0 N0 :: BI w.heap.size n tp tc tq :: rP tp ps :: bP ps :: rC tc cs :: F)) (fun _ (i : Int) _ => (cs.length - i).toNat) ⟨0, rfl, by omega, rfl, h⟩ ?_
    clear h
    rintro (bb : Bool) (i : Int) w12 ⟨m, rfl, hm, hbb, h⟩ J2 hJ2
    refine ⟨tc, h.cell 2 rfl rfl, BIf.dec (fun hlt2 => ?_) (fun hge2 => ?_)⟩
    · have hget2 : cs[m]? = some cs[m] := List.getElem?_eq_getElem (by omega)
      generalize cs[m] = y at *
      have hany := any_snoc (fun c : DCap => c.Port == x.Id) hget2
      simp only [Int.toNat_natCast]
      rw [w64 (n := (m : Int) + 1) (by omega) (by omega)]
      have h := h.drew
      refine BIf.of (fun hbt => ?_) (fun hbf => ?_)
      · exact hJ2 _ _ _ ⟨m + 1, by omega, by omega, by rw [hany, ← hbb, hbt]; rfl, h⟩ (by omega)
      · obtain ⟨q, hq⟩ := h.rowQ 5 rfl hget2
        obtain ⟨q2, hq2⟩ := h.rowQ 3 rfl hget
        refine ⟨tc, h.cell 2 rfl rfl, by omega, by omega, q, hq, _, h.rdR 5 rfl hq hget2 rfl, tp, h.cell 2 rfl rfl, by omega, by omega, q2, hq2, _, h.rdR 3 rfl hq2 hget rfl, ?_⟩
        exact hJ2 _ _ _ ⟨m + 1, by omega, by omega, by rw [hany, ← hbb, hbf]; rfl, h⟩ (by omega)
    · have hme : m = cs.length := by omega
      rw [hme, List.take_length] at hbb
      have hbb : bb = hasR cs x := hbb
      refine BIf.of (fun hp => ?_) (fun hp => ?_)
      · rw [if_pos (by rw [← hbb, hp])] at hsn
        obtain ⟨q2, hq2⟩ := h.rowQ 3 rfl hget
        refine ⟨tp, h.cell 2 rfl rfl, by omega, by omega, q2, hq2, _, h.rdR 3 rfl hq2 hget rfl, x.q, h.rdR 3 rfl hq2 hget rfl, ?_⟩
        refine LetW_iff.2 (SH.appendR1 (f := RPort.cells) (x := x) h rfl rfl rfl (by decide) (by show (_ + _) * 32 ≤ _; omega) (plain_port _) (fun t2 w26 h ht2 _ => ?_))
        exact hJ _ _ _ ⟨k + 1, by omega, by omega, by rw [hsn]; exact h⟩ (by omega)
      · rw [if_neg (by rw [← hbb, hp]; decide), List.append_nil] at hsn
        exact hJ _ _ _ ⟨k + 1, by omega, by omega, by rw [hsn]; exact h⟩ (by omega)
  · have hke : k = ps.length := by omega
    rw [hke, List.take_length] at h
    refine h.setV 2 rfl rfl (fun w27 h n27 => ?_)
    refine ⟨_, h.cell 2 rfl rfl, t, h.cell 2 rfl rfl, tc, h.cell 2 rfl rfl, tq, h.cell 2 rfl rfl, ?_⟩
    refine h.put 1 rfl rfl rfl (fun w32 h n32 => ?_)
    refine ⟨_, h.cell 1 rfl rfl, t, h.cell 1 rfl rfl, tc, h.cell 1 rfl rfl, tq, h.cell 1 rfl rfl, t, rfl, ?_⟩
    have h := ((h.dropAt 3).dropAt 2).dropAt 1
    have h := SH.bagFilter (hasR cs) (h.front (n := 1) rfl)
    exact h.front (n := 1) rfl
set_option maxHeartbeats 1000000 in
theorem s116 {w0 w : World} {F : List Asr} {tp tc tq : Sl} {r : RIpc} {top : Int} (h : SH w0 w (sP tp tc tq r ++ F)) (hw : IWf r.abs) (hi : IOk r.abs) : CallW Try.prog 116 #[iV r.Next tp tc tq, .int .i64 top] w (KS w0 F (revF r.abs top)) := by
  refine go116 ?_
  unfold W116
  have hf : r.Caps.length ≤ 128 := hi.caps
  have h : SH w0 w (rP tp r.Ports :: bP r.Ports :: rC tc r.Caps :: rQ tq r.Pipes :: bQ r.Pipes :: F) := h
  have hcl := h.len 2 rfl
  rw [recs_len] at hcl
  refine h.alloc (fun w1 h e1 n1 => ?_)
  refine h.alloc (fun w2 h e2 n2 => ?_)
  refine h.alloc (fun w3 h e3 n3 => ?_)
  refine h.alloc (fun w4 h e4 n4 => ?_)
  classical
  have h : SH w0 w4 (rC ⟨some ⟨w3.heap.size, 0, none⟩, 0, 0⟩ ((r.Caps.take 0).filter (fun c => !decide (Und r.abs top c.Id))) :: BR w2.heap.size 0 0 N0 0 :: BI w1.heap.size 0 N0 N0 N0 :: BI w.heap.size r.Next tp tc tq :: rP tp r.Ports :: bP r.Ports :: rC tc r.Caps :: rQ tq r.Pipes :: bQ r.Pipes :: F) := h.drop.nil _ 5
  refine LoopW.m2 (fun (t : Sl) (i : Int) w' => ∃ k : Nat, i = k ∧ k ≤ r.Caps.length ∧ SH w0 w' (rC t ((r.Caps.take k).filter (fun c => !decide (Und r.abs top c.Id))) :: BR w2.heap.size 0 0 N0 0 :: BI w1.heap.size 0 N0 N0 N0 :: BI w.heap.size r.Next tp tc tq :: rP tp r.Ports :: bP r.Ports :: rC tc r.Caps :: rQ tq r.Pipes :: bQ r.Pipes :: F)) (fun _ (i : Int) _ => (r.Caps.length - i).toNat) ⟨0, rfl, by omega, h⟩ ?_
  clear h
  rintro (t : Sl) (i : Int) w8 ⟨k, rfl, hk, h⟩ J hJ
  have hkl : ((r.Caps.take k).filter (fun c => !decide (Und r.abs top c.Id))).length ≤ k := by have := List.length_filter_le (fun c : DCap => !decide (Und r.abs top c.Id)) (r.Caps.take k); simp at this; omega
  refine ⟨tc, h.cell 3 rfl rfl, BIf.dec (fun hlt => ?_) (fun hge => ?_)⟩
  · have hget : r.Caps[k]? = some r.Caps[k] := List.getElem?_eq_getElem (by omega)
    generalize r.Caps[k] = x at *
    have hsn := filter_snoc' (p := fun c : DCap => !decide (Und r.abs top c.Id)) hget
    simp only [Int.toNat_natCast]
    rw [w64 (n := (k : Int) + 1) (by omega) (by omega)]
    have h := h.drew
    have hat : IpcAt w8.drew tp tc tq r.abs := ipc_at (F := F) (SH.drop (SH.drop (SH.drop (SH.drop h)))) hw
    obtain ⟨q, hq⟩ := h.rowQ 6 rfl hget
    refine ⟨_, h.cell 3 rfl rfl, tp, h.cell 3 rfl rfl, tc, h.cell 3 rfl rfl, tq, h.cell 3 rfl rfl, tc, h.cell 3 rfl rfl, by omega, by omega, q, hq, _, h.rdR 6 rfl hq hget rfl, (c65 hat hi hget).mono ?_⟩
    rintro _ w18 ⟨b19, rfl, hb19, e18⟩
    have h := h.to e18
    refine ⟨b19, rfl, BIf.of (fun hb => ?_) (fun hb => ?_)⟩
    · have hn : ¬ Und r.abs top x.Id := fun hu => by rw [hb19.2 hu] at hb; cases hb
      rw [if_pos (by simpa using hn)] at hsn
      refine ⟨tc, h.cell 3 rfl rfl, by omega, by omega, q, hq, _, h.rdR 6 rfl hq hget rfl, _, h.rdR 6 rfl hq hget rfl, _, h.rdR 6 rfl hq hget rfl, _, h.rdR 6 rfl hq hget rfl, _, h.rdR 6 rfl hq hget rfl, ?_⟩
      refine LetW_iff.2 (SH.appendR1 (f := DCap.cells) (x := x) h rfl rfl rfl (by decide) (by show (_ + _) * 40 ≤ _; omega) (plain_cap' _) (fun t2 w29 h ht2 _ => ?_))
      exact hJ _ _ _ ⟨k + 1, by omega, by omega, by rw [hsn]; exact h⟩ (by omega)
    · have hu : Und r.abs top x.Id := hb19.1 (by simpa using hb)
      rw [if_neg (by simpa using hu), List.append_nil] at hsn
      exact hJ _ _ _ ⟨k + 1, by omega, by omega, by rw [hsn]; exact h⟩ (by omega)
  · have hke : k = r.Caps.length := by omega
    rw [hke, List.take_length] at h hkl
    have hrev : r.Caps.filter (fun c => !decide (Und r.abs top c.Id)) = revC r.abs top := by
      unfold revC
      refine List.filter_congr (fun x _ => ?_)
      congr
    rw [hrev] at h hkl
    have htl := h.len 0 rfl
    rw [recs_len] at htl
    refine ⟨tc, h.cell 3 rfl rfl, ?_⟩
    refine h.setV 3 rfl rfl (fun w31 h n31 => ?_)
    refine ⟨_, h.cell 3 rfl rfl, tp, h.cell 3 rfl rfl, t, h.cell 3 rfl rfl, tq, h.cell 3 rfl rfl, ?_⟩
    refine h.put 2 rfl rfl rfl (fun w36 h n36 => ?_)
    rw [w64 (n := (tc.len : Int) - (t.len : Int)) (by omega) (by omega)]
    refine h.put 1 rfl rfl rfl (fun w37 h n37 => ?_)
    refine ⟨_, h.cell 2 rfl rfl, tp, h.cell 2 rfl rfl, t, h.cell 2 rfl rfl, tq, h.cell 2 rfl rfl, _, h.cell 1 rfl rfl, _, h.cell 1 rfl rfl, N0, h.cell 1 rfl rfl, _, h.cell 1 rfl rfl, ?_⟩
    have h := (((h.dropAt 6).dropAt 3).dropAt 2).dropAt 1
    have h := ((h.front (n := 2) rfl).front (n := 2) rfl).nil none 1
    have e : (tc.len : Int) - t.len = (r.Caps.length : Int) - (revC r.abs top).length := by rw [hcl, htl]
    refine ⟨tp, t, tq, N0, ⟨r.Next, r.Ports, revC r.abs top, r.Pipes⟩, ?_, rfl, h⟩
    rw [e]
    rfl
end Go.Proofs.Ytbimoajgofcmbaa

/- Ports, capabilities, pipes: the reference's Give, Send, Receive. Conditions: none. -/
set_option linter.unusedVariables false
set_option linter.unusedSimpArgs false
namespace Go.Proofs.Ytbimoajgofcmbaa
open Go Go.Den
theorem SH.dropL {w0 w : World} : ∀ {X G : List Asr}, SH w0 w (X ++ G) → SH w0 w G
  | [], _, h => h
  | _ :: X, _, h => SH.dropL (X := X) (SH.drop h)
/-- What a callee hands back is put into the result's blocks and handed back. -/
theorem retS {w0 w : World} {F X : List Asr} {N rb ib : Nat} {args : Array Value} {res : IRes} {c0 n0 f0 m0 : Int} {t0 a0 b0 d0 : Sl}
    (hc : CallW Try.prog N args w (KS w0 (BR rb c0 n0 t0 f0 :: BI ib m0 a0 b0 d0 :: (X ++ F)) res)) :
    CallW Try.prog N args w (fun v14 w15 => ∃ n16 : Int, ∃ l17 : Sl, ∃ l18 : Sl, ∃ l19 : Sl, ∃ n20 : Int, ∃ n21 : Int, ∃ l22 : Sl, ∃ n23 : Int, v14 = .tuple #[.agg #[.int .i64 n16, .slice l17.a l17.len l17.cap, .slice l18.a l18.len l18.cap, .slice l19.a l19.len l19.cap], .agg #[.int .i64 n20, .int .i64 n21, .slice l22.a l22.len l22.cap, .int .i64 n23]] ∧ MayN w15 ⟨ib, 0, none⟩ 4 ∧ LetW (puts w15 ⟨ib, 0, none⟩ 0 [.int .i64 n16, .slice l17.a l17.len l17.cap, .slice l18.a l18.len l18.cap, .slice l19.a l19.len l19.cap]) fun w24 => MayN w24 ⟨rb, 0, none⟩ 4 ∧ LetW (puts w24 ⟨rb, 0, none⟩ 0 [.int .i64 n20, .int .i64 n21, .slice l22.a l22.len l22.cap, .int .i64 n23]) fun w25 => ∃ n26 : Int, w25.cell? ⟨ib, 0, none⟩ = some (.int .i64 n26) ∧ ∃ l27 : Sl, w25.cell? ⟨ib, 1, none⟩ = some (.slice l27.a l27.len l27.cap) ∧ ∃ l28 : Sl, w25.cell? ⟨ib, 2, none⟩ = some (.slice l28.a l28.len l28.cap) ∧ ∃ l29 : Sl, w25.cell? ⟨ib, 3, none⟩ = some (.slice l29.a l29.len l29.cap) ∧ ∃ n30 : Int, w25.cell? ⟨rb, 0, none⟩ = some (.int .i64 n30) ∧ ∃ n31 : Int, w25.cell? ⟨rb, 1, none⟩ = some (.int .i64 n31) ∧ ∃ l32 : Sl, w25.cell? ⟨rb, 2, none⟩ = some (.slice l32.a l32.len l32.cap) ∧ ∃ n33 : Int, w25.cell? ⟨rb, 3, none⟩ = some (.int .i64 n33) ∧ KS w0 F res (.tuple #[.agg #[.int .i64 n26, .slice l27.a l27.len l27.cap, .slice l28.a l28.len l28.cap, .slice l29.a l29.len l29.cap], .agg #[.int .i64 n30, .int .i64 n31, .slice l32.a l32.len l32.cap, .int .i64 n33]]) w25) := by
  refine hc.mono ?_
  rintro _ w15 ⟨tp, tc, tq, t, r, rfl, hr, h⟩
  have h : SH w0 w15 (rD t res.2.Data :: rP tp r.Ports :: bP r.Ports :: rC tc r.Caps :: rQ tq r.Pipes :: bQ r.Pipes :: BR rb c0 n0 t0 f0 :: BI ib m0 a0 b0 d0 :: (X ++ F)) := h
  refine ⟨_, tp, tc, tq, _, _, t, _, rfl, ?_⟩
  refine h.put 7 rfl rfl rfl (fun w24 h n24 => ?_)
  refine h.put 6 rfl rfl rfl (fun w25 h n25 => ?_)
  refine ⟨_, h.cell 7 rfl rfl, tp, h.cell 7 rfl rfl, tc, h.cell 7 rfl rfl, tq, h.cell 7 rfl rfl, _, h.cell 6 rfl rfl, _, h.cell 6 rfl rfl, t, h.cell 6 rfl rfl, _, h.cell 6 rfl rfl, ?_⟩
  have h := (h.dropAt 7).dropAt 6
  have h : SH w0 w25 ([rD t res.2.Data, rP tp r.Ports, bP r.Ports, rC tc r.Caps, rQ tq r.Pipes, bQ r.Pipes] ++ (X ++ F)) := h
  have h2 : SH w0 w25 (X ++ ([rD t res.2.Data, rP tp r.Ports, bP r.Ports, rC tc r.Caps, rQ tq r.Pipes, bQ r.Pipes] ++ F)) := h.perm (by
    have := (List.perm_append_comm (l₁ := [rD t res.2.Data, rP tp r.Ports, bP r.Ports, rC tc r.Caps, rQ tq r.Pipes, bQ r.Pipes]) (l₂ := X)).append_right F
    rw [List.append_assoc, List.append_assoc] at this
    exact this)
  exact ⟨tp, tc, tq, t, r, rfl, hr, SH.dropL h2⟩
theorem getM {M : List Asr} {A B C : Asr} {G : List Asr} : (A :: B :: (M ++ (C :: G)))[M.length + 2]? = some C := by
  simp
/-- An answer that tells what is wrong. -/
theorem errS {w0 w : World} {F M : List Asr} {rb ib b : Nat} {r : RIpc} {tp tc tq : Sl} {n : Int} {res : IRes} (hres : res = (r.abs, resE n))
    (h : SH w0 w (BR rb 0 0 N0 0 :: BI ib 0 N0 N0 N0 :: (M ++ (BI b r.Next tp tc tq :: (sP tp tc tq r ++ F))))) :
    ∃ n10 : Int, w.cell? ⟨b, 0, none⟩ = some (.int .i64 n10) ∧ ∃ l11 : Sl, w.cell? ⟨b, 1, none⟩ = some (.slice l11.a l11.len l11.cap) ∧ ∃ l12 : Sl, w.cell? ⟨b, 2, none⟩ = some (.slice l12.a l12.len l12.cap) ∧ ∃ l13 : Sl, w.cell? ⟨b, 3, none⟩ = some (.slice l13.a l13.len l13.cap) ∧ CallW Try.prog 95 #[.agg #[.int .i64 n10, .slice l11.a l11.len l11.cap, .slice l12.a l12.len l12.cap, .slice l13.a l13.len l13.cap], .int .i64 n] w (fun v14 w15 => ∃ n16 : Int, ∃ l17 : Sl, ∃ l18 : Sl, ∃ l19 : Sl, ∃ n20 : Int, ∃ n21 : Int, ∃ l22 : Sl, ∃ n23 : Int, v14 = .tuple #[.agg #[.int .i64 n16, .slice l17.a l17.len l17.cap, .slice l18.a l18.len l18.cap, .slice l19.a l19.len l19.cap], .agg #[.int .i64 n20, .int .i64 n21, .slice l22.a l22.len l22.cap, .int .i64 n23]] ∧ MayN w15 ⟨ib, 0, none⟩ 4 ∧ LetW (puts w15 ⟨ib, 0, none⟩ 0 [.int .i64 n16, .slice l17.a l17.len l17.cap, .slice l18.a l18.len l18.cap, .slice l19.a l19.len l19.cap]) fun w24 => MayN w24 ⟨rb, 0, none⟩ 4 ∧ LetW (puts w24 ⟨rb, 0, none⟩ 0 [.int .i64 n20, .int .i64 n21, .slice l22.a l22.len l22.cap, .int .i64 n23]) fun w25 => ∃ n26 : Int, w25.cell? ⟨ib, 0, none⟩ = some (.int .i64 n26) ∧ ∃ l27 : Sl, w25.cell? ⟨ib, 1, none⟩ = some (.slice l27.a l27.len l27.cap) ∧ ∃ l28 : Sl, w25.cell? ⟨ib, 2, none⟩ = some (.slice l28.a l28.len l28.cap) ∧ ∃ l29 : Sl, w25.cell? ⟨ib, 3, none⟩ = some (.slice l29.a l29.len l29.cap) ∧ ∃ n30 : Int, w25.cell? ⟨rb, 0, none⟩ = some (.int .i64 n30) ∧ ∃ n31 : Int, w25.cell? ⟨rb, 1, none⟩ = some (.int .i64 n31) ∧ ∃ l32 : Sl, w25.cell? ⟨rb, 2, none⟩ = some (.slice l32.a l32.len l32.cap) ∧ ∃ n33 : Int, w25.cell? ⟨rb, 3, none⟩ = some (.int .i64 n33) ∧ KS w0 F res (.tuple #[.agg #[.int .i64 n26, .slice l27.a l27.len l27.cap, .slice l28.a l28.len l28.cap, .slice l29.a l29.len l29.cap], .agg #[.int .i64 n30, .int .i64 n31, .slice l32.a l32.len l32.cap, .int .i64 n33]]) w25) := by
  subst hres
  refine ⟨_, h.cell (M.length + 2) getM rfl, tp, h.cell (M.length + 2) getM rfl, tc, h.cell (M.length + 2) getM rfl, tq, h.cell (M.length + 2) getM rfl, ?_⟩
  refine retS (X := M ++ [BI b r.Next tp tc tq]) (c0 := 0) (n0 := 0) (f0 := 0) (m0 := 0) (t0 := N0) (a0 := N0) (b0 := N0) (d0 := N0) (s95 (r := r) ?_)
  refine h.perm ?_
  have := List.perm_append_comm (l₁ := BR rb 0 0 N0 0 :: BI ib 0 N0 N0 N0 :: (M ++ [BI b r.Next tp tc tq])) (l₂ := sP tp tc tq r)
  have := this.append_right F
  simpa using this
theorem s115 {w0 w : World} {F : List Asr} {tp tc tq td : Sl} {r : RIpc} {o : DIpcOp} {c : DCap} (h : SH w0 w (sP tp tc tq r ++ F)) (hn : 0 ≤ r.Next ∧ r.Next ≤ 1099511628800) (hf : r.Caps.length ≤ 1048576) :
    CallW Try.prog 115 #[iV r.Next tp tc tq, .agg ⟨opV o td⟩, .agg ⟨c.cells⟩] w (KS w0 F (giveI r.abs o c)) := by
  refine go115 (a0_0 := r.Next) (a0_1 := tp) (a0_2 := tc) (a0_3 := tq) (a1_0 := o.Kind) (a1_1 := o.Holder) (a1_2 := o.Id) (a1_3 := o.To) (a1_4 := o.Rights) (a1_5 := o.Cap) (a1_6 := o.N) (a1_7 := td) (a2_0 := c.Id) (a2_1 := c.Holder) (a2_2 := c.Port) (a2_3 := c.Rights) (a2_4 := c.Parent) ?_
  unfold W115
  have h : SH w0 w (rP tp r.Ports :: bP r.Ports :: rC tc r.Caps :: rQ tq r.Pipes :: bQ r.Pipes :: F) := h
  have hcl := h.len 2 rfl
  rw [recs_len] at hcl
  refine h.alloc (fun w1 h e1 n1 => ?_)
  refine h.alloc (fun w2 h e2 n2 => ?_)
  refine h.alloc (fun w3 h e3 n3 => ?_)
  refine h.alloc (fun w4 h e4 n4 => ?_)
  refine h.alloc (fun w5 h e5 n5 => ?_)
  have h : SH w0 w5 (BR w4.heap.size 0 0 N0 0 :: BI w3.heap.size 0 N0 N0 N0 :: BC w2.heap.size c :: BO w1.heap.size o td :: BI w.heap.size r.Next tp tc tq :: rP tp r.Ports :: bP r.Ports :: rC tc r.Caps :: rQ tq r.Pipes :: bQ r.Pipes :: F) := h
  generalize w4.heap.size = rb at *
  generalize w3.heap.size = ib at *
  generalize w2.heap.size = cb at *
  generalize w1.heap.size = ob at *
  generalize w.heap.size = b at *
  refine ⟨_, h.cell 3 rfl rfl, c84.mono ?_⟩
  rintro _ w8 ⟨rfl, rfl⟩
  refine ⟨_, rfl, ?_⟩
  refine JoinW.cut1 (fun (x : Bool) w' => x = decide (o.To < 0 ∨ 64 ≤ o.To ∨ o.Rights < 1) ∧ w' = w8) (BIf.of (fun hx => ⟨?_, rfl⟩) (fun hx => ⟨_, h.cell 3 rfl rfl, ?_, rfl⟩)) ?_
  · rw [Bool.eq_iff_iff]; simp at hx ⊢; omega
  · rw [Bool.eq_iff_iff]; simp at hx ⊢; omega
  rintro (x : Bool) w12 ⟨rfl, rfl⟩
  refine JoinW.cut1 (fun (x : Bool) w' => x = decide (o.To < 0 ∨ 64 ≤ o.To ∨ o.Rights < 1 ∨ 7 < o.Rights) ∧ w' = w12) (BIf.dec (fun hx => ⟨(decide_eq_true (by omega)).symm, rfl⟩) (fun hx => ⟨_, h.cell 3 rfl rfl, by rw [Bool.eq_iff_iff, decide_eq_true_iff, decide_eq_true_iff]; omega, rfl⟩)) ?_
  rintro (x : Bool) w15 ⟨rfl, rfl⟩
  refine BIf.dec (fun hbd => errS (M := [_, _]) (by unfold giveI; rw [if_pos hbd]) h) (fun hbd => ?_)
  refine ⟨_, h.cell 2 rfl rfl, c87.mono ?_⟩
  rintro _ w42 ⟨rfl, rfl⟩
  refine ⟨_, rfl, ?_⟩
  refine JoinW.cut1 (fun (x : Bool) w' => x = decide (amongB 4 c.Rights = false ∨ amongB o.Rights c.Rights = false) ∧ w' = w42) ?_ ?_
  · refine BIf.of (fun hx => ⟨(decide_eq_true (.inl (by simpa using hx))).symm, rfl⟩) (fun hx => ⟨_, h.cell 3 rfl rfl, _, h.cell 2 rfl rfl, c87.mono ?_⟩)
    rintro _ w130 ⟨rfl, rfl⟩
    refine ⟨_, rfl, ?_, rfl⟩
    rw [Bool.eq_iff_iff]
    simp at hx
    simp [hx]
  rintro (x : Bool) w46 ⟨rfl, rfl⟩
  refine BIf.dec (fun hpm => errS (M := [_, _]) (by unfold giveI; rw [if_neg hbd, if_pos hpm]) h) (fun hpm => ?_)
  refine ⟨tc, h.cell 4 rfl rfl, BIf.dec (fun hfull => errS (M := [_, _]) (by unfold giveI; rw [if_neg hbd, if_neg hpm, if_pos (by show 128 ≤ r.Caps.length; omega)]) h) (fun hfull => ?_)⟩
  have hres : giveI r.abs o c = (addCap r.abs o.To c.Port o.Rights c.Id, resN (r.Next + 1)) := by unfold giveI; rw [if_neg hbd, if_neg hpm, if_neg (by show ¬ 128 ≤ r.Caps.length; omega)]; rfl
  rw [hres]
  refine ⟨_, h.cell 4 rfl rfl, tp, h.cell 4 rfl rfl, tc, h.cell 4 rfl rfl, tq, h.cell 4 rfl rfl, _, h.cell 3 rfl rfl, _, h.cell 2 rfl rfl, _, h.cell 3 rfl rfl, _, h.cell 2 rfl rfl, ?_⟩
  refine (s96 ((((((((h.front (n := 6) rfl).front (n := 6) rfl).front (n := 6) rfl).front (n := 6) rfl).front (n := 6) rfl).front (n := 6) rfl).front (n := 6) rfl).front (n := 7) rfl) hn.1 hn.2 hf).mono ?_
  rintro _ w105 ⟨tc2, rfl, h⟩
  refine ⟨_, tp, tc2, tq, rfl, ?_⟩
  refine h.put 5 rfl rfl rfl (fun w110 h n110 => ?_)
  have h := h.drew
  refine ⟨_, h.cell 5 rfl rfl, tp, h.cell 5 rfl rfl, tc2, h.cell 5 rfl rfl, tq, h.cell 5 rfl rfl, _, h.cell 5 rfl rfl, ?_⟩
  refine h.put 2 rfl rfl rfl (fun w116 h n116 => ?_)
  refine ⟨⟨_, h.cell 5 rfl rfl, rfl⟩, ?_⟩
  refine h.put 1 rfl rfl rfl (fun w118 h n118 => ?_)
  refine ⟨_, h.cell 2 rfl rfl, tp, h.cell 2 rfl rfl, tc2, h.cell 2 rfl rfl, tq, h.cell 2 rfl rfl, _, h.cell 1 rfl rfl, _, h.cell 1 rfl rfl, N0, h.cell 1 rfl rfl, _, h.cell 1 rfl rfl, ?_⟩
  have h := (((((((((h.dropAt 5).dropAt 4).dropAt 3).dropAt 2).dropAt 1).front (n := 0) rfl).front (n := 2) rfl).front (n := 2) rfl)).nil none 1
  refine ⟨tp, tc2, tq, N0, ⟨r.Next + 1, r.Ports, r.Caps ++ [⟨r.Next + 1, o.To, c.Port, o.Rights, c.Id⟩], r.Pipes⟩, rfl, rfl, ?_⟩
  exact h
end Go.Proofs.Ytbimoajgofcmbaa

/- Ports, capabilities, pipes: the reference's Send. Conditions: none. -/
set_option linter.unusedVariables false
set_option linter.unusedSimpArgs false
namespace Go.Proofs.Ytbimoajgofcmbaa
open Go Go.Den
set_option maxHeartbeats 2000000 in
theorem s117 {w0 w : World} {F : List Asr} {tp tc tq td : Sl} {r : RIpc} {o : DIpcOp} {c : DCap} {k0 : Nat} (h : SH w0 w (sP tp tc tq r ++ F)) (hw : IWf r.abs) (hi : IOk r.abs) (hb : LentB w0 F td o.Data) (hbs : o.Data.length ≤ 1048576) (c2 : r.abs.Caps[k0]? = some c) :
    CallW Try.prog 117 #[iV r.Next tp tc tq, .agg ⟨opV o td⟩, .agg ⟨c.cells⟩] w (KS w0 F (sendI r.abs o c)) := by
  refine go117 (a0_0 := r.Next) (a0_1 := tp) (a0_2 := tc) (a0_3 := tq) (a1_0 := o.Kind) (a1_1 := o.Holder) (a1_2 := o.Id) (a1_3 := o.To) (a1_4 := o.Rights) (a1_5 := o.Cap) (a1_6 := o.N) (a1_7 := td) (a2_0 := c.Id) (a2_1 := c.Holder) (a2_2 := c.Port) (a2_3 := c.Rights) (a2_4 := c.Parent) ?_
  unfold W117
  have h : SH w0 w (rP tp r.Ports :: bP r.Ports :: rC tc r.Caps :: rQ tq r.Pipes :: bQ r.Pipes :: F) := h
  have hfc : r.Caps.length ≤ 128 := hi.caps
  have hfp : r.Ports.length ≤ 32 := by rw [← abs_ports]; exact hi.ports
  have hdl := hb.len
  have htp := h.len 0 rfl
  have hcl := h.len 2 rfl
  rw [recs_len] at hcl htp
  refine h.alloc (fun w1 h e1 n1 => ?_)
  refine h.alloc (fun w2 h e2 n2 => ?_)
  refine h.alloc (fun w3 h e3 n3 => ?_)
  refine h.alloc (fun w4 h e4 n4 => ?_)
  refine h.alloc (fun w5 h e5 n5 => ?_)
  have h : SH w0 w5 (BR w4.heap.size 0 0 N0 0 :: BI w3.heap.size 0 N0 N0 N0 :: BC w2.heap.size c :: BO w1.heap.size o td :: BI w.heap.size r.Next tp tc tq :: rP tp r.Ports :: bP r.Ports :: rC tc r.Caps :: rQ tq r.Pipes :: bQ r.Pipes :: F) := h
  generalize w4.heap.size = rb at *
  generalize w3.heap.size = ib at *
  generalize w2.heap.size = cb at *
  generalize w1.heap.size = ob at *
  generalize w.heap.size = b at *
  refine ⟨_, h.cell 2 rfl rfl, c87.mono ?_⟩
  rintro _ w8 ⟨rfl, rfl⟩
  refine ⟨_, rfl, ?_⟩
  refine BIf.of (fun hx => errS (M := [_, _]) (by unfold sendI; rw [if_pos (by simpa using hx)]) h) (fun hx => ?_)
  have ha1 : ¬ amongB 1 c.Rights = false := by simpa using hx
  refine ⟨td, h.cell 3 rfl rfl, BIf.dec (fun hl => errS (M := [_, _]) (by unfold sendI; rw [if_neg ha1, if_pos (by omega)]) h) (fun hl => ?_)⟩
  refine JoinW.cut0 (fun w' => sendI r.abs o c = pushI r.abs o c ∧ SH w0 w' (BR rb 0 0 N0 0 :: BI ib 0 N0 N0 N0 :: BC cb c :: BO ob o td :: BI b r.Next tp tc tq :: rP tp r.Ports :: bP r.Ports :: rC tc r.Caps :: rQ tq r.Pipes :: bQ r.Pipes :: F)) ?_ ?_
  · have hat : IpcAt w8 tp tc tq r.abs := ipc_at (F := F) (SH.drop (SH.drop (SH.drop (SH.drop (SH.drop h))))) hw
    refine ⟨_, h.cell 3 rfl rfl, BIf.ne (fun hc0 => ?_) (fun hc0 => ⟨by unfold sendI; rw [if_neg ha1, if_neg (by omega), if_neg (by omega)], h⟩)⟩
    refine ⟨_, h.cell 4 rfl rfl, tp, h.cell 4 rfl rfl, tc, h.cell 4 rfl rfl, tq, h.cell 4 rfl rfl, _, h.cell 3 rfl rfl, (c86 hat).mono ?_⟩
    rintro _ w186 ⟨rfl, e186⟩
    have h := (h.to e186)
    refine ⟨_, rfl, ?_⟩
    rcases capIx_cases r.abs o.Cap with ⟨e1, e2, e3⟩ | ⟨k2, c', e1, e2, e3, e4⟩
    · rw [e1]
      have h := h.drew
      refine JoinW.cut1 (fun (x : Bool) w' => x = true ∧ w' = w186.drew) (BIf.t rfl ⟨rfl, rfl⟩) ?_
      rintro (x : Bool) w190 ⟨rfl, rfl⟩
      exact BIf.t rfl (errS (M := [_, _]) (by unfold sendI; rw [if_neg ha1, if_neg (by omega), if_pos hc0, e2]) h)
    · have e2 : r.Caps[k2]? = some c' := e2
      have hlk : k2 < r.Caps.length := (List.getElem?_eq_some_iff.1 e2).1
      have h := h.drew
      obtain ⟨q, hq⟩ := h.rowQ 7 rfl e2
      rw [e1]
      simp only [Int.toNat_natCast]
      refine JoinW.cut1 (fun (x : Bool) w' => x = (c'.Holder != o.Holder) ∧ w' = w186.drew) (BIf.f (by simp) ⟨tc, h.cell 4 rfl rfl, by omega, by omega, q, hq, _, h.rdR 7 rfl hq e2 rfl, _, h.cell 3 rfl rfl, rfl, rfl⟩) ?_
      rintro (x : Bool) w190 ⟨rfl, rfl⟩
      refine BIf.ne (fun hh => errS (M := [_, _]) (by unfold sendI; rw [if_neg ha1, if_neg (by omega), if_pos hc0, e3]; exact if_pos hh) h) (fun hh => ?_)
      refine ⟨tc, h.cell 4 rfl rfl, by omega, by omega, q, hq, _, h.rdR 7 rfl hq e2 rfl, c87.mono ?_⟩
      rintro _ w219 ⟨rfl, rfl⟩
      refine ⟨_, rfl, ?_⟩
      refine BIf.of (fun hx4 => errS (M := [_, _]) (by unfold sendI; rw [if_neg ha1, if_neg (by omega), if_pos hc0, e3]; dsimp only; rw [if_neg (by omega), if_pos (by simpa using hx4)]) h) (fun hx4 => ⟨?_, h⟩)
      unfold sendI; rw [if_neg ha1, if_neg (by omega), if_pos hc0, e3]; dsimp only; rw [if_neg (by omega), if_neg (by simpa using hx4)]
  clear h
  rintro w60 ⟨hst2, h⟩
  refine LoopW.m2 (fun (bb : Bool) (i : Int) w' => ∃ k : Nat, i = k ∧ k ≤ r.Caps.length ∧ bb = (r.Caps.take k).any (fun x => x.Port == c.Port && amongB 2 x.Rights) ∧ SH w0 w' (BR rb 0 0 N0 0 :: BI ib 0 N0 N0 N0 :: BC cb c :: BO ob o td :: BI b r.Next tp tc tq :: rP tp r.Ports :: bP r.Ports :: rC tc r.Caps :: rQ tq r.Pipes :: bQ r.Pipes :: F)) (fun _ (i : Int) _ => (r.Caps.length - i).toNat) ⟨0, rfl, by omega, rfl, h⟩ ?_
  clear h
  rintro (bb : Bool) (i : Int) wl ⟨k, rfl, hk, hbb, h⟩ J hJ
  refine ⟨tc, h.cell 4 rfl rfl, BIf.dec (fun hlt => ?_) (fun hge => ?_)⟩
  · have hget : r.Caps[k]? = some r.Caps[k] := List.getElem?_eq_getElem (by omega)
    generalize r.Caps[k] = y at *
    have hany := any_snoc (fun x : DCap => x.Port == c.Port && amongB 2 x.Rights) hget
    have h := h.drew
    obtain ⟨q, hq⟩ := h.rowQ 7 rfl hget
    simp only [Int.toNat_natCast]
    rw [w64 (n := (k : Int) + 1) (by omega) (by omega)]
    refine BIf.of (fun hx => hJ _ _ _ ⟨k + 1, by omega, by omega, by rw [hany, ← hbb, hx]; rfl, h⟩ (by omega)) (fun hx => ?_)
    refine ⟨tc, h.cell 4 rfl rfl, by omega, by omega, q, hq, _, h.rdR 7 rfl hq hget rfl, _, h.cell 2 rfl rfl, ?_⟩
    refine BIf.of (fun he => ?_) (fun he => hJ _ _ _ ⟨k + 1, by omega, by omega, by rw [hany, ← hbb, hx, he]; rfl, h⟩ (by omega))
    refine ⟨tc, h.cell 4 rfl rfl, by omega, by omega, q, hq, _, h.rdR 7 rfl hq hget rfl, c87.mono ?_⟩
    rintro _ w74 ⟨rfl, rfl⟩
    refine ⟨_, rfl, ?_⟩
    exact hJ _ _ _ ⟨k + 1, by omega, by omega, by rw [hany, ← hbb, hx, he]; rfl, h⟩ (by omega)
  have hke : k = r.Caps.length := by omega
  rw [hke, List.take_length] at hbb
  have hbb : bb = heardB r.abs c := hbb
  subst hbb
  clear hJ
  refine BIf.of (fun hhd => errS (M := [_, _]) (by rw [hst2]; unfold pushI; rw [if_pos (by simpa using hhd)]) h) (fun hhd => ?_)
  have hhd2 : ¬ heardB r.abs c = false := by simpa using hhd
  have hat2 : IpcAt wl tp tc tq r.abs := ipc_at (F := F) (SH.drop (SH.drop (SH.drop (SH.drop (SH.drop h))))) hw
  refine ⟨_, h.cell 4 rfl rfl, tp, h.cell 4 rfl rfl, tc, h.cell 4 rfl rfl, tq, h.cell 4 rfl rfl, _, h.cell 2 rfl rfl, (c85 hat2).mono ?_⟩
  rintro _ w106 ⟨rfl, e106⟩
  have h := h.to e106
  refine ⟨_, rfl, ?_⟩
  rcases portIx_cases r.abs c.Port with ⟨e1, e2, e3⟩ | ⟨kp, P, e1, e2, e3, e4⟩
  · have := (hi.cap k0 c c2).port
    omega
  obtain ⟨x, hx, rfl⟩ := map_get e2
  have hx : r.Ports[kp]? = some x := hx
  have hlk : kp < r.Ports.length := (List.getElem?_eq_some_iff.1 hx).1
  have hq8 : x.Q.length ≤ 8 := by have := (hi.port kp x.abs e2).few; have e : x.abs.Queue.length = x.Q.length := List.length_map ..; omega
  obtain ⟨q, hq⟩ := h.rowQ 5 rfl hx
  rw [e1]
  simp only [Int.toNat_natCast]
  refine ⟨tp, h.cell 4 rfl rfl, by omega, by omega, q, hq, x.q, h.rdR 5 rfl hq hx rfl, ?_⟩
  have g : SH w0 w106 (rM x.q x.Q :: bM x.Q :: bP (r.Ports.eraseIdx kp) :: BR rb 0 0 N0 0 :: BI ib 0 N0 N0 N0 :: BC cb c :: BO ob o td :: BI b r.Next tp tc tq :: rP tp r.Ports :: rC tc r.Caps :: rQ tq r.Pipes :: bQ r.Pipes :: F) := SH.allOut (As := [rM x.q x.Q, bM x.Q]) (((((((((h.front (n := 5) rfl).front (n := 5) rfl).front (n := 5) rfl).front (n := 5) rfl).front (n := 5) rfl).front (n := 5) rfl).front (n := 6) rfl)).bagOut hx)
  have hql := g.len 0 rfl
  rw [recs_len] at hql
  have hqa : x.abs.Queue.length = x.Q.length := List.length_map ..
  refine BIf.dec (fun h8 => errS (M := [_, _]) (by rw [hst2]; unfold pushI; rw [if_neg hhd2, e3]; exact if_pos (by omega)) h) (fun h8 => ?_)
  have hres : sendI r.abs o c = (setQ r.abs kp x.abs (x.abs.Queue ++ [⟨o.Holder, o.Data, o.Cap⟩]), resN 0) := by
    rw [hst2]; unfold pushI; rw [if_neg hhd2, e3, e1, Int.toNat_natCast]; exact if_neg (by omega)
  rw [hres]
  clear h
  have g := g.drew
  refine ⟨tp, g.cell 7 rfl rfl, tp, g.cell 7 rfl rfl, by omega, by omega, q, hq, x.q, g.rdR 8 rfl hq hx rfl, _, g.cell 6 rfl rfl, td, g.cell 6 rfl rfl, _, g.cell 6 rfl rfl, ?_⟩
  refine g.alloc (fun w142 g e142 n142 => ?_)
  refine ⟨⟨_, g.cell 7 rfl rfl, rfl⟩, ⟨td, g.cell 7 rfl rfl, rfl⟩, ⟨_, g.cell 7 rfl rfl, rfl⟩, ⟨x.q, g.rdR 9 rfl hq hx rfl, rfl⟩, ⟨tp, g.cell 8 rfl rfl, rfl⟩, ⟨tp, g.cell 8 rfl rfl, rfl⟩, ?_⟩
  refine SH.appendN (k := .u8) (m := []) (us := o.Data) (g.drop.nil (some ⟨w106.drew.heap.size, 0, none⟩) 1) (hb.row g (by first | exact ⟨[_, _, _, _], rfl⟩ | exact ⟨[_, _, _, _, _], rfl⟩ | exact ⟨[_, _, _, _, _, _], rfl⟩ | exact ⟨[_, _, _, _, _, _, _], rfl⟩ | exact ⟨[_, _, _, _, _, _, _, _], rfl⟩ | exact ⟨[_, _, _, _, _, _, _, _, _], rfl⟩ | exact ⟨[_, _, _, _, _, _, _, _, _, _], rfl⟩ | exact ⟨[_, _, _, _, _, _, _, _, _, _, _], rfl⟩ | exact ⟨[_, _, _, _, _, _, _, _, _, _, _, _], rfl⟩ | exact ⟨[_, _, _, _, _, _, _, _, _, _, _, _, _], rfl⟩ | exact ⟨[_, _, _, _, _, _, _, _, _, _, _, _, _, _], rfl⟩ | exact ⟨[_, _, _, _, _, _, _, _, _, _, _, _, _, _, _], rfl⟩ | exact ⟨[_, _, _, _, _, _, _, _, _, _, _, _, _, _, _, _], rfl⟩ | exact ⟨[_, _, _, _, _, _, _, _, _, _, _, _, _, _, _, _, _], rfl⟩ | exact ⟨[_, _, _, _, _, _, _, _, _, _, _, _, _, _, _, _, _, _], rfl⟩ | exact ⟨[_, _, _, _, _, _, _, _, _, _, _, _, _, _, _, _, _, _, _], rfl⟩ | exact ⟨[_, _, _, _, _, _, _, _, _, _, _, _, _, _, _, _, _, _, _, _], rfl⟩ | exact ⟨[_, _, _, _, _, _, _, _, _, _, _, _, _, _, _, _, _, _, _, _, _], rfl⟩)) rfl rfl (by decide) (by show (_ + _) * 1 ≤ _; simp; omega) (fun t149 w150 g ht149 _ => ?_)
  refine ⟨⟨_, g.cell 7 rfl rfl, rfl⟩, ⟨_, g.cell 7 rfl rfl, rfl⟩, ⟨x.q, g.rdR 9 rfl hq hx rfl, rfl⟩, ⟨tp, g.cell 8 rfl rfl, rfl⟩, ⟨tp, g.cell 8 rfl rfl, rfl⟩, ?_⟩
  refine g.alloc (fun w156 g e156 n156 => ?_)
  have hrow : RowAt w156 (some ⟨w150.heap.size, 0, none⟩) (1 * 3) ([(⟨o.Holder, t149, o.Cap, o.Data⟩ : RMsg)].flatMap RMsg.cells) := row_one (g.blkAt 0 rfl) rfl
  refine ⟨⟨x.q, g.rdR 10 rfl hq hx rfl, rfl⟩, ⟨tp, g.cell 9 rfl rfl, rfl⟩, ⟨tp, g.cell 9 rfl rfl, rfl⟩, ?_⟩
  refine SH.appendR (f := RMsg.cells) (us := [⟨o.Holder, t149, o.Cap, o.Data⟩]) (g.drop.p1) hrow rfl (fun _ => rfl) rfl rfl (by decide) (by show (_ + _) * 40 ≤ _; simp; omega) plain_msg (fun q2 w161 g hq2l _ => ?_)
  refine ⟨⟨tp, g.cell 8 rfl rfl, rfl⟩, by omega, by omega, q, hq, ?_⟩
  have g : SH w0 w161 (rM q2 (x.Q ++ [⟨o.Holder, t149, o.Cap, o.Data⟩]) :: rD t149 o.Data :: bM x.Q :: bP (r.Ports.eraseIdx kp) :: BR rb 0 0 N0 0 :: BI ib 0 N0 N0 N0 :: BC cb c :: BO ob o td :: BI b r.Next tp tc tq :: rP tp (r.Ports.set kp x) :: rC tc r.Caps :: rQ tq r.Pipes :: bQ r.Pipes :: F) := by rw [← set_at hx]; exact g
  refine g.setR 9 (⟨x.Id, q2, x.Q ++ [⟨o.Holder, t149, o.Cap, o.Data⟩]⟩ : RPort) rfl hq hlk (by show 1 < 2; omega) rfl (fun w164 g n164 => ?_)
  have g : SH w0 w164 (rM q2 (x.Q ++ [⟨o.Holder, t149, o.Cap, o.Data⟩]) :: rD t149 o.Data :: bM x.Q :: bP (r.Ports.eraseIdx kp) :: BR rb 0 0 N0 0 :: BI ib 0 N0 N0 N0 :: BC cb c :: BO ob o td :: BI b r.Next tp tc tq :: rP tp (r.Ports.set kp ⟨x.Id, q2, x.Q ++ [⟨o.Holder, t149, o.Cap, o.Data⟩]⟩) :: rC tc r.Caps :: rQ tq r.Pipes :: bQ r.Pipes :: F) := g
  refine ⟨_, g.cell 8 rfl rfl, tp, g.cell 8 rfl rfl, tc, g.cell 8 rfl rfl, tq, g.cell 8 rfl rfl, ?_⟩
  refine g.put 5 rfl rfl rfl (fun w169 g n169 => ?_)
  refine g.put 4 rfl rfl rfl (fun w170 g n170 => ?_)
  refine ⟨_, g.cell 5 rfl rfl, tp, g.cell 5 rfl rfl, tc, g.cell 5 rfl rfl, tq, g.cell 5 rfl rfl, _, g.cell 4 rfl rfl, _, g.cell 4 rfl rfl, N0, g.cell 4 rfl rfl, _, g.cell 4 rfl rfl, ?_⟩
  have g : SH w0 w170 (rM q2 (x.Q ++ [⟨o.Holder, t149, o.Cap, o.Data⟩]) :: rD t149 o.Data :: bM x.Q :: bP (r.Ports.eraseIdx kp) :: BR rb 0 0 N0 0 :: BI ib r.Next tp tc tq :: BC cb c :: BO ob o td :: BI b r.Next tp tc tq :: rP tp (r.Ports.set kp ⟨x.Id, q2, x.Q ++ [⟨o.Holder, t149, o.Cap, o.Data⟩]⟩) :: rC tc r.Caps :: rQ tq r.Pipes :: bQ r.Pipes :: F) := g
  have g := SH.bagSnoc (f := msgA) (x := (⟨o.Holder, t149, o.Cap, o.Data⟩ : RMsg)) (((g.front (n := 0) rfl).front (n := 2) rfl).front (n := 2) rfl)
  have g := SH.bagIn (f := portA) (y := (⟨x.Id, q2, x.Q ++ [⟨o.Holder, t149, o.Cap, o.Data⟩]⟩ : RPort)) hx (SH.allIn (As := [rM q2 (x.Q ++ [⟨o.Holder, t149, o.Cap, o.Data⟩]), bM (x.Q ++ [⟨o.Holder, t149, o.Cap, o.Data⟩])]) g.p1)
  have g := ((((((((g.dropAt 5).dropAt 4).dropAt 3).dropAt 2).dropAt 1).front (n := 0) rfl).front (n := 1) rfl)).nil none 1
  refine ⟨tp, tc, tq, N0, ⟨r.Next, r.Ports.set kp ⟨x.Id, q2, x.Q ++ [⟨o.Holder, t149, o.Cap, o.Data⟩]⟩, r.Caps, r.Pipes⟩, rfl, ?_, ?_⟩
  · unfold RIpc.abs setQ
    rw [List.map_set]
    unfold RPort.abs
    rw [List.map_append]
    rfl
  · exact g
end Go.Proofs.Ytbimoajgofcmbaa

/- Ports, capabilities, pipes: the reference's Receive. Conditions: none. -/
set_option linter.unusedVariables false
set_option linter.unusedSimpArgs false
namespace Go.Proofs.Ytbimoajgofcmbaa
open Go Go.Den
theorem wf_setQ {d : DIpc} {k : Nat} {p : DPort} {q : List DMsg} (h : IWf d) (hq : ∀ m, m ∈ q → Byts m.Data) (hl : q.length ≤ 1048576) : IWf (setQ d k p q) := by
  refine ⟨fun x hx m hm => ?_, h.pipes, ⟨h.pw.pipes⟩, ⟨h.few.1, by show (d.Ports.set k _).length ≤ _; rw [List.length_set]; exact h.few.2.1, h.few.2.2⟩, fun x hx => ?_⟩
  · rcases List.mem_or_eq_of_mem_set hx with hx | rfl
    · exact h.msgs x hx m hm
    · exact hq m hm
  · rcases List.mem_or_eq_of_mem_set hx with hx | rfl
    · exact h.queues x hx
    · exact hl
set_option maxHeartbeats 2000000 in
theorem s118 {w0 w : World} {F : List Asr} {tp tc tq td : Sl} {r : RIpc} {o : DIpcOp} {c : DCap} {k0 : Nat} (h : SH w0 w (sP tp tc tq r ++ F)) (hw : IWf r.abs) (hi : IOk r.abs) (c2 : r.abs.Caps[k0]? = some c) :
    CallW Try.prog 118 #[iV r.Next tp tc tq, .agg ⟨opV o td⟩, .agg ⟨c.cells⟩] w (KS w0 F (recvI r.abs o c)) := by
  refine go118 (a0_0 := r.Next) (a0_1 := tp) (a0_2 := tc) (a0_3 := tq) (a1_0 := o.Kind) (a1_1 := o.Holder) (a1_2 := o.Id) (a1_3 := o.To) (a1_4 := o.Rights) (a1_5 := o.Cap) (a1_6 := o.N) (a1_7 := td) (a2_0 := c.Id) (a2_1 := c.Holder) (a2_2 := c.Port) (a2_3 := c.Rights) (a2_4 := c.Parent) ?_
  unfold W118
  have h : SH w0 w (rP tp r.Ports :: bP r.Ports :: rC tc r.Caps :: rQ tq r.Pipes :: bQ r.Pipes :: F) := h
  have hnx : 0 ≤ r.Next ∧ r.Next ≤ 1099511627776 := hi.next
  have hfc : r.Caps.length ≤ 128 := hi.caps
  have hfp : r.Ports.length ≤ 32 := by rw [← abs_ports]; exact hi.ports
  have htp := h.len 0 rfl
  have hcl := h.len 2 rfl
  rw [recs_len] at hcl htp
  refine h.alloc (fun w1 h e1 n1 => ?_)
  refine h.alloc (fun w2 h e2 n2 => ?_)
  refine h.alloc (fun w3 h e3 n3 => ?_)
  refine h.alloc (fun w4 h e4 n4 => ?_)
  refine h.alloc (fun w5 h e5 n5 => ?_)
  have h : SH w0 w5 (BR w4.heap.size 0 0 N0 0 :: BI w3.heap.size 0 N0 N0 N0 :: BC w2.heap.size c :: BO w1.heap.size o td :: BI w.heap.size r.Next tp tc tq :: rP tp r.Ports :: bP r.Ports :: rC tc r.Caps :: rQ tq r.Pipes :: bQ r.Pipes :: F) := h
  generalize w4.heap.size = rb at *
  generalize w3.heap.size = ib at *
  generalize w2.heap.size = cb at *
  generalize w1.heap.size = ob at *
  generalize w.heap.size = b at *
  refine ⟨_, h.cell 2 rfl rfl, c87.mono ?_⟩
  rintro _ w8 ⟨rfl, rfl⟩
  refine ⟨_, rfl, ?_⟩
  refine BIf.of (fun hx => errS (M := [_, _]) (by unfold recvI; rw [if_pos (by simpa using hx)]) h) (fun hx => ?_)
  have ha2 : ¬ amongB 2 c.Rights = false := by simpa using hx
  have hat : IpcAt w8 tp tc tq r.abs := ipc_at (F := F) (SH.drop (SH.drop (SH.drop (SH.drop (SH.drop h))))) hw
  refine ⟨_, h.cell 4 rfl rfl, tp, h.cell 4 rfl rfl, tc, h.cell 4 rfl rfl, tq, h.cell 4 rfl rfl, _, h.cell 2 rfl rfl, (c85 hat).mono ?_⟩
  rintro _ w40 ⟨rfl, e40⟩
  have h := h.to e40
  refine ⟨_, rfl, ?_⟩
  rcases portIx_cases r.abs c.Port with ⟨e1, e2, e3⟩ | ⟨kp, P, e1, e2, e3, e4⟩
  · have := (hi.cap k0 c c2).port
    omega
  obtain ⟨x, hx, rfl⟩ := map_get e2
  have hx : r.Ports[kp]? = some x := hx
  have hlk : kp < r.Ports.length := (List.getElem?_eq_some_iff.1 hx).1
  have hq8 : x.Q.length ≤ 8 := by have := (hi.port kp x.abs e2).few; have e : x.abs.Queue.length = x.Q.length := List.length_map ..; omega
  obtain ⟨q, hq⟩ := h.rowQ 5 rfl hx
  rw [e1]
  simp only [Int.toNat_natCast]
  refine ⟨tp, h.cell 4 rfl rfl, by omega, by omega, q, hq, x.q, h.rdR 5 rfl hq hx rfl, ?_⟩
  have g : SH w0 w40 (rM x.q x.Q :: bM x.Q :: bP (r.Ports.eraseIdx kp) :: BR rb 0 0 N0 0 :: BI ib 0 N0 N0 N0 :: BC cb c :: BO ob o td :: BI b r.Next tp tc tq :: rP tp r.Ports :: rC tc r.Caps :: rQ tq r.Pipes :: bQ r.Pipes :: F) := SH.allOut (As := [rM x.q x.Q, bM x.Q]) (((((((((h.front (n := 5) rfl).front (n := 5) rfl).front (n := 5) rfl).front (n := 5) rfl).front (n := 5) rfl).front (n := 5) rfl).front (n := 6) rfl)).bagOut hx)
  have hql := g.len 0 rfl
  have hqc := g.lenCap 0 rfl
  rw [recs_len] at hql
  have hqa : x.abs.Queue = x.Q.map RMsg.abs := rfl
  refine BIf.eq (fun h0 => errS (M := [_, _]) (by
    have : x.Q = [] := List.eq_nil_of_length_eq_zero (by omega)
    unfold recvI; rw [if_neg ha2, e3]; dsimp only; rw [hqa, this]; rfl) h) (fun h0 => ?_)
  clear h
  obtain ⟨m, rest, hQ⟩ : ∃ m rest, x.Q = m :: rest := by
    cases hxq : x.Q with
    | nil => rw [hxq] at hql; simp at hql; omega
    | cons m rest => exact ⟨m, rest, rfl⟩
  have hm0 : x.Q[0]? = some m := by rw [hQ]; rfl
  have hmok := (hi.port kp x.abs e2).msgs m.abs (List.mem_map.2 ⟨m, by rw [hQ]; simp, rfl⟩)
  have hmcap : 0 ≤ m.Cap := hmok.2.2.2.1
  have hmby := hw.msgs x.abs (List.mem_of_getElem? e2) m.abs (List.mem_map.2 ⟨m, by rw [hQ]; simp, rfl⟩)
  have hmbl : m.Data.length ≤ 1048576 := hmby.few
  obtain ⟨qm, hqm⟩ := g.rowQ 0 rfl hm0
  refine ⟨tp, g.cell 7 rfl rfl, by omega, by omega, q, hq, x.q, g.rdR 8 rfl hq hx rfl, by omega, by omega, qm, hqm, _, g.rdR 0 rfl hqm hm0 rfl, m.D, g.rdR 0 rfl hqm hm0 rfl, _, g.rdR 0 rfl hqm hm0 rfl, ?_⟩
  refine g.alloc (fun w76 g e76 n76 => ?_)
  refine g.put 0 rfl rfl rfl (fun w77 g n77 => ?_)
  generalize w40.heap.size = mb at *
  have g : SH w0 w77 (aB mb (m.cells.map Ce.v) :: rM x.q x.Q :: bM x.Q :: bP (r.Ports.eraseIdx kp) :: BR rb 0 0 N0 0 :: BI ib 0 N0 N0 N0 :: BC cb c :: BO ob o td :: BI b r.Next tp tc tq :: rP tp r.Ports :: rC tc r.Caps :: rQ tq r.Pipes :: bQ r.Pipes :: F) := g
  have g := g.drew
  refine ⟨tp, g.cell 8 rfl rfl, tp, g.cell 8 rfl rfl, by omega, by omega, q, hq, x.q, g.rdR 9 rfl hq hx rfl, by omega, by omega, ?_⟩
  refine g.alloc (fun w82 g e82 n82 => ?_)
  refine ⟨⟨x.q, g.rdR 10 rfl hq hx rfl, rfl⟩, ⟨tp, g.cell 9 rfl rfl, rfl⟩, ⟨tp, g.cell 9 rfl rfl, rfl⟩, ?_⟩
  have hsuf := RowAt.suf (f := RMsg.cells) (z := 3) (i := 1) (fun _ => rfl) (g.rowR 2 rfl) hql hqc (by omega)
  refine SH.appendR (f := RMsg.cells) (l := []) (us := x.Q.drop 1) (g.drop.nil (some ⟨w77.drew.heap.size, 0, none⟩) 3) hsuf (by simp; omega) (fun _ => rfl) rfl rfl (by decide) (by show (_ + _) * 40 ≤ _; simp; omega) plain_msg (fun q2 w87 g hq2l _ => ?_)
  refine ⟨⟨tp, g.cell 9 rfl rfl, rfl⟩, by omega, by omega, q, hq, ?_⟩
  have hdr : x.Q.drop 1 = rest := by rw [hQ]; rfl
  have g : SH w0 w87 (rM q2 rest :: aB mb (m.cells.map Ce.v) :: rM x.q x.Q :: bM x.Q :: bP (r.Ports.eraseIdx kp) :: BR rb 0 0 N0 0 :: BI ib 0 N0 N0 N0 :: BC cb c :: BO ob o td :: BI b r.Next tp tc tq :: rP tp (r.Ports.set kp x) :: rC tc r.Caps :: rQ tq r.Pipes :: bQ r.Pipes :: F) := by rw [← set_at hx, ← hdr]; exact g
  refine g.setR 10 (⟨x.Id, q2, rest⟩ : RPort) rfl hq hlk (by show 1 < 2; omega) rfl (fun w90 g n90 => ?_)
  have g : SH w0 w90 (rM q2 rest :: aB mb (m.cells.map Ce.v) :: rM x.q x.Q :: bM x.Q :: bP (r.Ports.eraseIdx kp) :: BR rb 0 0 N0 0 :: BI ib 0 N0 N0 N0 :: BC cb c :: BO ob o td :: BI b r.Next tp tc tq :: rP tp (r.Ports.set kp ⟨x.Id, q2, rest⟩) :: rC tc r.Caps :: rQ tq r.Pipes :: bQ r.Pipes :: F) := g
  rw [hQ] at g
  have g := SH.bagUn ((((g.dropAt 2).front (n := 1) rfl).front (n := 1) rfl).front (n := 2) rfl)
  have g : SH w0 w90 (rD m.D m.Data :: bM rest :: rM q2 rest :: aB mb (m.cells.map Ce.v) :: bP (r.Ports.eraseIdx kp) :: BR rb 0 0 N0 0 :: BI ib 0 N0 N0 N0 :: BC cb c :: BO ob o td :: BI b r.Next tp tc tq :: rP tp (r.Ports.set kp ⟨x.Id, q2, rest⟩) :: rC tc r.Caps :: rQ tq r.Pipes :: bQ r.Pipes :: F) := g
  have g := SH.bagIn (f := portA) (y := (⟨x.Id, q2, rest⟩ : RPort)) hx (SH.allIn (As := [rM q2 rest, bM rest]) (((((g.front (n := 3) rfl).front (n := 1) rfl).front (n := 4) rfl).front (n := 3) rfl).front (n := 4) rfl))
  have g := (((((((((g.front (n := 0) rfl).front (n := 8) rfl).front (n := 8) rfl).front (n := 8) rfl).front (n := 8) rfl).front (n := 8) rfl).front (n := 8) rfl).front (n := 8) rfl).front (n := 8) rfl)
  have hrr : ∃ rr : RIpc, rr = ⟨r.Next, r.Ports.set kp ⟨x.Id, q2, rest⟩, r.Caps, r.Pipes⟩ := ⟨_, rfl⟩
  have habs : (⟨r.Next, r.Ports.set kp ⟨x.Id, q2, rest⟩, r.Caps, r.Pipes⟩ : RIpc).abs = setQ r.abs kp x.abs (rest.map RMsg.abs) := by
    unfold RIpc.abs setQ
    rw [List.map_set]
    rfl
  have hw2 : IWf (⟨r.Next, r.Ports.set kp ⟨x.Id, q2, rest⟩, r.Caps, r.Pipes⟩ : RIpc).abs := by
    rw [habs]
    refine wf_setQ hw (fun y hy => hw.msgs x.abs (List.mem_of_getElem? e2) y ?_) ?_
    · rw [hqa, hQ]; exact List.mem_cons_of_mem _ hy
    · rw [List.length_map]; rw [hQ] at hq8; simp at hq8; omega
  have hres : recvI r.abs o c = (match capOf r.abs m.abs.Cap with
        | none => (setQ r.abs kp x.abs (rest.map RMsg.abs), (⟨0, 0, m.abs.Data, m.abs.From⟩ : DIpcRes))
        | some x2 => if 0 < m.abs.Cap ∧ r.abs.Caps.length < 128 then (addCap (setQ r.abs kp x.abs (rest.map RMsg.abs)) o.Holder x2.Port x2.Rights m.abs.Cap, ⟨0, r.abs.Next + 1, m.abs.Data, m.abs.From⟩) else (setQ r.abs kp x.abs (rest.map RMsg.abs), ⟨0, 0, m.abs.Data, m.abs.From⟩)) := by
    unfold recvI; rw [if_neg ha2, e3]; dsimp only; rw [hqa, hQ, e1, Int.toNat_natCast]; rfl
  rw [← habs] at hres
  generalize hps : r.Ports.set kp ⟨x.Id, q2, rest⟩ = ps at *
  have hpl : ps.length = r.Ports.length := by rw [← hps, List.length_set]
  have g : SH w0 w90 (rD m.D m.Data :: aB mb (m.cells.map Ce.v) :: BR rb 0 0 N0 0 :: BI ib 0 N0 N0 N0 :: BC cb c :: BO ob o td :: BI b r.Next tp tc tq :: rP tp ps :: bP ps :: rC tc r.Caps :: rQ tq r.Pipes :: bQ r.Pipes :: F) := g
  have g := g.drew
  refine JoinW.cut1 (fun (p : Option Addr) w' => ∃ (ab : Nat) (t : Sl), p = some ⟨ab, 0, none⟩ ∧ SH w0 w' (BR ab 0 0 t m.From :: rD t m.Data :: rD m.D m.Data :: aB mb (m.cells.map Ce.v) :: BR rb 0 0 N0 0 :: BI ib 0 N0 N0 N0 :: BC cb c :: BO ob o td :: BI b r.Next tp tc tq :: rP tp ps :: bP ps :: rC tc r.Caps :: rQ tq r.Pipes :: bQ r.Pipes :: F)) ?_ ?_
  · refine ⟨m.D, g.cell 1 rfl rfl, _, g.cell 1 rfl rfl, ?_, ?_, trivial⟩
    · refine g.alloc (fun w170 g e170 n170 => ?_)
      refine ⟨⟨_, g.cell 2 rfl rfl, rfl⟩, ⟨m.D, g.cell 2 rfl rfl, rfl⟩, ?_, ?_, trivial⟩
      · refine SH.appendN (k := .u8) (m := []) (us := m.Data) (g.drop.nil (some ⟨w90.drew.heap.size, 0, none⟩) 1) (g.rowN 1 rfl) rfl rfl (by decide) (by show (_ + _) * 1 ≤ _; simp; omega) (fun t180 w181 g ht180 _ => ?_)
        refine ⟨⟨_, g.cell 2 rfl rfl, rfl⟩, ?_, trivial⟩
        refine g.alloc (fun w183 g e183 n183 => ?_)
        refine ⟨⟨_, g.cell 3 rfl rfl, rfl⟩, ⟨m.D, g.cell 3 rfl rfl, rfl⟩, ?_, trivial⟩
        refine g.put 0 rfl rfl rfl (fun w186 g n186 => ?_)
        exact ⟨_, t180, rfl, g⟩
      · refine g.alloc (fun w173 g e173 n173 => ?_)
        refine ⟨⟨_, g.cell 3 rfl rfl, rfl⟩, ⟨m.D, g.cell 3 rfl rfl, rfl⟩, ?_, trivial⟩
        refine SH.appendN (k := .u8) (m := []) (us := m.Data) ((g.dropAt 1).nil (some ⟨w90.drew.heap.size, 0, none⟩) 1) (g.rowN 2 rfl) rfl rfl (by decide) (by show (_ + _) * 1 ≤ _; simp; omega) (fun t176 w177 g ht176 _ => ?_)
        refine ⟨⟨_, g.cell 3 rfl rfl, rfl⟩, ?_, trivial⟩
        refine g.put 1 rfl rfl rfl (fun w179 g n179 => ?_)
        exact ⟨_, t176, rfl, g.p1⟩
    · refine g.alloc (fun w160 g e160 n160 => ?_)
      refine ⟨⟨_, g.cell 2 rfl rfl, rfl⟩, ⟨m.D, g.cell 2 rfl rfl, rfl⟩, ?_, trivial⟩
      refine g.alloc (fun w163 g e163 n163 => ?_)
      refine ⟨⟨_, g.cell 3 rfl rfl, rfl⟩, ⟨m.D, g.cell 3 rfl rfl, rfl⟩, ?_, trivial⟩
      refine SH.appendN (k := .u8) (m := []) (us := m.Data) (g.drop.nil (some ⟨w160.heap.size, 0, none⟩) 1) (g.rowN 2 rfl) rfl rfl (by decide) (by show (_ + _) * 1 ≤ _; simp; omega) (fun t166 w167 g ht166 _ => ?_)
      refine ⟨⟨_, g.cell 3 rfl rfl, rfl⟩, ?_, trivial⟩
      refine g.put 1 rfl rfl rfl (fun w169 g n169 => ?_)
      exact ⟨_, t166, rfl, g.p1⟩
  clear g
  rintro (p : Option Addr) w93 ⟨ab, t, rfl, h⟩
  have hat2 : IpcAt w93 tp tc tq (⟨r.Next, ps, r.Caps, r.Pipes⟩ : RIpc).abs := ipc_at (F := F) (r := ⟨r.Next, ps, r.Caps, r.Pipes⟩) (h.drop.drop.drop.drop.drop.drop.drop.drop.drop) hw2
  refine ⟨_, h.cell 8 rfl rfl, tp, h.cell 8 rfl rfl, tc, h.cell 8 rfl rfl, tq, h.cell 8 rfl rfl, _, h.cell 3 rfl rfl, (c86 hat2).mono ?_⟩
  rintro _ w100 ⟨rfl, e100⟩
  have h := h.to e100
  have hcx : capIx (⟨r.Next, ps, r.Caps, r.Pipes⟩ : RIpc).abs m.Cap = capIx r.abs m.Cap := rfl
  rw [hcx]
  refine ⟨_, rfl, ?_⟩
  refine JoinW.cut0 (fun w' => ∃ (tc2 : Sl) (n : Int) (rr : RIpc), rr.abs = (recvI r.abs o c).1 ∧ (recvI r.abs o c).2 = ⟨0, n, m.Data, m.From⟩ ∧ rr.Ports = ps ∧ rr.Pipes = r.Pipes ∧ SH w0 w' (BR ab 0 n t m.From :: rD t m.Data :: rD m.D m.Data :: aB mb (m.cells.map Ce.v) :: BR rb 0 0 N0 0 :: BI ib 0 N0 N0 N0 :: BC cb c :: BO ob o td :: BI b rr.Next tp tc2 tq :: rP tp ps :: bP ps :: rC tc2 rr.Caps :: rQ tq r.Pipes :: bQ r.Pipes :: F)) ?_ ?_
  · refine ⟨_, h.cell 3 rfl rfl, ?_⟩
    refine JoinW.cut1 (fun (y : Bool) w' => y = (decide (0 < m.Cap) && decide (0 ≤ capIx r.abs m.Cap)) ∧ w' = w100) (BIf.dec (fun hz => ⟨?_, rfl⟩) (fun hz => ⟨?_, rfl⟩)) ?_
    · rw [Bool.eq_iff_iff]; simp; omega
    · rw [Bool.eq_iff_iff]; simp; omega
    rintro (y : Bool) w131 ⟨rfl, rfl⟩
    refine JoinW.cut1 (fun (y : Bool) w' => y = (decide (0 < m.Cap) && decide (0 ≤ capIx r.abs m.Cap) && decide (r.Caps.length < 128)) ∧ w' = w131) (BIf.of (fun hy => ⟨tc, h.cell 8 rfl rfl, by rw [hy, Bool.true_and, Bool.eq_iff_iff]; simp; omega, rfl⟩) (fun hy => ⟨by rw [hy]; rfl, rfl⟩)) ?_
    rintro (y : Bool) w134 ⟨rfl, rfl⟩
    rcases capIx_cases r.abs m.Cap with ⟨f1, f2, f3⟩ | ⟨k2, c', f1, f2, f3, f4⟩
    · refine BIf.f (by rw [f1]; simp) ?_
      have f2 : capOf r.abs m.abs.Cap = none := f2
      rw [f2] at hres
      exact ⟨tc, 0, ⟨r.Next, ps, r.Caps, r.Pipes⟩, by rw [hres], by rw [hres]; rfl, rfl, rfl, h⟩
    · have f2 : r.Caps[k2]? = some c' := f2
      have hl2 : k2 < r.Caps.length := (List.getElem?_eq_some_iff.1 f2).1
      have f3 : capOf r.abs m.abs.Cap = some c' := f3
      rw [f3] at hres
      rw [f1]
      by_cases hgo : 0 < m.Cap ∧ r.Caps.length < 128
      · refine BIf.t (by simp [hgo.1, hgo.2]) ?_
        have hres : recvI r.abs o c = (addCap (⟨r.Next, ps, r.Caps, r.Pipes⟩ : RIpc).abs o.Holder c'.Port c'.Rights m.Cap, ⟨0, r.Next + 1, m.Data, m.From⟩) := by rw [hres]; exact if_pos hgo
        have h := h.drew
        obtain ⟨q', hq'⟩ := h.rowQ 11 rfl f2
        simp only [Int.toNat_natCast]
        refine ⟨_, h.cell 8 rfl rfl, tp, h.cell 8 rfl rfl, tc, h.cell 8 rfl rfl, tq, h.cell 8 rfl rfl, _, h.cell 7 rfl rfl, tc, h.cell 8 rfl rfl, by omega, by omega, q', hq', _, h.rdR 11 rfl hq' f2 rfl, tc, h.cell 8 rfl rfl, by omega, by omega, q', hq', _, h.rdR 11 rfl hq' f2 rfl, _, h.cell 3 rfl rfl, ?_⟩
        refine (s96 ((((((((((((h.front (n := 10) rfl).front (n := 10) rfl).front (n := 10) rfl).front (n := 10) rfl).front (n := 10) rfl).front (n := 10) rfl).front (n := 10) rfl).front (n := 10) rfl).front (n := 10) rfl).front (n := 10) rfl).front (n := 10) rfl).front (n := 11) rfl) (by omega) (by omega) (by omega)).mono ?_
        rintro _ w148 ⟨tc2, rfl, h⟩
        refine ⟨_, tp, tc2, tq, rfl, ?_⟩
        refine h.put 9 rfl rfl rfl (fun w153 h n153 => ?_)
        refine ⟨_, h.cell 9 rfl rfl, ?_⟩
        refine h.setVP (b := ab) 1 rfl rfl (fun w156 h n156 => ?_)
        refine ⟨tc2, r.Next + 1, ⟨r.Next + 1, ps, r.Caps ++ [⟨r.Next + 1, o.Holder, c'.Port, c'.Rights, m.Cap⟩], r.Pipes⟩, by rw [hres]; rfl, by rw [hres], rfl, rfl, ?_⟩
        exact ((((((((((((h.front (n := 0) rfl).front (n := 11) rfl).front (n := 11) rfl).front (n := 11) rfl).front (n := 11) rfl).front (n := 11) rfl).front (n := 11) rfl).front (n := 11) rfl).front (n := 11) rfl).front (n := 11) rfl).front (n := 11) rfl).front (n := 11) rfl)
      · refine BIf.f (by rcases Decidable.not_and_iff_or_not.1 hgo with hh | hh <;> simp [hh]) ?_
        have hres : recvI r.abs o c = ((⟨r.Next, ps, r.Caps, r.Pipes⟩ : RIpc).abs, ⟨0, 0, m.Data, m.From⟩) := by rw [hres]; exact if_neg hgo
        exact ⟨tc, 0, ⟨r.Next, ps, r.Caps, r.Pipes⟩, by rw [hres], by rw [hres], rfl, rfl, h⟩
  clear h hres
  rintro w103 ⟨tc2, n, ⟨nx, ps2, cs2, qs2⟩, hr1, hr2, hp, hq2, h⟩
  have hp : ps2 = ps := hp
  have hq2 : qs2 = r.Pipes := hq2
  subst hp hq2
  have h := h.drew
  refine ⟨_, h.cell 8 rfl rfl, tp, h.cell 8 rfl rfl, tc2, h.cell 8 rfl rfl, tq, h.cell 8 rfl rfl, _, h.cellP 0 rfl rfl, _, h.cellP 0 rfl rfl, t, h.cellP 0 rfl rfl, _, h.cellP 0 rfl rfl, ?_⟩
  refine h.put 5 rfl rfl rfl (fun w113 h n113 => ?_)
  refine ⟨⟨_, h.cellP 0 rfl rfl, _, h.cellP 0 rfl rfl, t, h.cellP 0 rfl rfl, _, h.cellP 0 rfl rfl, rfl⟩, ?_⟩
  refine h.put 4 rfl rfl rfl (fun w119 h n119 => ?_)
  refine ⟨_, h.cell 5 rfl rfl, tp, h.cell 5 rfl rfl, tc2, h.cell 5 rfl rfl, tq, h.cell 5 rfl rfl, _, h.cell 4 rfl rfl, _, h.cell 4 rfl rfl, t, h.cell 4 rfl rfl, _, h.cell 4 rfl rfl, ?_⟩
  have h := ((((((((h.dropAt 8).dropAt 7).dropAt 6).dropAt 5).dropAt 4).dropAt 3).dropAt 2).dropAt 0)
  refine ⟨tp, tc2, tq, t, ⟨nx, ps2, cs2, r.Pipes⟩, by rw [hr2], hr1, ?_⟩
  rw [hr2]
  exact h
end Go.Proofs.Ytbimoajgofcmbaa

/- Ports, capabilities, pipes: the reference's WithPipe. Conditions: none. -/
set_option linter.unusedVariables false
set_option linter.unusedSimpArgs false
namespace Go.Proofs.Ytbimoajgofcmbaa
open Go Go.Den
def withP (d : DIpc) (o : DIpcOp) : IRes := match pipeOf d o.Id with
  | none => (d, resE 5)
  | some p => pipeI d o (pipeIx d o.Id).toNat p
abbrev BP (b : Nat) (p : RPipe) : Asr := aB b (p.cells.map Ce.v)
set_option maxHeartbeats 4000000 in
theorem s99 {w0 w : World} {F : List Asr} {tp tc tq td : Sl} {r : RIpc} {o : DIpcOp} (h : SH w0 w (sP tp tc tq r ++ F)) (hw : IWf r.abs) (hi : IOk r.abs) (hb : LentB w0 F td o.Data) (hbs : o.Data.length ≤ 1048576) :
    CallW Try.prog 99 #[iV r.Next tp tc tq, .agg ⟨opV o td⟩] w (KS w0 F (withP r.abs o)) := by
  refine go99 (a0_0 := r.Next) (a0_1 := tp) (a0_2 := tc) (a0_3 := tq) (a1_0 := o.Kind) (a1_1 := o.Holder) (a1_2 := o.Id) (a1_3 := o.To) (a1_4 := o.Rights) (a1_5 := o.Cap) (a1_6 := o.N) (a1_7 := td) ?_
  unfold W99
  have h : SH w0 w (rP tp r.Ports :: bP r.Ports :: rC tc r.Caps :: rQ tq r.Pipes :: bQ r.Pipes :: F) := h
  have hfq : r.Pipes.length ≤ 32 := by rw [← abs_pipes]; exact hi.pipes
  have hdl := hb.len
  have htq := h.len 3 rfl
  rw [recs_len] at htq
  refine h.alloc (fun w1 h e1 n1 => ?_)
  refine h.alloc (fun w2 h e2 n2 => ?_)
  refine h.alloc (fun w3 h e3 n3 => ?_)
  refine h.alloc (fun w4 h e4 n4 => ?_)
  have h : SH w0 w4 (BR w3.heap.size 0 0 N0 0 :: BI w2.heap.size 0 N0 N0 N0 :: BO w1.heap.size o td :: BI w.heap.size r.Next tp tc tq :: rP tp r.Ports :: bP r.Ports :: rC tc r.Caps :: rQ tq r.Pipes :: bQ r.Pipes :: F) := h
  generalize w3.heap.size = rb at *
  generalize w2.heap.size = ib at *
  generalize w1.heap.size = ob at *
  generalize w.heap.size = b at *
  have hat : IpcAt w4 tp tc tq r.abs := ipc_at (F := F) (h.drop.drop.drop.drop) hw
  refine ⟨_, h.cell 3 rfl rfl, tp, h.cell 3 rfl rfl, tc, h.cell 3 rfl rfl, tq, h.cell 3 rfl rfl, _, h.cell 2 rfl rfl, (c88 hat).mono ?_⟩
  rintro _ w11 ⟨rfl, e11⟩
  have h := h.to e11
  refine ⟨_, rfl, ?_⟩
  rcases pipeIx_cases r.abs o.Id with ⟨e1, e2, e3⟩ | ⟨kp, P, e1, e2, e3, e4⟩
  · rw [e1]
    exact BIf.t rfl (errS (M := [_]) (by unfold withP; rw [e2]) h)
  obtain ⟨p0, hx, rfl⟩ := map_get e2
  have hx : r.Pipes[kp]? = some p0 := hx
  have hax : r.abs.Pipes[kp]? = some p0.abs := e2
  have hlk : kp < r.Pipes.length := (List.getElem?_eq_some_iff.1 hx).1
  have hpo := hi.pipe kp p0.abs hax
  have hpr : 0 ≤ p0.R ∧ p0.R ≤ 64 := hpo.r
  have hpw : 0 ≤ p0.W ∧ p0.W ≤ 64 := hpo.w
  have hpd : p0.Data.length ≤ 512 := hpo.few
  have hst : withP r.abs o = pipeI r.abs o kp p0.abs := by unfold withP; rw [e3, e1]; rfl
  obtain ⟨q, hq⟩ := h.rowQ 7 rfl hx
  rw [e1]
  refine BIf.f (by simp) ?_
  simp only [Int.toNat_natCast]
  refine ⟨tq, h.cell 3 rfl rfl, by omega, by omega, q, hq, _, h.rdR 7 rfl hq hx rfl, _, h.rdR 7 rfl hq hx rfl, _, h.rdR 7 rfl hq hx rfl, p0.D, h.rdR 7 rfl hq hx rfl, ?_⟩
  refine h.alloc (fun w43 h e43 n43 => ?_)
  refine h.put 0 rfl rfl rfl (fun w44 h n44 => ?_)
  generalize w11.heap.size = pb at *
  have h : SH w0 w44 (BP pb p0 :: BR rb 0 0 N0 0 :: BI ib 0 N0 N0 N0 :: BO ob o td :: BI b r.Next tp tc tq :: rP tp r.Ports :: bP r.Ports :: rC tc r.Caps :: rQ tq r.Pipes :: bQ r.Pipes :: F) := h
  refine ⟨_, h.cell 3 rfl rfl, ?_⟩
  refine BIf.eq (fun k9 => ?_) (fun k9 => ?_)
  · -- ends
    have hst : withP r.abs o = endsI r.abs o kp p0.abs := by rw [hst]; exact if_pos k9
    refine ⟨_, h.cell 3 rfl rfl, _, h.cell 0 rfl rfl, ?_⟩
    rw [w64 (n := 0 - p0.R) (by omega) (by omega)]
    refine JoinW.cut1 (fun (x : Bool) w' => x = decide (o.To < -p0.R ∨ 64 - p0.R < o.To) ∧ w' = w44) (BIf.dec (fun hx => ⟨(decide_eq_true (by omega)).symm, rfl⟩) (fun hx => ⟨_, h.cell 3 rfl rfl, _, h.cell 0 rfl rfl, by rw [w64 (n := 64 - p0.R) (by omega) (by omega), Bool.eq_iff_iff, decide_eq_true_iff, decide_eq_true_iff]; omega, rfl⟩)) ?_
    rintro (x : Bool) w50 ⟨rfl, rfl⟩
    refine JoinW.cut1 (fun (x : Bool) w' => x = decide (o.To < -p0.R ∨ 64 - p0.R < o.To ∨ o.N < -p0.W) ∧ w' = w50) (BIf.dec (fun hx => ⟨(decide_eq_true (by omega)).symm, rfl⟩) (fun hx => ⟨_, h.cell 3 rfl rfl, _, h.cell 0 rfl rfl, by rw [w64 (n := 0 - p0.W) (by omega) (by omega), Bool.eq_iff_iff, decide_eq_true_iff, decide_eq_true_iff]; omega, rfl⟩)) ?_
    rintro (x : Bool) w53 ⟨rfl, rfl⟩
    refine JoinW.cut1 (fun (x : Bool) w' => x = decide (o.To < -p0.R ∨ 64 - p0.R < o.To ∨ o.N < -p0.W ∨ 64 - p0.W < o.N) ∧ w' = w53) (BIf.dec (fun hx => ⟨(decide_eq_true (by omega)).symm, rfl⟩) (fun hx => ⟨_, h.cell 3 rfl rfl, _, h.cell 0 rfl rfl, by rw [w64 (n := 64 - p0.W) (by omega) (by omega), Bool.eq_iff_iff, decide_eq_true_iff, decide_eq_true_iff]; omega, rfl⟩)) ?_
    rintro (x : Bool) w56 ⟨rfl, rfl⟩
    refine BIf.dec (fun hbd => errS (M := [_]) (by rw [hst]; unfold endsI; exact if_pos hbd) h.drop) (fun hbd => ?_)
    refine ⟨tq, h.cell 4 rfl rfl, _, h.cell 0 rfl rfl, _, h.cell 3 rfl rfl, by omega, by omega, q, hq, ?_⟩
    rw [w64 (n := p0.R + o.To) (by omega) (by omega)]
    rw [set_at hx] at h
    refine h.setR 8 (⟨p0.Id, p0.R + o.To, p0.W, p0.D, p0.Data⟩ : RPipe) rfl hq hlk (by show 1 < 4; omega) rfl (fun w85 h n85 => ?_)
    refine ⟨tq, h.cell 4 rfl rfl, _, h.cell 0 rfl rfl, _, h.cell 3 rfl rfl, by omega, by omega, q, hq, ?_⟩
    rw [w64 (n := p0.W + o.N) (by omega) (by omega)]
    refine h.setR 8 (⟨p0.Id, p0.R + o.To, p0.W + o.N, p0.D, p0.Data⟩ : RPipe) rfl hq hlk (by show 2 < 4; omega) rfl (fun w90 h n90 => ?_)
    have h : SH w0 w90 (BP pb p0 :: BR rb 0 0 N0 0 :: BI ib 0 N0 N0 N0 :: BO ob o td :: BI b r.Next tp tc tq :: rP tp r.Ports :: bP r.Ports :: rC tc r.Caps :: rQ tq (r.Pipes.set kp ⟨p0.Id, p0.R + o.To, p0.W + o.N, p0.D, p0.Data⟩) :: bQ (r.Pipes.set kp p0) :: F) := h
    rw [← set_at hx] at h
    have hx3 : (r.Pipes.set kp ⟨p0.Id, p0.R + o.To, p0.W + o.N, p0.D, p0.Data⟩)[kp]? = some ⟨p0.Id, p0.R + o.To, p0.W + o.N, p0.D, p0.Data⟩ := List.getElem?_set_self hlk
    have hpl2 : (r.Pipes.set kp (⟨p0.Id, p0.R + o.To, p0.W + o.N, p0.D, p0.Data⟩ : RPipe)).length = r.Pipes.length := List.length_set ..
    refine JoinW.cut0 (fun w' => ∃ (tq2 : Sl) (qs2 : List RPipe), (⟨r.Next, r.Ports, r.Caps, qs2⟩ : RIpc).abs = (withP r.abs o).1 ∧ (withP r.abs o).2 = resN 0 ∧ SH w0 w' (BP pb p0 :: BR rb 0 0 N0 0 :: BI ib 0 N0 N0 N0 :: BO ob o td :: BI b r.Next tp tc tq2 :: rP tp r.Ports :: bP r.Ports :: rC tc r.Caps :: rQ tq2 qs2 :: bQ qs2 :: F)) ?_ ?_
    · have h := h.drew
      refine ⟨tq, h.cell 4 rfl rfl, by omega, by omega, q, hq, _, h.rdR 8 rfl hq hx3 rfl, tq, h.cell 4 rfl rfl, by omega, by omega, q, hq, _, h.rdR 8 rfl hq hx3 rfl, ?_⟩
      show BIf (IntKind.i64.wrap (p0.R + o.To + (p0.W + o.N)) == 0) _ _
      rw [w64 (n := p0.R + o.To + (p0.W + o.N)) (by omega) (by omega)]
      refine BIf.eq (fun hz => ?_) (fun hz => ?_)
      · have hres : withP r.abs o = (⟨r.Next, r.abs.Ports, r.Caps, r.abs.Pipes.eraseIdx kp⟩, resN 0) := by rw [hst]; unfold endsI; exact (if_neg hbd).trans (if_pos hz)
        have h := h.drew
        have hlc := h.lenCap 8 rfl
        have hll := h.len 8 rfl
        rw [recs_len] at hll
        have hn1 : IntKind.i64.wrap ((kp : Int) + 1) = ((kp + 1 : Nat) : Int) := by rw [w64 (by omega) (by omega)]; omega
        rw [hn1]
        simp only [Int.toNat_natCast]
        refine ⟨tq, h.cell 4 rfl rfl, by omega, by omega, tq, h.cell 4 rfl rfl, by omega, by omega, ?_⟩
        refine h.alloc (fun w115 h e115 n115 => ?_)
        refine ⟨⟨tq, h.cell 5 rfl rfl, rfl⟩, ⟨tq, h.cell 5 rfl rfl, rfl⟩, ?_⟩
        have hpre := RowAt.pre (f := RPipe.cells) (z := 4) (i := kp) (fun _ => rfl) (h.rowR 9 rfl) (by omega)
        refine SH.appendR (f := RPipe.cells) (l := []) (us := (r.Pipes.set kp ⟨p0.Id, p0.R + o.To, p0.W + o.N, p0.D, p0.Data⟩).take kp) (h.drop.nil (some ⟨w90.drew.drew.heap.size, 0, none⟩) 4) hpre (by simp; omega) (fun _ => rfl) rfl rfl (by decide) (by show (_ + _) * 48 ≤ _; simp; omega) plain_pipe (fun t118 w119 h ht118 _ => ?_)
        refine ⟨⟨tq, h.cell 5 rfl rfl, rfl⟩, ?_⟩
        have hsuf := RowAt.suf (f := RPipe.cells) (z := 4) (i := kp + 1) (fun _ => rfl) (h.rowR 9 rfl) hll hlc (by omega)
        refine SH.appendR (f := RPipe.cells) (us := (r.Pipes.set kp ⟨p0.Id, p0.R + o.To, p0.W + o.N, p0.D, p0.Data⟩).drop (kp + 1)) h hsuf (by simp; omega) (fun _ => rfl) rfl rfl (by decide) (by show (_ + _) * 48 ≤ _; simp; omega) plain_pipe (fun t121 w122 h ht121 _ => ?_)
        refine h.setV 5 rfl rfl (fun w123 h n123 => ?_)
        have hel : ([] ++ (r.Pipes.set kp (⟨p0.Id, p0.R + o.To, p0.W + o.N, p0.D, p0.Data⟩ : RPipe)).take kp) ++ (r.Pipes.set kp (⟨p0.Id, p0.R + o.To, p0.W + o.N, p0.D, p0.Data⟩ : RPipe)).drop (kp + 1) = r.Pipes.eraseIdx kp := by
          rw [List.nil_append, List.take_set_of_le (Nat.le_refl _), List.drop_set_of_lt (by omega), List.eraseIdx_eq_take_drop_succ]
        rw [hel] at h
        have h := SH.bagErase (i := kp) (((((((((((h.dropAt 9).front (n := 0) rfl).front (n := 8) rfl).front (n := 8) rfl).front (n := 8) rfl).front (n := 8) rfl).front (n := 8) rfl).front (n := 8) rfl).front (n := 8) rfl).front (n := 8) rfl).front (n := 9) rfl)
        refine ⟨t121, r.Pipes.eraseIdx kp, ?_, by rw [hres], ((((((((((h.front (n := 0) rfl).front (n := 9) rfl).front (n := 9) rfl).front (n := 9) rfl).front (n := 9) rfl).front (n := 9) rfl).front (n := 9) rfl).front (n := 9) rfl).front (n := 9) rfl).front (n := 9) rfl)⟩
        rw [hres]
        unfold RIpc.abs
        dsimp only
        rw [map_erase]
      · have hres : withP r.abs o = (setP r.abs kp ⟨p0.Id, p0.R + o.To, p0.W + o.N, p0.Data⟩, resN 0) := by rw [hst]; unfold endsI; exact (if_neg hbd).trans (if_neg hz)
        have h1 := SH.bagOut (f := pipeA) ((((((((((h.front (n := 8) rfl).front (n := 8) rfl).front (n := 8) rfl).front (n := 8) rfl).front (n := 8) rfl).front (n := 8) rfl).front (n := 8) rfl).front (n := 8) rfl).front (n := 8) rfl).front (n := 9) rfl) hx
        have h1 : SH w0 w90.drew (pipeA ⟨p0.Id, p0.R + o.To, p0.W + o.N, p0.D, p0.Data⟩ :: aBag pipeA (r.Pipes.eraseIdx kp) :: _) := h1
        have h := SH.bagIn (f := pipeA) hx h1
        refine ⟨tq, _, ?_, by rw [hres], ((((((((((h.front (n := 0) rfl).front (n := 9) rfl).front (n := 9) rfl).front (n := 9) rfl).front (n := 9) rfl).front (n := 9) rfl).front (n := 9) rfl).front (n := 9) rfl).front (n := 9) rfl).front (n := 9) rfl)⟩
        rw [hres]
        unfold RIpc.abs setP
        rw [List.map_set]
        rfl
    clear h hx3
    rintro w92 ⟨tq2, qs2, hr1, hr2, h⟩
    refine ⟨_, h.cell 4 rfl rfl, tp, h.cell 4 rfl rfl, tc, h.cell 4 rfl rfl, tq2, h.cell 4 rfl rfl, ?_⟩
    refine h.put 2 rfl rfl rfl (fun w97 h n97 => ?_)
    refine h.put 1 rfl rfl rfl (fun w98 h n98 => ?_)
    refine ⟨_, h.cell 2 rfl rfl, tp, h.cell 2 rfl rfl, tc, h.cell 2 rfl rfl, tq2, h.cell 2 rfl rfl, _, h.cell 1 rfl rfl, _, h.cell 1 rfl rfl, N0, h.cell 1 rfl rfl, _, h.cell 1 rfl rfl, ?_⟩
    have h := ((((((h.dropAt 4).dropAt 3).dropAt 2).dropAt 1).dropAt 0)).nil none 1
    refine ⟨tp, tc, tq2, N0, ⟨r.Next, r.Ports, r.Caps, qs2⟩, by rw [hr2]; rfl, hr1, ?_⟩
    rw [hr2]
    exact h
  have g : SH w0 w44 (rD p0.D p0.Data :: bQ (r.Pipes.eraseIdx kp) :: BP pb p0 :: BR rb 0 0 N0 0 :: BI ib 0 N0 N0 N0 :: BO ob o td :: BI b r.Next tp tc tq :: rP tp r.Ports :: bP r.Ports :: rC tc r.Caps :: rQ tq r.Pipes :: F) := SH.bagOut (f := pipeA) ((((((((((h.front (n := 8) rfl).front (n := 8) rfl).front (n := 8) rfl).front (n := 8) rfl).front (n := 8) rfl).front (n := 8) rfl).front (n := 8) rfl).front (n := 8) rfl).front (n := 8) rfl).front (n := 9) rfl) hx
  have hdl2 := g.len 0 rfl
  have hdc := g.lenCap 0 rfl
  rw [nums_len] at hdl2
  have hdd : p0.abs.Data.length = p0.Data.length := rfl
  refine BIf.eq (fun k10 => ?_) (fun k10 => ?_)
  · -- bytes written
    have hst : withP r.abs o = writeI r.abs o kp p0.abs := by rw [hst]; exact (if_neg k9).trans (if_pos k10)
    refine ⟨_, h.cell 0 rfl rfl, ?_⟩
    refine BIf.eq (fun hr0 => errS (M := [_]) (by rw [hst]; unfold writeI; exact if_pos hr0) h.drop) (fun hr0 => ?_)
    refine ⟨td, h.cell 3 rfl rfl, ?_⟩
    have hnl : wlen o p0.abs ≤ o.Data.length ∧ wlen o p0.abs ≤ 512 := by unfold wlen; omega
    refine JoinW.cut1 (fun (n : Int) w' => n = ((wlen o p0.abs : Nat) : Int) ∧ w' = w44) ?_ ?_
    · refine ⟨p0.D, h.cell 0 rfl rfl, ?_⟩
      rw [w64 (n := 512 - (p0.D.len : Int)) (by omega) (by omega)]
      refine BIf.dec (fun hgt => ⟨p0.D, h.cell 0 rfl rfl, ?_, rfl⟩) (fun hgt => ⟨?_, rfl⟩)
      · rw [w64 (n := 512 - (p0.D.len : Int)) (by omega) (by omega)]; unfold wlen; omega
      · unfold wlen; omega
    rintro (n : Int) w158 ⟨rfl, rfl⟩
    refine JoinW.cut1 (fun (x : Bool) w' => x = decide (wlen o p0.abs = 0 ∧ 0 < o.Data.length) ∧ w' = w158) (BIf.eq (fun hz => ⟨td, h.cell 3 rfl rfl, by rw [Bool.eq_iff_iff, decide_eq_true_iff, decide_eq_true_iff]; omega, rfl⟩) (fun hz => ⟨(decide_eq_false (by omega)).symm, rfl⟩)) ?_
    rintro (x : Bool) w161 ⟨rfl, rfl⟩
    refine BIf.dec (fun hag => errS (M := [_]) (by rw [hst]; unfold writeI; exact (if_neg hr0).trans (if_pos hag)) h.drop) (fun hag => ?_)
    have hres : withP r.abs o = (setP r.abs kp ⟨p0.Id, p0.R, p0.W, p0.Data ++ o.Data.take (wlen o p0.abs)⟩, resN (wlen o p0.abs : Nat)) := by rw [hst]; unfold writeI; exact (if_neg hr0).trans (if_neg hag)
    rw [hres]
    clear h hres hag hst
    generalize wlen o p0.abs = n at *
    have g := g.drew
    have hcl := hb.cap
    simp only [Int.toNat_natCast]
    refine ⟨tq, g.cell 6 rfl rfl, p0.D, g.cell 2 rfl rfl, td, g.cell 5 rfl rfl, by omega, by omega, ?_⟩
    refine g.alloc (fun w189 g e189 n189 => ?_)
    refine ⟨⟨td, g.cell 6 rfl rfl, rfl⟩, ⟨p0.D, g.cell 3 rfl rfl, rfl⟩, ⟨tq, g.cell 7 rfl rfl, rfl⟩, ?_⟩
    refine SH.appendN (k := .u8) (m := []) (us := p0.Data) (g.drop.nil (some ⟨w161.drew.heap.size, 0, none⟩) 1) (g.rowN 1 rfl) rfl rfl (by decide) (by show (_ + _) * 1 ≤ _; simp; omega) (fun t193 w194 g ht193 _ => ?_)
    refine ⟨⟨td, g.cell 6 rfl rfl, rfl⟩, ⟨tq, g.cell 7 rfl rfl, rfl⟩, ?_⟩
    refine SH.appendN (k := .u8) (us := o.Data.take n) g (rowN_pre (hb.row g (by first | exact ⟨[_, _, _, _], rfl⟩ | exact ⟨[_, _, _, _, _], rfl⟩ | exact ⟨[_, _, _, _, _, _], rfl⟩ | exact ⟨[_, _, _, _, _, _, _], rfl⟩ | exact ⟨[_, _, _, _, _, _, _, _], rfl⟩ | exact ⟨[_, _, _, _, _, _, _, _, _], rfl⟩ | exact ⟨[_, _, _, _, _, _, _, _, _, _], rfl⟩ | exact ⟨[_, _, _, _, _, _, _, _, _, _, _], rfl⟩ | exact ⟨[_, _, _, _, _, _, _, _, _, _, _, _], rfl⟩ | exact ⟨[_, _, _, _, _, _, _, _, _, _, _, _, _], rfl⟩ | exact ⟨[_, _, _, _, _, _, _, _, _, _, _, _, _, _], rfl⟩ | exact ⟨[_, _, _, _, _, _, _, _, _, _, _, _, _, _, _], rfl⟩ | exact ⟨[_, _, _, _, _, _, _, _, _, _, _, _, _, _, _, _], rfl⟩ | exact ⟨[_, _, _, _, _, _, _, _, _, _, _, _, _, _, _, _, _], rfl⟩ | exact ⟨[_, _, _, _, _, _, _, _, _, _, _, _, _, _, _, _, _, _], rfl⟩ | exact ⟨[_, _, _, _, _, _, _, _, _, _, _, _, _, _, _, _, _, _, _], rfl⟩ | exact ⟨[_, _, _, _, _, _, _, _, _, _, _, _, _, _, _, _, _, _, _, _], rfl⟩ | exact ⟨[_, _, _, _, _, _, _, _, _, _, _, _, _, _, _, _, _, _, _, _, _], rfl⟩)) hnl.1) rfl rfl (by decide) (by show (_ + _) * 1 ≤ _; simp; omega) (fun t197 w198 g ht197 _ => ?_)
    refine ⟨⟨tq, g.cell 7 rfl rfl, rfl⟩, by omega, by omega, q, hq, ?_⟩
    have g : SH w0 w198 (rD t197 (p0.Data ++ o.Data.take n) :: rD p0.D p0.Data :: bQ (r.Pipes.eraseIdx kp) :: BP pb p0 :: BR rb 0 0 N0 0 :: BI ib 0 N0 N0 N0 :: BO ob o td :: BI b r.Next tp tc tq :: rP tp r.Ports :: bP r.Ports :: rC tc r.Caps :: rQ tq (r.Pipes.set kp p0) :: F) := by rw [← set_at hx]; exact g
    refine g.setR 11 (⟨p0.Id, p0.R, p0.W, t197, p0.Data ++ o.Data.take n⟩ : RPipe) rfl hq hlk (by show 3 < 4; omega) rfl (fun w201 g n201 => ?_)
    refine ⟨_, g.cell 7 rfl rfl, tp, g.cell 7 rfl rfl, tc, g.cell 7 rfl rfl, tq, g.cell 7 rfl rfl, ?_⟩
    refine g.put 5 rfl rfl rfl (fun w206 g n206 => ?_)
    refine g.put 4 rfl rfl rfl (fun w207 g n207 => ?_)
    refine ⟨_, g.cell 5 rfl rfl, tp, g.cell 5 rfl rfl, tc, g.cell 5 rfl rfl, tq, g.cell 5 rfl rfl, _, g.cell 4 rfl rfl, _, g.cell 4 rfl rfl, N0, g.cell 4 rfl rfl, _, g.cell 4 rfl rfl, ?_⟩
    have g : SH w0 w207 (rD t197 (p0.Data ++ o.Data.take n) :: rD p0.D p0.Data :: bQ (r.Pipes.eraseIdx kp) :: BP pb p0 :: BR rb 0 (n : Nat) N0 0 :: BI ib r.Next tp tc tq :: BO ob o td :: BI b r.Next tp tc tq :: rP tp r.Ports :: bP r.Ports :: rC tc r.Caps :: rQ tq (r.Pipes.set kp ⟨p0.Id, p0.R, p0.W, t197, p0.Data ++ o.Data.take n⟩) :: F) := g
    have g := SH.bagIn (f := pipeA) (y := (⟨p0.Id, p0.R, p0.W, t197, p0.Data ++ o.Data.take n⟩ : RPipe)) hx ((((((g.dropAt 7).dropAt 6).dropAt 5).dropAt 4).dropAt 3).dropAt 1)
    have g := ((((((g.front (n := 0) rfl).front (n := 4) rfl).front (n := 4) rfl).front (n := 4) rfl).front (n := 4) rfl)).nil none 1
    refine ⟨tp, tc, tq, N0, ⟨r.Next, r.Ports, r.Caps, r.Pipes.set kp ⟨p0.Id, p0.R, p0.W, t197, p0.Data ++ o.Data.take n⟩⟩, rfl, ?_, ?_⟩
    · unfold RIpc.abs setP
      rw [List.map_set]
      rfl
    · exact g
  have hst : withP r.abs o = readI r.abs o kp p0.abs := by rw [hst]; exact (if_neg k9).trans (if_neg k10)
  refine ⟨_, h.cell 3 rfl rfl, ?_⟩
  refine JoinW.cut1 (fun (x : Bool) w' => x = decide (o.N < 0 ∨ 1024 < o.N) ∧ w' = w44) (BIf.dec (fun hx => ⟨(decide_eq_true (.inl hx)).symm, rfl⟩) (fun hx => ⟨_, h.cell 3 rfl rfl, by rw [Bool.eq_iff_iff, decide_eq_true_iff, decide_eq_true_iff]; omega, rfl⟩)) ?_
  rintro (x : Bool) w222 ⟨rfl, rfl⟩
  refine BIf.dec (fun hbd => errS (M := [_]) (by rw [hst]; unfold readI; exact if_pos hbd) h.drop) (fun hbd => ?_)
  refine ⟨p0.D, h.cell 0 rfl rfl, ?_⟩
  refine JoinW.cut1 (fun (x : Bool) w' => x = decide (p0.Data.length = 0 ∧ 0 < p0.W) ∧ w' = w222) (BIf.eq (fun hz => ⟨_, h.cell 0 rfl rfl, by rw [Bool.eq_iff_iff, decide_eq_true_iff, decide_eq_true_iff]; omega, rfl⟩) (fun hz => ⟨(decide_eq_false (by omega)).symm, rfl⟩)) ?_
  rintro (x : Bool) w250 ⟨rfl, rfl⟩
  refine JoinW.cut1 (fun (x : Bool) w' => x = decide (p0.Data.length = 0 ∧ 0 < p0.W ∧ 0 < o.N) ∧ w' = w250) (BIf.dec (fun hz => ⟨_, h.cell 3 rfl rfl, by rw [Bool.eq_iff_iff, decide_eq_true_iff, decide_eq_true_iff]; omega, rfl⟩) (fun hz => ⟨(decide_eq_false (by omega)).symm, rfl⟩)) ?_
  rintro (x : Bool) w253 ⟨rfl, rfl⟩
  refine BIf.dec (fun hag => errS (M := [_]) (by rw [hst]; unfold readI; exact (if_neg hbd).trans (if_pos hag)) h.drop) (fun hag => ?_)
  have hres : withP r.abs o = (setP r.abs kp ⟨p0.Id, p0.R, p0.W, p0.Data.drop (rlen o p0.abs)⟩, ⟨0, 0, p0.Data.take (rlen o p0.abs), 0⟩) := by rw [hst]; unfold readI; exact (if_neg hbd).trans (if_neg hag)
  rw [hres]
  have hnl : rlen o p0.abs ≤ p0.Data.length := by unfold rlen; omega
  refine ⟨_, h.cell 3 rfl rfl, ?_⟩
  refine JoinW.cut1 (fun (n : Int) w' => n = ((rlen o p0.abs : Nat) : Int) ∧ w' = w253) ?_ ?_
  · refine ⟨p0.D, h.cell 0 rfl rfl, ?_⟩
    refine BIf.dec (fun hgt => ⟨p0.D, h.cell 0 rfl rfl, ?_, rfl⟩) (fun hgt => ⟨?_, rfl⟩)
    · unfold rlen; omega
    · unfold rlen; omega
  rintro (n : Int) w281 ⟨rfl, rfl⟩
  clear h hres hag hst
  generalize rlen o p0.abs = n at *
  have g := g.drew
  simp only [Int.toNat_natCast]
  refine ⟨tq, g.cell 6 rfl rfl, p0.D, g.cell 2 rfl rfl, by omega, by omega, ?_⟩
  refine g.alloc (fun w284 g e284 n284 => ?_)
  refine ⟨⟨p0.D, g.cell 3 rfl rfl, rfl⟩, ⟨tq, g.cell 7 rfl rfl, rfl⟩, ?_⟩
  refine SH.appendN (k := .u8) (m := []) (us := p0.Data.drop n) (g.drop.nil (some ⟨w281.drew.heap.size, 0, none⟩) 1) (rowN_suf (g.rowN 1 rfl) hdl2 hdc hnl) rfl rfl (by decide) (by show (_ + _) * 1 ≤ _; simp; omega) (fun t287 w288 g ht287 _ => ?_)
  refine ⟨⟨tq, g.cell 7 rfl rfl, rfl⟩, by omega, by omega, q, hq, ?_⟩
  have g : SH w0 w288 (rD t287 (p0.Data.drop n) :: rD p0.D p0.Data :: bQ (r.Pipes.eraseIdx kp) :: BP pb p0 :: BR rb 0 0 N0 0 :: BI ib 0 N0 N0 N0 :: BO ob o td :: BI b r.Next tp tc tq :: rP tp r.Ports :: bP r.Ports :: rC tc r.Caps :: rQ tq (r.Pipes.set kp p0) :: F) := by rw [← set_at hx]; exact g
  refine g.setR 11 (⟨p0.Id, p0.R, p0.W, t287, p0.Data.drop n⟩ : RPipe) rfl hq hlk (by show 3 < 4; omega) rfl (fun w291 g n291 => ?_)
  have g := g.drew
  refine ⟨_, g.cell 7 rfl rfl, tp, g.cell 7 rfl rfl, tc, g.cell 7 rfl rfl, tq, g.cell 7 rfl rfl, p0.D, g.cell 3 rfl rfl, by omega, by omega, ?_⟩
  refine g.alloc (fun w297 g e297 n297 => ?_)
  refine ⟨⟨p0.D, g.cell 4 rfl rfl, rfl⟩, ⟨_, g.cell 8 rfl rfl, tp, g.cell 8 rfl rfl, tc, g.cell 8 rfl rfl, tq, g.cell 8 rfl rfl, rfl⟩, ?_⟩
  refine SH.appendN (k := .u8) (m := []) (us := p0.Data.take n) (g.drop.nil (some ⟨w291.drew.heap.size, 0, none⟩) 1) (rowN_pre (g.rowN 2 rfl) hnl) rfl rfl (by decide) (by show (_ + _) * 1 ≤ _; simp; omega) (fun t303 w304 g ht303 _ => ?_)
  refine ⟨⟨_, g.cell 8 rfl rfl, tp, g.cell 8 rfl rfl, tc, g.cell 8 rfl rfl, tq, g.cell 8 rfl rfl, rfl⟩, ?_⟩
  refine g.put 6 rfl rfl rfl (fun w309 g n309 => ?_)
  refine g.put 5 rfl rfl rfl (fun w310 g n310 => ?_)
  refine ⟨_, g.cell 6 rfl rfl, tp, g.cell 6 rfl rfl, tc, g.cell 6 rfl rfl, tq, g.cell 6 rfl rfl, _, g.cell 5 rfl rfl, _, g.cell 5 rfl rfl, t303, g.cell 5 rfl rfl, _, g.cell 5 rfl rfl, ?_⟩
  have g : SH w0 w310 (rD t303 (p0.Data.take n) :: rD t287 (p0.Data.drop n) :: rD p0.D p0.Data :: bQ (r.Pipes.eraseIdx kp) :: BP pb p0 :: BR rb 0 0 t303 0 :: BI ib r.Next tp tc tq :: BO ob o td :: BI b r.Next tp tc tq :: rP tp r.Ports :: bP r.Ports :: rC tc r.Caps :: rQ tq (r.Pipes.set kp ⟨p0.Id, p0.R, p0.W, t287, p0.Data.drop n⟩) :: F) := g
  have g := SH.bagIn (f := pipeA) (y := (⟨p0.Id, p0.R, p0.W, t287, p0.Data.drop n⟩ : RPipe)) hx (((((((((g.dropAt 8).dropAt 7).dropAt 6).dropAt 5).dropAt 4).dropAt 2).front (n := 0) rfl).front (n := 2) rfl).front (n := 2) rfl)
  refine ⟨tp, tc, tq, t303, ⟨r.Next, r.Ports, r.Caps, r.Pipes.set kp ⟨p0.Id, p0.R, p0.W, t287, p0.Data.drop n⟩⟩, rfl, ?_, ?_⟩
  · unfold RIpc.abs setP
    rw [List.map_set]
    rfl
  · exact ((((((g.front (n := 0) rfl).front (n := 5) rfl).front (n := 5) rfl).front (n := 5) rfl).front (n := 5) rfl).front (n := 5) rfl)
end Go.Proofs.Ytbimoajgofcmbaa

/- Ports, capabilities, pipes: the reference's WithCap. Conditions: none. -/
set_option linter.unusedVariables false
set_option linter.unusedSimpArgs false
namespace Go.Proofs.Ytbimoajgofcmbaa
open Go Go.Den
noncomputable def withC (d : DIpc) (o : DIpcOp) : IRes := match capOf d o.Id with
  | none => (d, resE 5)
  | some c => if c.Holder ≠ o.Holder then (d, resE 5) else capI d o c
set_option maxHeartbeats 4000000 in
theorem s100 {w0 w : World} {F : List Asr} {tp tc tq td : Sl} {r : RIpc} {o : DIpcOp} (h : SH w0 w (sP tp tc tq r ++ F)) (hw : IWf r.abs) (hi : IOk r.abs) (hb : LentB w0 F td o.Data) (hbs : o.Data.length ≤ 1048576) :
    CallW Try.prog 100 #[iV r.Next tp tc tq, .agg ⟨opV o td⟩] w (KS w0 F (withC r.abs o)) := by
  refine go100 (a0_0 := r.Next) (a0_1 := tp) (a0_2 := tc) (a0_3 := tq) (a1_0 := o.Kind) (a1_1 := o.Holder) (a1_2 := o.Id) (a1_3 := o.To) (a1_4 := o.Rights) (a1_5 := o.Cap) (a1_6 := o.N) (a1_7 := td) ?_
  unfold W100
  have h : SH w0 w (rP tp r.Ports :: bP r.Ports :: rC tc r.Caps :: rQ tq r.Pipes :: bQ r.Pipes :: F) := h
  have hnx : 0 ≤ r.Next ∧ r.Next ≤ 1099511627776 := hi.next
  have hfc : r.Caps.length ≤ 128 := hi.caps
  have hfp : r.Ports.length ≤ 32 := by rw [← abs_ports]; exact hi.ports
  have hcl := h.len 2 rfl
  rw [recs_len] at hcl
  refine h.alloc (fun w1 h e1 n1 => ?_)
  refine h.alloc (fun w2 h e2 n2 => ?_)
  refine h.alloc (fun w3 h e3 n3 => ?_)
  refine h.alloc (fun w4 h e4 n4 => ?_)
  have h : SH w0 w4 (BR w3.heap.size 0 0 N0 0 :: BI w2.heap.size 0 N0 N0 N0 :: BO w1.heap.size o td :: BI w.heap.size r.Next tp tc tq :: rP tp r.Ports :: bP r.Ports :: rC tc r.Caps :: rQ tq r.Pipes :: bQ r.Pipes :: F) := h
  generalize w3.heap.size = rb at *
  generalize w2.heap.size = ib at *
  generalize w1.heap.size = ob at *
  generalize w.heap.size = b at *
  have hat : IpcAt w4 tp tc tq r.abs := ipc_at (F := F) (h.drop.drop.drop.drop) hw
  refine ⟨_, h.cell 3 rfl rfl, tp, h.cell 3 rfl rfl, tc, h.cell 3 rfl rfl, tq, h.cell 3 rfl rfl, _, h.cell 2 rfl rfl, (c86 hat).mono ?_⟩
  rintro _ w11 ⟨rfl, e11⟩
  have h := h.to e11
  refine ⟨_, rfl, ?_⟩
  rcases capIx_cases r.abs o.Id with ⟨e1, e2, e3⟩ | ⟨k0, c, e1, e2, e3, e4⟩
  · rw [e1]
    have h := h.drew
    refine JoinW.cut1 (fun (x : Bool) w' => x = true ∧ w' = w11.drew) (BIf.t rfl ⟨rfl, rfl⟩) ?_
    rintro (x : Bool) w15 ⟨rfl, rfl⟩
    exact BIf.t rfl (errS (M := [_]) (by unfold withC; rw [e2]) h)
  have e2' : r.Caps[k0]? = some c := e2
  have hlk : k0 < r.Caps.length := (List.getElem?_eq_some_iff.1 e2').1
  have h := h.drew
  obtain ⟨q, hq⟩ := h.rowQ 6 rfl e2'
  rw [e1]
  simp only [Int.toNat_natCast]
  refine JoinW.cut1 (fun (x : Bool) w' => x = (c.Holder != o.Holder) ∧ w' = w11.drew) (BIf.f (by simp) ⟨tc, h.cell 3 rfl rfl, by omega, by omega, q, hq, _, h.rdR 6 rfl hq e2' rfl, _, h.cell 2 rfl rfl, rfl, rfl⟩) ?_
  rintro (x : Bool) w15 ⟨rfl, rfl⟩
  refine BIf.ne (fun hh => errS (M := [_]) (by unfold withC; rw [e3]; exact if_pos hh) h) (fun hh => ?_)
  have hst : withC r.abs o = capI r.abs o c := by unfold withC; rw [e3]; exact if_neg (fun hn => hn hh)
  refine ⟨_, h.cell 2 rfl rfl, ?_⟩
  refine BIf.eq (fun k2 => ?_) (fun k2 => ?_)
  · have h := h.drew
    rw [hst, cap_2 k2]
    refine ⟨_, h.cell 3 rfl rfl, tp, h.cell 3 rfl rfl, tc, h.cell 3 rfl rfl, tq, h.cell 3 rfl rfl, _, h.cell 2 rfl rfl, _, h.cell 2 rfl rfl, _, h.cell 2 rfl rfl, _, h.cell 2 rfl rfl, _, h.cell 2 rfl rfl, _, h.cell 2 rfl rfl, _, h.cell 2 rfl rfl, td, h.cell 2 rfl rfl, tc, h.cell 3 rfl rfl, by omega, by omega, q, hq, _, h.rdR 6 rfl hq e2' rfl, _, h.rdR 6 rfl hq e2' rfl, _, h.rdR 6 rfl hq e2' rfl, _, h.rdR 6 rfl hq e2' rfl, _, h.rdR 6 rfl hq e2' rfl, ?_⟩
    exact retS (X := [BO ob o td, BI b r.Next tp tc tq]) (s115 (r := r) (o := o) (c := c) (((((((((h.front (n := 3) rfl).front (n := 3) rfl).front (n := 3) rfl).front (n := 3) rfl).front (n := 8) rfl).front (n := 8) rfl).front (n := 8) rfl).front (n := 8) rfl).front (n := 8) rfl) (by omega) (by omega))
  refine BIf.eq (fun k3 => ?_) (fun k3 => ?_)
  · rw [hst, cap_3 k3]
    refine ⟨_, h.cell 3 rfl rfl, tp, h.cell 3 rfl rfl, tc, h.cell 3 rfl rfl, tq, h.cell 3 rfl rfl, _, h.cell 2 rfl rfl, ?_⟩
    exact retS (X := [BO ob o td, BI b r.Next tp tc tq]) (s116 (r := r) (((((((((h.front (n := 3) rfl).front (n := 3) rfl).front (n := 3) rfl).front (n := 3) rfl).front (n := 8) rfl).front (n := 8) rfl).front (n := 8) rfl).front (n := 8) rfl).front (n := 8) rfl) hw hi)
  refine BIf.eq (fun k4 => ?_) (fun k4 => ?_)
  · rw [hst, cap_4 k4]
    refine ⟨_, h.cell 3 rfl rfl, tp, h.cell 3 rfl rfl, tc, h.cell 3 rfl rfl, tq, h.cell 3 rfl rfl, _, h.cell 2 rfl rfl, ?_⟩
    refine (s97 (((((((((h.front (n := 3) rfl).front (n := 3) rfl).front (n := 3) rfl).front (n := 3) rfl).front (n := 8) rfl).front (n := 8) rfl).front (n := 8) rfl).front (n := 8) rfl).front (n := 8) rfl) hw e1 e2').mono ?_
    rintro _ w111 ⟨tc2, rfl, h⟩
    refine ⟨_, tp, tc2, tq, rfl, ?_⟩
    have hdl : (dropC r.Caps o.Id c.Parent).length ≤ 128 := by
      unfold dropC; rw [List.length_map]
      have := List.length_filter_le (fun x : DCap => x.Id != o.Id) r.Caps; omega
    refine (s98 h (by omega) (by omega)).mono ?_
    rintro _ w117 ⟨tp2, rfl, h⟩
    refine ⟨_, tp2, tc2, tq, rfl, ?_⟩
    refine h.put 6 rfl rfl rfl (fun w122 h n122 => ?_)
    refine h.put 5 rfl rfl rfl (fun w123 h n123 => ?_)
    refine ⟨_, h.cell 6 rfl rfl, tp2, h.cell 6 rfl rfl, tc2, h.cell 6 rfl rfl, tq, h.cell 6 rfl rfl, _, h.cell 5 rfl rfl, _, h.cell 5 rfl rfl, N0, h.cell 5 rfl rfl, _, h.cell 5 rfl rfl, ?_⟩
    have h := (((((h.dropAt 8).dropAt 7).dropAt 6).dropAt 5)).nil none 1
    exact ⟨tp2, tc2, tq, N0, dropR r o.Id c.Parent, rfl, drop_abs e3, h⟩
  refine BIf.eq (fun k5 => ?_) (fun k5 => ?_)
  · have h := h.drew
    rw [hst, cap_5 k5]
    refine ⟨_, h.cell 3 rfl rfl, tp, h.cell 3 rfl rfl, tc, h.cell 3 rfl rfl, tq, h.cell 3 rfl rfl, _, h.cell 2 rfl rfl, _, h.cell 2 rfl rfl, _, h.cell 2 rfl rfl, _, h.cell 2 rfl rfl, _, h.cell 2 rfl rfl, _, h.cell 2 rfl rfl, _, h.cell 2 rfl rfl, td, h.cell 2 rfl rfl, tc, h.cell 3 rfl rfl, by omega, by omega, q, hq, _, h.rdR 6 rfl hq e2' rfl, _, h.rdR 6 rfl hq e2' rfl, _, h.rdR 6 rfl hq e2' rfl, _, h.rdR 6 rfl hq e2' rfl, _, h.rdR 6 rfl hq e2' rfl, ?_⟩
    exact retS (X := [BO ob o td, BI b r.Next tp tc tq]) (s117 (r := r) (o := o) (c := c) (((((((((h.front (n := 3) rfl).front (n := 3) rfl).front (n := 3) rfl).front (n := 3) rfl).front (n := 8) rfl).front (n := 8) rfl).front (n := 8) rfl).front (n := 8) rfl).front (n := 8) rfl) hw hi (hb.up [_, _, _, _]) hbs e2)
  have h := h.drew
  have hcr : capI r.abs o c = recvI r.abs o c := by unfold capI; rw [if_neg k2, if_neg k3, if_neg k4, if_neg k5]
  rw [hst, hcr]
  refine ⟨_, h.cell 3 rfl rfl, tp, h.cell 3 rfl rfl, tc, h.cell 3 rfl rfl, tq, h.cell 3 rfl rfl, _, h.cell 2 rfl rfl, _, h.cell 2 rfl rfl, _, h.cell 2 rfl rfl, _, h.cell 2 rfl rfl, _, h.cell 2 rfl rfl, _, h.cell 2 rfl rfl, _, h.cell 2 rfl rfl, td, h.cell 2 rfl rfl, tc, h.cell 3 rfl rfl, by omega, by omega, q, hq, _, h.rdR 6 rfl hq e2' rfl, _, h.rdR 6 rfl hq e2' rfl, _, h.rdR 6 rfl hq e2' rfl, _, h.rdR 6 rfl hq e2' rfl, _, h.rdR 6 rfl hq e2' rfl, ?_⟩
  exact retS (X := [BO ob o td, BI b r.Next tp tc tq]) (s118 (r := r) (o := o) (c := c) (td := td) (((((((((h.front (n := 3) rfl).front (n := 3) rfl).front (n := 3) rfl).front (n := 3) rfl).front (n := 8) rfl).front (n := 8) rfl).front (n := 8) rfl).front (n := 8) rfl).front (n := 8) rfl) hw hi e2)
end Go.Proofs.Ytbimoajgofcmbaa

/- Ports, capabilities, pipes: the reference's step. Conditions: none. -/
set_option linter.unusedVariables false
set_option linter.unusedSimpArgs false
namespace Go.Proofs.Ytbimoajgofcmbaa
open Go Go.Den
theorem step_wp {d : DIpc} {o : DIpcOp} (h : ¬ BadO o) (k : 9 ≤ o.Kind) : stepI d o = withP d o := by unfold stepI withP; rw [if_neg h, if_neg (by omega), if_neg (by omega), if_neg (by omega), if_pos k] <;> rfl
theorem step_wc {d : DIpc} {o : DIpcOp} (h : ¬ BadO o) (k : 2 ≤ o.Kind ∧ o.Kind ≤ 6) : stepI d o = withC d o := by unfold stepI withC; rw [if_neg h, if_neg (by omega), if_neg (by omega), if_neg (by omega), if_neg (by omega)] <;> rfl
def idsF (cs : List DCap) (hl : Int) : List Int := (cs.filter (fun c => c.Holder == hl)).map DCap.Id
theorem nd_fil {cs : List DCap} {k : Nat} {c : DCap} (hnd : (cs.map DCap.Id).Nodup) (hk : cs[k]? = some c) : cs.filter (fun x => x.Id != c.Id) = cs.take k ++ cs.drop (k + 1) := by
  have hlt := (List.getElem?_eq_some_iff.1 hk).1
  have he : cs[k] = c := (List.getElem?_eq_some_iff.1 hk).2
  have huniq : ∀ (j : Nat) (y : DCap), cs[j]? = some y → y.Id = c.Id → j = k := fun j y hj hy =>
    nd_get hnd (x := c.Id) (by rw [List.getElem?_map, hj]; simp [hy]) (by rw [List.getElem?_map, hk]; rfl)
  have e : cs = cs.take k ++ c :: cs.drop (k + 1) := by rw [← he, List.getElem_cons_drop hlt, List.take_append_drop]
  conv => lhs; rw [e]
  rw [List.filter_append, List.filter_cons_of_neg (by simp)]
  congr 1
  · refine List.filter_eq_self.2 (fun y hy => ?_)
    obtain ⟨j, hj⟩ := List.getElem?_of_mem hy
    have hjk : j < k := by have := (List.getElem?_eq_some_iff.1 hj).1; simp at this; omega
    rw [List.getElem?_take_of_lt hjk] at hj
    have hne : y.Id ≠ c.Id := fun h => by have := huniq j y hj h; omega
    simpa using hne
  · refine List.filter_eq_self.2 (fun y hy => ?_)
    obtain ⟨j, hj⟩ := List.getElem?_of_mem hy
    rw [List.getElem?_drop] at hj
    have hne : y.Id ≠ c.Id := fun h => by have := huniq _ y hj h; omega
    simpa using hne
theorem dropC_nd {cs : List DCap} {id up : Int} (hnd : (cs.map DCap.Id).Nodup) : ((dropC cs id up).map DCap.Id).Nodup := by
  have e : (dropC cs id up).map DCap.Id = (cs.filter (fun x => x.Id != id)).map DCap.Id := by
    unfold dropC
    rw [List.map_map]
    refine List.map_congr_left (fun x _ => ?_)
    exact re_id _ _ _
  rw [e]
  exact hnd.sublist ((List.filter_sublist).map _)
theorem re_holder (id up : Int) (x : DCap) : (reCap id up x).Holder = x.Holder := by unfold reCap; split <;> rfl
theorem idsF_drop {cs : List DCap} {id up hl : Int} : idsF (dropC cs id up) hl = ((cs.filter (fun x => x.Id != id)).filter (fun c => c.Holder == hl)).map DCap.Id := by
  unfold idsF dropC
  rw [List.filter_map, List.map_map]
  have e1 : (fun c : DCap => c.Holder == hl) ∘ reCap id up = fun c => c.Holder == hl := by
    funext x
    show ((reCap id up x).Holder == hl) = _
    rw [re_holder]
  rw [e1]
  refine List.map_congr_left (fun x _ => ?_)
  exact re_id _ _ _
theorem ids_drop {cs : List DCap} {k : Nat} {c : DCap} {up hl : Int} (hnd : (cs.map DCap.Id).Nodup) (hk : cs[k]? = some c) (hh : c.Holder = hl) (hpre : ∀ x, x ∈ cs.take k → x.Holder ≠ hl) : idsF cs hl = c.Id :: idsF (dropC cs c.Id up) hl := by
  have hlt := (List.getElem?_eq_some_iff.1 hk).1
  have he : cs[k] = c := (List.getElem?_eq_some_iff.1 hk).2
  have e : cs = cs.take k ++ c :: cs.drop (k + 1) := by rw [← he, List.getElem_cons_drop hlt, List.take_append_drop]
  have hno : (cs.take k).filter (fun c => c.Holder == hl) = [] := List.filter_eq_nil_iff.2 (fun x hx => by simpa using hpre x hx)
  rw [idsF_drop, nd_fil hnd hk, List.filter_append, hno, List.nil_append]
  unfold idsF
  conv => lhs; rw [e]
  rw [List.filter_append, hno, List.nil_append, List.filter_cons_of_pos (by simpa using hh)]
  rfl
theorem dropC_take {cs : List DCap} {k : Nat} {c : DCap} {up hl : Int} (hnd : (cs.map DCap.Id).Nodup) (hk : cs[k]? = some c) (hpre : ∀ x, x ∈ cs.take k → x.Holder ≠ hl) : ∀ x, x ∈ (dropC cs c.Id up).take k → x.Holder ≠ hl := by
  have hlt := (List.getElem?_eq_some_iff.1 hk).1
  intro x hx
  unfold dropC at hx
  rw [nd_fil hnd hk, ← List.map_take, List.take_append_of_le_length (by simp; omega), List.take_take, Nat.min_self] at hx
  obtain ⟨y, hy, rfl⟩ := List.mem_map.1 hx
  rw [re_holder]
  exact hpre y hy
theorem dropC_len {cs : List DCap} {k : Nat} {c : DCap} {up : Int} (hnd : (cs.map DCap.Id).Nodup) (hk : cs[k]? = some c) : (dropC cs c.Id up).length + 1 = cs.length := by
  have hlt := (List.getElem?_eq_some_iff.1 hk).1
  unfold dropC
  rw [List.length_map, nd_fil hnd hk, List.length_append, List.length_take, List.length_drop]
  omega
theorem nd_ix {d : DIpc} {k : Nat} {c : DCap} (hnd : (d.Caps.map DCap.Id).Nodup) (hk : d.Caps[k]? = some c) : capIx d c.Id = k ∧ capOf d c.Id = some c := by
  rcases capIx_cases d c.Id with ⟨_, _, e3⟩ | ⟨k', c', e1, e2, e3, e4⟩
  · exact absurd rfl (e3 c (List.mem_of_getElem? hk))
  · have hkk : k' = k := nd_get hnd (x := c.Id) (by rw [List.getElem?_map, e2]; simp [e4]) (by rw [List.getElem?_map, hk]; rfl)
    subst hkk
    rw [hk] at e2
    cases e2
    exact ⟨e1, e3⟩
theorem wf_caps {r : RIpc} {cs : List DCap} (h : IWf r.abs) (hl : cs.length ≤ 1048576) : IWf (⟨r.Next, r.Ports, cs, r.Pipes⟩ : RIpc).abs :=
  ⟨h.msgs, h.pipes, ⟨h.pw.pipes⟩, ⟨hl, h.few.2.1, h.few.2.2⟩, h.queues⟩
set_option maxHeartbeats 4000000 in
theorem s67 {w0 w : World} {F : List Asr} {tp tc tq td : Sl} {r : RIpc} {o : DIpcOp} (h : SH w0 w (sP tp tc tq r ++ F)) (hw : IWf r.abs) (hi : IOk r.abs) (hb : LentB w0 F td o.Data) (hbs : o.Data.length ≤ 1048576) :
    CallW Try.prog 67 #[iV r.Next tp tc tq, .agg ⟨opV o td⟩] w (KS w0 F (stepI r.abs o)) := by
  refine go67 (a0_0 := r.Next) (a0_1 := tp) (a0_2 := tc) (a0_3 := tq) (a1_0 := o.Kind) (a1_1 := o.Holder) (a1_2 := o.Id) (a1_3 := o.To) (a1_4 := o.Rights) (a1_5 := o.Cap) (a1_6 := o.N) (a1_7 := td) ?_
  unfold W67
  have h : SH w0 w (rP tp r.Ports :: bP r.Ports :: rC tc r.Caps :: rQ tq r.Pipes :: bQ r.Pipes :: F) := h
  have hnx : 0 ≤ r.Next ∧ r.Next ≤ 1099511627776 := hi.next
  have hfc : r.Caps.length ≤ 128 := hi.caps
  have hfp : r.Ports.length ≤ 32 := by rw [← abs_ports]; exact hi.ports
  have hfq : r.Pipes.length ≤ 32 := by rw [← abs_pipes]; exact hi.pipes
  have htp := h.len 0 rfl
  have hcl := h.len 2 rfl
  have htq := h.len 3 rfl
  rw [recs_len] at hcl htp htq
  refine h.alloc (fun w1 h e1 n1 => ?_)
  refine h.alloc (fun w2 h e2 n2 => ?_)
  refine h.alloc (fun w3 h e3 n3 => ?_)
  refine h.alloc (fun w4 h e4 n4 => ?_)
  have h : SH w0 w4 (BR w3.heap.size 0 0 N0 0 :: BI w2.heap.size 0 N0 N0 N0 :: BO w1.heap.size o td :: BI w.heap.size r.Next tp tc tq :: rP tp r.Ports :: bP r.Ports :: rC tc r.Caps :: rQ tq r.Pipes :: bQ r.Pipes :: F) := h
  generalize w3.heap.size = rb at *
  generalize w2.heap.size = ib at *
  generalize w1.heap.size = ob at *
  generalize w.heap.size = b at *
  refine ⟨_, h.cell 2 rfl rfl, c84.mono ?_⟩
  rintro _ w7 ⟨rfl, rfl⟩
  refine ⟨_, rfl, ?_⟩
  refine JoinW.cut1 (fun (x : Bool) w' => x = decide (o.Holder < 0 ∨ 64 ≤ o.Holder ∨ o.Kind < 1) ∧ w' = w7) (BIf.of (fun hx => ⟨?_, rfl⟩) (fun hx => ⟨_, h.cell 2 rfl rfl, ?_, rfl⟩)) ?_
  · rw [Bool.eq_iff_iff]; simp at hx ⊢; omega
  · rw [Bool.eq_iff_iff]; simp at hx ⊢; omega
  rintro (x : Bool) w11 ⟨rfl, rfl⟩
  refine JoinW.cut1 (fun (x : Bool) w' => x = decide (BadO o) ∧ w' = w11) (BIf.dec (fun hx => ⟨(decide_eq_true (by unfold BadO; omega)).symm, rfl⟩) (fun hx => ⟨_, h.cell 2 rfl rfl, by rw [Bool.eq_iff_iff, decide_eq_true_iff, decide_eq_true_iff]; unfold BadO; omega, rfl⟩)) ?_
  rintro (x : Bool) w14 ⟨rfl, rfl⟩
  refine BIf.dec (fun hbad => errS (M := [_]) (step_bad hbad) h) (fun hbad => ?_)
  have hbad2 := hbad
  unfold BadO at hbad2
  refine ⟨_, h.cell 2 rfl rfl, ?_⟩
  refine BIf.eq (fun k1 => ?_) (fun k1 => ?_)
  · -- a new port
    refine ⟨tp, h.cell 3 rfl rfl, ?_⟩
    refine JoinW.cut1 (fun (x : Bool) w' => x = decide (32 ≤ r.Ports.length ∨ 128 ≤ r.Caps.length) ∧ w' = w14) (BIf.dec (fun e => ⟨(decide_eq_true (.inl (by omega))).symm, rfl⟩) (fun e => ⟨tc, h.cell 3 rfl rfl, by rw [Bool.eq_iff_iff, decide_eq_true_iff, decide_eq_true_iff]; omega, rfl⟩)) ?_
    rintro (x : Bool) w43 ⟨rfl, rfl⟩
    have hst := step_1 (d := r.abs) hbad k1
    refine BIf.dec (fun hfull => errS (M := [_]) (by rw [hst]; unfold newPort; rw [if_pos (by rw [abs_ports]; exact hfull)]) h) (fun hfull => ?_)
    have hres : stepI r.abs o = (⟨r.Next + 2, r.abs.Ports ++ [⟨r.Next + 1, []⟩], r.Caps ++ [⟨r.Next + 2, o.Holder, r.Next + 1, 7, 0⟩], r.abs.Pipes⟩, resN (r.Next + 2)) := by rw [hst]; unfold newPort; rw [if_neg (by rw [abs_ports]; exact hfull)]; rfl
    rw [hres]
    refine ⟨_, h.cell 3 rfl rfl, ?_⟩
    rw [w64 (n := r.Next + 1) (by omega) (by omega)]
    refine h.setV 3 rfl rfl (fun w69 h n69 => ?_)
    refine ⟨tp, h.cell 3 rfl rfl, _, h.cell 3 rfl rfl, ?_⟩
    refine h.alloc (fun w72 h e72 n72 => ?_)
    refine LetW_iff.2 (SH.appendR1 (f := RPort.cells) (x := ⟨r.Next + 1, ⟨some ⟨w69.heap.size, 0, none⟩, 0, 0⟩, []⟩) ((((((h.dropAt 0).front (n := 3) rfl).front (n := 3) rfl).front (n := 3) rfl).front (n := 3) rfl).front (n := 4) rfl) rfl rfl rfl (by decide) (by show (_ + _) * 32 ≤ _; omega) (plain_port _) (fun tp2 w75 h htp2 _ => ?_))
    refine h.setV 4 rfl rfl (fun w76 h n76 => ?_)
    have h : SH w0 w76 (rP tp2 (r.Ports ++ [⟨r.Next + 1, ⟨some ⟨w69.heap.size, 0, none⟩, 0, 0⟩, []⟩]) :: BR rb 0 0 N0 0 :: BI ib 0 N0 N0 N0 :: BO ob o td :: BI b (r.Next + 1) tp2 tc tq :: bP r.Ports :: rC tc r.Caps :: rQ tq r.Pipes :: bQ r.Pipes :: F) := h
    refine ⟨_, h.cell 4 rfl rfl, tp2, h.cell 4 rfl rfl, tc, h.cell 4 rfl rfl, tq, h.cell 4 rfl rfl, _, h.cell 3 rfl rfl, _, h.cell 4 rfl rfl, ?_⟩
    refine (s96 (((((((h.front (n := 5) rfl).front (n := 5) rfl).front (n := 5) rfl).front (n := 5) rfl).front (n := 5) rfl).front (n := 5) rfl).front (n := 6) rfl) (by omega) (by omega) (by omega)).mono ?_
    rintro _ w84 ⟨tc2, rfl, h⟩
    refine ⟨_, tp2, tc2, tq, rfl, ?_⟩
    refine h.put 5 rfl rfl rfl (fun w89 h n89 => ?_)
    have h := h.drew
    refine ⟨_, h.cell 5 rfl rfl, tp2, h.cell 5 rfl rfl, tc2, h.cell 5 rfl rfl, tq, h.cell 5 rfl rfl, _, h.cell 5 rfl rfl, ?_⟩
    refine h.put 3 rfl rfl rfl (fun w95 h n95 => ?_)
    refine ⟨⟨_, h.cell 5 rfl rfl, rfl⟩, ?_⟩
    refine h.put 2 rfl rfl rfl (fun w97 h n97 => ?_)
    refine ⟨_, h.cell 3 rfl rfl, tp2, h.cell 3 rfl rfl, tc2, h.cell 3 rfl rfl, tq, h.cell 3 rfl rfl, _, h.cell 2 rfl rfl, _, h.cell 2 rfl rfl, N0, h.cell 2 rfl rfl, _, h.cell 2 rfl rfl, ?_⟩
    have h := (((((((((h.dropAt 5).dropAt 4).dropAt 3).dropAt 2).front (n := 0) rfl).front (n := 1) rfl).front (n := 2) rfl)).bagNil msgA).nil (some ⟨w69.heap.size, 0, none⟩) 3
    have h := SH.bagSnoc (f := portA) (x := (⟨r.Next + 1, ⟨some ⟨w69.heap.size, 0, none⟩, 0, 0⟩, []⟩ : RPort)) (SH.allIn (As := [rM ⟨some ⟨w69.heap.size, 0, none⟩, 0, 0⟩ [], bM []]) h)
    have h := (((h.front (n := 0) rfl).front (n := 1) rfl)).nil none 1
    have e : r.Next + 1 + 1 = r.Next + 2 := by omega
    rw [e] at h
    refine ⟨tp2, tc2, tq, N0, ⟨r.Next + 2, r.Ports ++ [⟨r.Next + 1, ⟨some ⟨w69.heap.size, 0, none⟩, 0, 0⟩, []⟩], r.Caps ++ [⟨r.Next + 2, o.Holder, r.Next + 1, 7, 0⟩], r.Pipes⟩, ?_, ?_, ?_⟩
    · rw [e]; rfl
    · unfold RIpc.abs
      rw [List.map_append]
      rfl
    · exact h
  refine BIf.eq (fun k7 => ?_) (fun k7 => ?_)
  · -- a holder gone
    have hst : stepI r.abs o = goneI r.abs o := step_7 hbad k7
    have hnd : (r.Caps.map DCap.Id).Nodup := by
      rw [List.nodup_iff_pairwise_ne, List.pairwise_map]
      refine List.pairwise_iff_getElem.2 (fun i j hi2 hj hij => ?_)
      have := (cap_mono hi (List.getElem?_eq_getElem (l := r.abs.Caps) hi2) (List.getElem?_eq_getElem (l := r.abs.Caps) hj)).1.2 hij
      exact fun he => absurd this (by have : (r.abs.Caps[i]).Id = (r.abs.Caps[j]).Id := he; omega)
    refine LoopW.m2 (fun (n : Int) (i : Int) w' => ∃ (tc2 : Sl) (cs : List DCap) (k m : Nat), i = k ∧ n = m ∧ k ≤ cs.length ∧ cs.length + m = r.Caps.length ∧ (cs.map DCap.Id).Nodup ∧ (∀ x, x ∈ cs.take k → x.Holder ≠ o.Holder) ∧ m + (idsF cs o.Holder).length = (idsOf r.abs o.Holder).length ∧ (idsF cs o.Holder).foldl dropF (⟨r.Next, r.Ports, cs, r.Pipes⟩ : RIpc).abs = (idsOf r.abs o.Holder).foldl dropF r.abs ∧
      SH w0 w' (BR rb 0 0 N0 0 :: BI ib 0 N0 N0 N0 :: BO ob o td :: BI b r.Next tp tc2 tq :: rP tp r.Ports :: bP r.Ports :: rC tc2 cs :: rQ tq r.Pipes :: bQ r.Pipes :: F)) (fun (n : Int) (i : Int) _ => ((r.Caps.length : Int) - n - i).toNat) ⟨tc, r.Caps, 0, 0, rfl, rfl, by omega, by omega, hnd, by simp, by rw [Nat.zero_add]; rfl, rfl, h⟩ ?_
    clear h
    rintro (n : Int) (i : Int) wl ⟨tc2, cs, k, m, rfl, rfl, hk, hcm, hnd2, hpre, hids, hfold, h⟩ J hJ
    have hcl2 := h.len 6 rfl
    rw [recs_len] at hcl2
    refine ⟨tc2, h.cell 3 rfl rfl, BIf.dec (fun hlt => ?_) (fun hge => ?_)⟩
    · have hget : cs[k]? = some cs[k] := List.getElem?_eq_getElem (by omega)
      generalize cs[k] = y at *
      have h := h.drew
      obtain ⟨q, hq⟩ := h.rowQ 6 rfl hget
      simp only [Int.toNat_natCast]
      refine ⟨tc2, h.cell 3 rfl rfl, by omega, by omega, q, hq, _, h.rdR 6 rfl hq hget rfl, _, h.cell 2 rfl rfl, ?_⟩
      refine BIf.eq (fun he => ?_) (fun he => ?_)
      · have h := h.drew
        refine ⟨_, h.cell 3 rfl rfl, tp, h.cell 3 rfl rfl, tc2, h.cell 3 rfl rfl, tq, h.cell 3 rfl rfl, tc2, h.cell 3 rfl rfl, by omega, by omega, q, hq, _, h.rdR 6 rfl hq hget rfl, ?_⟩
        have hix := nd_ix (d := (⟨r.Next, r.Ports, cs, r.Pipes⟩ : RIpc).abs) hnd2 hget
        refine (s97 (r := ⟨r.Next, r.Ports, cs, r.Pipes⟩) (((((((((h.front (n := 3) rfl).front (n := 3) rfl).front (n := 3) rfl).front (n := 3) rfl).front (n := 8) rfl).front (n := 8) rfl).front (n := 8) rfl).front (n := 8) rfl).front (n := 8) rfl) (wf_caps hw (by omega)) hix.1 hget).mono ?_
        rintro _ w124 ⟨tc3, rfl, h⟩
        refine ⟨_, tp, tc3, tq, rfl, ?_⟩
        refine h.put 8 rfl rfl rfl (fun w129 h n129 => ?_)
        rw [w64 (n := (m : Int) + 1) (by omega) (by omega)]
        have hdl := dropC_len (up := y.Parent) hnd2 hget
        have hid := ids_drop (up := y.Parent) hnd2 hget he hpre
        refine hJ _ _ _ ⟨tc3, dropC cs y.Id y.Parent, k, m + 1, rfl, by omega, by omega, by omega, dropC_nd hnd2, dropC_take hnd2 hget hpre, ?_, ?_, (((((((((h.front (n := 4) rfl).front (n := 4) rfl).front (n := 4) rfl).front (n := 4) rfl).front (n := 4) rfl).front (n := 8) rfl).front (n := 8) rfl).front (n := 8) rfl).front (n := 8) rfl)⟩ (by omega)
        · rw [hid, List.length_cons] at hids; omega
        · rw [← hfold, hid, List.foldl_cons]
          congr 1
          have : dropF (⟨r.Next, r.Ports, cs, r.Pipes⟩ : RIpc).abs y.Id = ⟨r.Next, r.Ports.map RPort.abs, dropC cs y.Id y.Parent, r.Pipes.map RPipe.abs⟩ := by
            unfold dropF
            rw [hix.2]
            rfl
          exact this.symm
      · rw [w64 (n := (k : Int) + 1) (by omega) (by omega)]
        refine hJ _ _ _ ⟨tc2, cs, k + 1, m, by omega, rfl, by omega, hcm, hnd2, fun x hx => ?_, hids, hfold, h⟩ (by omega)
        rw [take_snoc' hget] at hx
        rcases List.mem_append.1 hx with hx | hx
        · exact hpre x hx
        · rw [List.mem_singleton.1 hx]; exact he
    · have hke : k = cs.length := by omega
      rw [hke, List.take_length] at hpre
      have hnil : idsF cs o.Holder = [] := by
        unfold idsF
        rw [List.filter_eq_nil_iff.2 (fun x hx => by simpa using hpre x hx)]
        rfl
      rw [hnil] at hids hfold
      refine ⟨_, h.cell 3 rfl rfl, tp, h.cell 3 rfl rfl, tc2, h.cell 3 rfl rfl, tq, h.cell 3 rfl rfl, ?_⟩
      refine (s98 (((((((h.front (n := 3) rfl).front (n := 3) rfl).front (n := 3) rfl).front (n := 3) rfl).front (n := 6) rfl).front (n := 6) rfl).front (n := 6) rfl) (by omega) (by omega)).mono ?_
      rintro _ w135 ⟨tp2, rfl, h⟩
      refine ⟨_, tp2, tc2, tq, rfl, ?_⟩
      refine h.put 4 rfl rfl rfl (fun w140 h n140 => ?_)
      refine h.put 3 rfl rfl rfl (fun w141 h n141 => ?_)
      refine ⟨_, h.cell 4 rfl rfl, tp2, h.cell 4 rfl rfl, tc2, h.cell 4 rfl rfl, tq, h.cell 4 rfl rfl, _, h.cell 3 rfl rfl, _, h.cell 3 rfl rfl, N0, h.cell 3 rfl rfl, _, h.cell 3 rfl rfl, ?_⟩
      have h := (((((h.dropAt 6).dropAt 5).dropAt 4).dropAt 3)).nil none 1
      have hfold : (⟨r.Next, r.Ports, cs, r.Pipes⟩ : RIpc).abs = (idsOf r.abs o.Holder).foldl dropF r.abs := hfold
      have hm : m = (idsOf r.abs o.Holder).length := by simpa using hids
      have hres : stepI r.abs o = (cleanF (⟨r.Next, r.Ports, cs, r.Pipes⟩ : RIpc).abs, resN (m : Int)) := by rw [hst]; unfold goneI; rw [← hfold, hm]
      rw [hres]
      refine ⟨tp2, tc2, tq, N0, ⟨r.Next, r.Ports.filter (hasR cs), cs, r.Pipes⟩, rfl, ?_, h⟩
      unfold cleanF RIpc.abs
      dsimp only
      rw [filter_abs]
  refine BIf.eq (fun k8 => ?_) (fun k8 => ?_)
  · -- a new pipe
    have hst := step_8 (d := r.abs) hbad k8
    refine ⟨tq, h.cell 3 rfl rfl, BIf.dec (fun hfull => errS (M := [_]) (by rw [hst]; unfold newPipe; rw [if_pos (by rw [abs_pipes]; omega)]) h) (fun hfull => ?_)⟩
    have hres : stepI r.abs o = (⟨r.Next + 1, r.abs.Ports, r.Caps, r.abs.Pipes ++ [⟨r.Next + 1, 1, 1, []⟩]⟩, resN (r.Next + 1)) := by rw [hst]; unfold newPipe; rw [if_neg (by rw [abs_pipes]; omega)]; rfl
    rw [hres]
    refine ⟨_, h.cell 3 rfl rfl, ?_⟩
    rw [w64 (n := r.Next + 1) (by omega) (by omega)]
    refine h.setV 3 rfl rfl (fun w176 h n176 => ?_)
    refine ⟨tq, h.cell 3 rfl rfl, _, h.cell 3 rfl rfl, ?_⟩
    refine LetW_iff.2 (SH.appendR1 (f := RPipe.cells) (x := ⟨r.Next + 1, 1, 1, N0, []⟩) ((((((((h.front (n := 6) rfl).front (n := 6) rfl).front (n := 6) rfl).front (n := 6) rfl).front (n := 6) rfl).front (n := 6) rfl).front (n := 6) rfl).front (n := 7) rfl) rfl rfl rfl (by decide) (by show (_ + _) * 48 ≤ _; omega) (plain_pipe _) (fun tq2 w181 h htq2 _ => ?_))
    refine h.setV 4 rfl rfl (fun w182 h n182 => ?_)
    have h : SH w0 w182 (rQ tq2 (r.Pipes ++ [⟨r.Next + 1, 1, 1, N0, []⟩]) :: BR rb 0 0 N0 0 :: BI ib 0 N0 N0 N0 :: BO ob o td :: BI b (r.Next + 1) tp tc tq2 :: rP tp r.Ports :: bP r.Ports :: rC tc r.Caps :: bQ r.Pipes :: F) := h
    have h := h.drew
    refine ⟨_, h.cell 4 rfl rfl, tp, h.cell 4 rfl rfl, tc, h.cell 4 rfl rfl, tq2, h.cell 4 rfl rfl, _, h.cell 4 rfl rfl, ?_⟩
    refine h.put 2 rfl rfl rfl (fun w188 h n188 => ?_)
    refine ⟨⟨_, h.cell 4 rfl rfl, rfl⟩, ?_⟩
    refine h.put 1 rfl rfl rfl (fun w190 h n190 => ?_)
    refine ⟨_, h.cell 2 rfl rfl, tp, h.cell 2 rfl rfl, tc, h.cell 2 rfl rfl, tq2, h.cell 2 rfl rfl, _, h.cell 1 rfl rfl, _, h.cell 1 rfl rfl, N0, h.cell 1 rfl rfl, _, h.cell 1 rfl rfl, ?_⟩
    have h := ((((((((((h.dropAt 4).dropAt 3).dropAt 2).dropAt 1).front (n := 0) rfl).front (n := 3) rfl).front (n := 3) rfl).front (n := 3) rfl).front (n := 4) rfl)).nil none 1
    have h := SH.bagSnoc (f := pipeA) (x := (⟨r.Next + 1, 1, 1, N0, []⟩ : RPipe)) h
    have h := ((((((h.front (n := 0) rfl).front (n := 4) rfl).front (n := 4) rfl).front (n := 4) rfl).front (n := 4) rfl)).nil none 1
    refine ⟨tp, tc, tq2, N0, ⟨r.Next + 1, r.Ports, r.Caps, r.Pipes ++ [⟨r.Next + 1, 1, 1, N0, []⟩]⟩, rfl, ?_, ?_⟩
    · unfold RIpc.abs
      rw [List.map_append]
      rfl
    · exact h
  refine JoinW.cut1 (fun (x : Bool) w' => x = decide (9 ≤ o.Kind) ∧ w' = w14) (BIf.eq (fun e => ⟨by rw [Bool.eq_iff_iff]; simp; omega, rfl⟩) (fun e => BIf.eq (fun e2 => ⟨by rw [Bool.eq_iff_iff]; simp; omega, rfl⟩) (fun e2 => ⟨by rw [Bool.eq_iff_iff]; simp; omega, rfl⟩))) ?_
  rintro (x : Bool) w201 ⟨rfl, rfl⟩
  refine BIf.dec (fun h9 => ?_) (fun h9 => ?_)
  · rw [step_wp hbad h9]
    refine ⟨_, h.cell 3 rfl rfl, tp, h.cell 3 rfl rfl, tc, h.cell 3 rfl rfl, tq, h.cell 3 rfl rfl, _, h.cell 2 rfl rfl, _, h.cell 2 rfl rfl, _, h.cell 2 rfl rfl, _, h.cell 2 rfl rfl, _, h.cell 2 rfl rfl, _, h.cell 2 rfl rfl, _, h.cell 2 rfl rfl, td, h.cell 2 rfl rfl, ?_⟩
    exact retS (X := [BO ob o td, BI b r.Next tp tc tq]) (s99 (r := r) (o := o) (((((((((h.front (n := 3) rfl).front (n := 3) rfl).front (n := 3) rfl).front (n := 3) rfl).front (n := 8) rfl).front (n := 8) rfl).front (n := 8) rfl).front (n := 8) rfl).front (n := 8) rfl) hw hi (hb.up [_, _, _, _]) hbs)
  · rw [step_wc hbad (by omega)]
    refine ⟨_, h.cell 3 rfl rfl, tp, h.cell 3 rfl rfl, tc, h.cell 3 rfl rfl, tq, h.cell 3 rfl rfl, _, h.cell 2 rfl rfl, _, h.cell 2 rfl rfl, _, h.cell 2 rfl rfl, _, h.cell 2 rfl rfl, _, h.cell 2 rfl rfl, _, h.cell 2 rfl rfl, _, h.cell 2 rfl rfl, td, h.cell 2 rfl rfl, ?_⟩
    exact retS (X := [BO ob o td, BI b r.Next tp tc tq]) (s100 (r := r) (o := o) (((((((((h.front (n := 3) rfl).front (n := 3) rfl).front (n := 3) rfl).front (n := 3) rfl).front (n := 8) rfl).front (n := 8) rfl).front (n := 8) rfl).front (n := 8) rfl).front (n := 8) rfl) hw hi (hb.up [_, _, _, _]) hbs)
end Go.Proofs.Ytbimoajgofcmbaa

/- Ports, capabilities, pipes: a state that can be stays one (plain). Conditions: none. -/
set_option linter.unusedVariables false
set_option linter.unusedSimpArgs false
namespace Go.Proofs.Ytbimoajgofcmbaa
open Go Go.Den
structure CapJ (d : DIpc) (c : DCap) : Prop where
  id1 : 1 ≤ c.Id
  idN : c.Id ≤ d.Next
  hold : 0 ≤ c.Holder ∧ c.Holder < 64
  r1 : 1 ≤ c.Rights
  r7 : c.Rights ≤ 7
  port : ∃ p, p ∈ d.Ports ∧ p.Id = c.Port
  par : c.Parent = 0 ∨ ∃ p, p ∈ d.Caps ∧ p.Id = c.Parent ∧ p.Id < c.Id ∧ p.Port = c.Port ∧ amongB c.Rights p.Rights = true
structure MsgJ (d : DIpc) (m : DMsg) : Prop where
  ok : MsgOk d m
  rng : ∀ x, x ∈ m.Data → 0 ≤ x ∧ x ≤ 255
structure PortJ (d : DIpc) (p : DPort) : Prop where
  id1 : 1 ≤ p.Id
  idN : p.Id ≤ d.Next
  few : p.Queue.length ≤ 8
  noCap : ∀ c, c ∈ d.Caps → c.Id ≠ p.Id
  noPipe : ∀ c, c ∈ d.Pipes → c.Id ≠ p.Id
  msgs : ∀ m, m ∈ p.Queue → MsgJ d m
structure PipeJ (d : DIpc) (p : DPipe) : Prop where
  id1 : 1 ≤ p.Id
  idN : p.Id ≤ d.Next
  noCap : ∀ c, c ∈ d.Caps → c.Id ≠ p.Id
  few : p.Data.length ≤ 512
  r : 0 ≤ p.Readers ∧ p.Readers ≤ 64
  w : 0 ≤ p.Writers ∧ p.Writers ≤ 64
  pos : 0 < p.Readers + p.Writers
  rng : ∀ x, x ∈ p.Data → 0 ≤ x ∧ x ≤ 255
structure J0 (d : DIpc) : Prop where
  nx : 0 ≤ d.Next
  caps : d.Caps.length ≤ 128
  ports : d.Ports.length ≤ 32
  pipes : d.Pipes.length ≤ 32
  cs : d.Caps.Pairwise (fun a b => a.Id < b.Id)
  ps : d.Ports.Pairwise (fun a b => a.Id < b.Id)
  qs : d.Pipes.Pairwise (fun a b => a.Id < b.Id)
  cap : ∀ c, c ∈ d.Caps → CapJ d c
  port : ∀ p, p ∈ d.Ports → PortJ d p
  pipe : ∀ p, p ∈ d.Pipes → PipeJ d p
def HasJ (d : DIpc) : Prop := ∀ p, p ∈ d.Ports → hasCap d.Caps p = true
theorem pw_sorted {α : Type} {f : α → Int} {l : List α} (h : l.Pairwise (fun a b => f a < f b)) {i : Nat} {x z : α} (hx : l[i]? = some x) (hi : 0 < i) (hz : l[i - 1]? = some z) : f z < f x := by
  obtain ⟨h1, e1⟩ := List.getElem?_eq_some_iff.1 hx
  obtain ⟨h2, e2⟩ := List.getElem?_eq_some_iff.1 hz
  have := List.pairwise_iff_getElem.1 h (i - 1) i h2 h1 (by omega)
  rw [e1, e2] at this
  exact this
theorem pw_uniq {α : Type} {f : α → Int} {l : List α} (h : l.Pairwise (fun a b => f a < f b)) {x y : α} (hx : x ∈ l) (hy : y ∈ l) (he : f x = f y) : x = y := by
  obtain ⟨i, hi⟩ := List.getElem?_of_mem hx
  obtain ⟨j, hj⟩ := List.getElem?_of_mem hy
  obtain ⟨h1, e1⟩ := List.getElem?_eq_some_iff.1 hi
  obtain ⟨h2, e2⟩ := List.getElem?_eq_some_iff.1 hj
  have hp := List.pairwise_iff_getElem.1 h
  rcases Nat.lt_trichotomy i j with hlt | hee | hlt
  · have := hp i j h1 h2 hlt; rw [e1, e2] at this; omega
  · subst hee; rw [← e1, ← e2]
  · have := hp j i h2 h1 hlt; rw [e1, e2] at this; omega
theorem J0.iok {d : DIpc} (h : J0 d) (hh : HasJ d) (hn : d.Next ≤ 1099511627776) : IOk d := by
  refine ⟨⟨h.nx, hn⟩, h.caps, h.ports, h.pipes, fun i c hc => ?_, fun i p hp => ?_, fun i p hp => ?_⟩
  · have hm := List.mem_of_getElem? hc
    have hj := h.cap c hm
    refine ⟨hj.id1, hj.idN, fun z hi hz => pw_sorted h.cs hc hi hz, hj.hold, hj.r1, hj.r7, ?_, ?_⟩
    · obtain ⟨p, hp, he⟩ := hj.port
      rcases portIx_cases d c.Port with ⟨_, _, e3⟩ | ⟨k, _, e1, _⟩
      · exact absurd he (e3 p hp)
      · omega
    · rcases hj.par with h0 | ⟨p, hp, h1, h2, h3, h4⟩
      · exact .inl h0
      · rcases capIx_cases d c.Parent with ⟨_, _, e3⟩ | ⟨k, p', e1, e2, _, e4⟩
        · exact absurd h1 (e3 p hp)
        · have : p' = p := pw_uniq h.cs (List.mem_of_getElem? e2) hp (by rw [e4, h1])
          subst this
          exact .inr ⟨k, p', e1, e2, by omega, h3, h4⟩
  · have hm := List.mem_of_getElem? hp
    have hj := h.port p hm
    refine ⟨hj.id1, hj.idN, fun z hi hz => pw_sorted h.ps hp hi hz, hj.few, ?_, ?_, fun m hm => (hj.msgs m hm).ok, ?_⟩
    · rcases capIx_cases d p.Id with ⟨e1, _, _⟩ | ⟨k, c, _, e2, _, e4⟩
      · omega
      · exact absurd e4 (hj.noCap c (List.mem_of_getElem? e2))
    · rcases pipeIx_cases d p.Id with ⟨e1, _, _⟩ | ⟨k, c, _, e2, _, e4⟩
      · omega
      · exact absurd e4 (hj.noPipe c (List.mem_of_getElem? e2))
    · obtain ⟨c, hc, he⟩ := List.any_eq_true.1 (hh p hm)
      exact ⟨c, hc, by simpa using he⟩
  · have hm := List.mem_of_getElem? hp
    have hj := h.pipe p hm
    refine ⟨hj.id1, hj.idN, fun z hi hz => pw_sorted h.qs hp hi hz, ?_, hj.few, hj.r, hj.w, hj.pos⟩
    rcases capIx_cases d p.Id with ⟨e1, _, _⟩ | ⟨k, c, _, e2, _, e4⟩
    · omega
    · exact absurd e4 (hj.noCap c (List.mem_of_getElem? e2))
theorem lit_wf {n : Int} (h0 : 0 ≤ n) (h1 : n ≤ 64) : (Lit.int .i64 n).wf = true := by
  simp only [Lit.wf, Bool.and_eq_true, decide_eq_true_eq]
  exact ⟨by show (-9223372036854775808 : Int) ≤ n; omega, by show n ≤ (9223372036854775807 : Int); omega⟩
theorem J0.wf {d : DIpc} (h : J0 d) : IWf d := by
  refine ⟨fun p hp m hm => ⟨((h.port p hp).msgs m hm).rng, ?_⟩, fun p hp => ⟨(h.pipe p hp).rng, ?_⟩, ⟨fun x hx => ?_⟩, ⟨?_, ?_, ?_⟩, fun p hp => ?_⟩
  · have := ((h.port p hp).msgs m hm).ok.2.2.1; omega
  · have := (h.pipe p hp).few; omega
  · exact ⟨lit_wf (h.pipe x hx).r.1 (h.pipe x hx).r.2, lit_wf (h.pipe x hx).w.1 (h.pipe x hx).w.2⟩
  · have := h.caps; omega
  · have := h.ports; omega
  · have := h.pipes; omega
  · have := (h.port p hp).few; omega
theorem j_empty : J0 ⟨0, [], [], []⟩ ∧ HasJ ⟨0, [], [], []⟩ :=
  ⟨⟨by decide, by decide, by decide, by decide, List.Pairwise.nil, List.Pairwise.nil, List.Pairwise.nil, fun c hc => by simp at hc, fun c hc => by simp at hc, fun c hc => by simp at hc⟩, fun p hp => by simp at hp⟩
end Go.Proofs.Ytbimoajgofcmbaa
