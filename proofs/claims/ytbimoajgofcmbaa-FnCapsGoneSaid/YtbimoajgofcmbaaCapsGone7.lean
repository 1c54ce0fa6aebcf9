/- Part 7 of 8: plain readings of code, rules for them, and a proof over them, joined by a program. Conditions: none. -/
import Derived.Test.YtbimoajgofcmbaaCapsGone6
/- Ports, capabilities, pipes: each kind of operation keeps a state that can be (plain). Conditions: none. -/
set_option linter.unusedVariables false
set_option linter.unusedSimpArgs false
namespace Go.Proofs.Ytbimoajgofcmbaa
open Go Go.Den
theorem am_refl_fin : ∀ y : Fin 8, amongB ((y.val : Nat) : Int) ((y.val : Nat) : Int) = true := by decide
theorem am_refl {y : Int} (h1 : 1 ≤ y) (h2 : y ≤ 7) : amongB y y = true := by
  have := am_refl_fin ⟨y.toNat, by omega⟩; simp only at this; rwa [show ((y.toNat : Nat) : Int) = y by omega] at this
set_option maxRecDepth 20000 in
theorem am_trans_fin : ∀ x y z : Fin 8, amongB ((x.val : Nat) : Int) ((y.val : Nat) : Int) = true → amongB ((y.val : Nat) : Int) ((z.val : Nat) : Int) = true → amongB ((x.val : Nat) : Int) ((z.val : Nat) : Int) = true := by decide
theorem am_trans {x y z : Int} (h1 : 1 ≤ x) (h2 : x ≤ 7) (h3 : 1 ≤ y) (h4 : y ≤ 7) (h5 : 1 ≤ z) (h6 : z ≤ 7) (ha : amongB x y = true) (hb : amongB y z = true) : amongB x z = true := by
  have := am_trans_fin ⟨x.toNat, by omega⟩ ⟨y.toNat, by omega⟩ ⟨z.toNat, by omega⟩
  simp only at this
  rw [show ((x.toNat : Nat) : Int) = x by omega, show ((y.toNat : Nat) : Int) = y by omega, show ((z.toNat : Nat) : Int) = z by omega] at this
  exact this ha hb
theorem MsgJ.up {d d' : DIpc} {m : DMsg} (h : MsgJ d m) (hn : d.Next ≤ d'.Next) : MsgJ d' m := by
  obtain ⟨⟨a, b, c, e, f⟩, g⟩ := h
  exact ⟨⟨a, b, c, e, by omega⟩, g⟩
theorem pw_snoc {α : Type} {f : α → Int} {l : List α} {x : α} (h : l.Pairwise (fun a b => f a < f b)) (hx : ∀ y, y ∈ l → f y < f x) : (l ++ [x]).Pairwise (fun a b => f a < f b) := by
  rw [List.pairwise_append]
  exact ⟨h, by simp, fun a ha b hb => by rw [List.mem_singleton.1 hb]; exact hx a ha⟩
theorem j_capSnoc {d : DIpc} {hl p r par : Int} (h : J0 d) (hf : d.Caps.length < 128) (h0 : 0 ≤ hl ∧ hl < 64) (r1 : 1 ≤ r) (r7 : r ≤ 7) (hp : ∃ x, x ∈ d.Ports ∧ x.Id = p)
    (hpar : par = 0 ∨ ∃ c, c ∈ d.Caps ∧ c.Id = par ∧ c.Port = p ∧ amongB r c.Rights = true) : J0 (addCap d hl p r par) := by
  have hnx := h.nx
  refine ⟨by show 0 ≤ d.Next + 1; omega, by show List.length (_ ++ _) ≤ _; rw [List.length_append]; simp; omega, h.ports, h.pipes, pw_snoc h.cs (fun y hy => by have := (h.cap y hy).idN; show y.Id < d.Next + 1; omega), h.ps, h.qs, fun c hc => ?_, fun q hq => ?_, fun q hq => ?_⟩
  · rcases List.mem_append.1 hc with hc | hc
    · have hj := h.cap c hc
      refine ⟨hj.id1, by have := hj.idN; show c.Id ≤ d.Next + 1; omega, hj.hold, hj.r1, hj.r7, hj.port, ?_⟩
      rcases hj.par with h1 | ⟨x, hx, h2⟩
      · exact .inl h1
      · exact .inr ⟨x, List.mem_append_left _ hx, h2⟩
    · rw [List.mem_singleton.1 hc]
      refine ⟨by show 1 ≤ d.Next + 1; omega, Int.le_refl _, h0, r1, r7, hp, ?_⟩
      rcases hpar with h1 | ⟨x, hx, h2, h3, h4⟩
      · exact .inl h1
      · exact .inr ⟨x, List.mem_append_left _ hx, h2, by have := (h.cap x hx).idN; show x.Id < d.Next + 1; omega, h3, h4⟩
  · have hj := h.port q hq
    refine ⟨hj.id1, by have := hj.idN; show q.Id ≤ d.Next + 1; omega, hj.few, fun c hc => ?_, hj.noPipe, fun m hm => (hj.msgs m hm).up (by show d.Next ≤ d.Next + 1; omega)⟩
    rcases List.mem_append.1 hc with hc | hc
    · exact hj.noCap c hc
    · rw [List.mem_singleton.1 hc]; have := hj.idN; show d.Next + 1 ≠ q.Id; omega
  · have hj := h.pipe q hq
    refine ⟨hj.id1, by have := hj.idN; show q.Id ≤ d.Next + 1; omega, fun c hc => ?_, hj.few, hj.r, hj.w, hj.pos, hj.rng⟩
    rcases List.mem_append.1 hc with hc | hc
    · exact hj.noCap c hc
    · rw [List.mem_singleton.1 hc]; have := hj.idN; show d.Next + 1 ≠ q.Id; omega
theorem has_app {cs : List DCap} {x : DCap} {p : DPort} (h : hasCap cs p = true) : hasCap (cs ++ [x]) p = true := by
  unfold hasCap at h ⊢
  rw [List.any_append, h]; rfl
theorem j_portSnoc {d : DIpc} (h : J0 d) (hf : d.Ports.length < 32) : J0 ⟨d.Next + 1, d.Ports ++ [⟨d.Next + 1, []⟩], d.Caps, d.Pipes⟩ := by
  have hnx := h.nx
  refine ⟨by show 0 ≤ d.Next + 1; omega, h.caps, by show List.length (_ ++ _) ≤ _; rw [List.length_append]; simp; omega, h.pipes, h.cs, pw_snoc h.ps (fun y hy => by have := (h.port y hy).idN; show y.Id < d.Next + 1; omega), h.qs, fun c hc => ?_, fun q hq => ?_, fun q hq => ?_⟩
  · have hj := h.cap c hc
    obtain ⟨x, hx, he⟩ := hj.port
    exact ⟨hj.id1, by have := hj.idN; show c.Id ≤ d.Next + 1; omega, hj.hold, hj.r1, hj.r7, ⟨x, List.mem_append_left _ hx, he⟩, hj.par⟩
  · rcases List.mem_append.1 hq with hq | hq
    · have hj := h.port q hq
      exact ⟨hj.id1, by have := hj.idN; show q.Id ≤ d.Next + 1; omega, hj.few, hj.noCap, hj.noPipe, fun m hm => (hj.msgs m hm).up (by show d.Next ≤ d.Next + 1; omega)⟩
    · rw [List.mem_singleton.1 hq]
      exact ⟨by show 1 ≤ d.Next + 1; omega, Int.le_refl _, by simp, fun c hc => by have := (h.cap c hc).idN; show c.Id ≠ d.Next + 1; omega, fun c hc => by have := (h.pipe c hc).idN; show c.Id ≠ d.Next + 1; omega, fun m hm => by simp at hm⟩
  · have hj := h.pipe q hq
    exact ⟨hj.id1, by have := hj.idN; show q.Id ≤ d.Next + 1; omega, hj.noCap, hj.few, hj.r, hj.w, hj.pos, hj.rng⟩
theorem j_pipeSnoc {d : DIpc} (h : J0 d) (hf : d.Pipes.length < 32) : J0 ⟨d.Next + 1, d.Ports, d.Caps, d.Pipes ++ [⟨d.Next + 1, 1, 1, []⟩]⟩ := by
  have hnx := h.nx
  refine ⟨by show 0 ≤ d.Next + 1; omega, h.caps, h.ports, by show List.length (_ ++ _) ≤ _; rw [List.length_append]; simp; omega, h.cs, h.ps, pw_snoc h.qs (fun y hy => by have := (h.pipe y hy).idN; show y.Id < d.Next + 1; omega), fun c hc => ?_, fun q hq => ?_, fun q hq => ?_⟩
  · have hj := h.cap c hc
    exact ⟨hj.id1, by have := hj.idN; show c.Id ≤ d.Next + 1; omega, hj.hold, hj.r1, hj.r7, hj.port, hj.par⟩
  · have hj := h.port q hq
    refine ⟨hj.id1, by have := hj.idN; show q.Id ≤ d.Next + 1; omega, hj.few, hj.noCap, fun c hc => ?_, fun m hm => (hj.msgs m hm).up (by show d.Next ≤ d.Next + 1; omega)⟩
    rcases List.mem_append.1 hc with hc | hc
    · exact hj.noPipe c hc
    · rw [List.mem_singleton.1 hc]; have := hj.idN; show d.Next + 1 ≠ q.Id; omega
  · rcases List.mem_append.1 hq with hq | hq
    · have hj := h.pipe q hq
      exact ⟨hj.id1, by have := hj.idN; show q.Id ≤ d.Next + 1; omega, hj.noCap, hj.few, hj.r, hj.w, hj.pos, hj.rng⟩
    · rw [List.mem_singleton.1 hq]
      exact ⟨by show 1 ≤ d.Next + 1; omega, Int.le_refl _, fun c hc => by have := (h.cap c hc).idN; show c.Id ≠ d.Next + 1; omega, by simp, by show (0 : Int) ≤ 1 ∧ (1 : Int) ≤ 64; omega, by show (0 : Int) ≤ 1 ∧ (1 : Int) ≤ 64; omega, by show (0 : Int) < 1 + 1; omega, fun x hx => by simp at hx⟩
theorem map_set_id {α β : Type} {f : α → β} {l : List α} {k : Nat} {x y : α} (hx : l[k]? = some x) (he : f y = f x) : (l.set k y).map f = l.map f := by
  rw [List.map_set, he, ← List.map_set, ← set_at hx]
theorem pw_ids {α : Type} {f : α → Int} {l m : List α} (h : l.Pairwise (fun a b => f a < f b)) (he : m.map f = l.map f) : m.Pairwise (fun a b => f a < f b) := by
  rw [← List.pairwise_map (f := f) (R := fun a b => a < b)] at h ⊢
  rw [he]; exact h
theorem j_setQ {d : DIpc} {k : Nat} {p : DPort} {q : List DMsg} (h : J0 d) (hk : d.Ports[k]? = some p) (hq : q.length ≤ 8) (hm : ∀ m, m ∈ q → MsgJ d m) : J0 (setQ d k p q) := by
  have hids : (d.Ports.set k ⟨p.Id, q⟩).map DPort.Id = d.Ports.map DPort.Id := map_set_id hk rfl
  have hpm := List.mem_of_getElem? hk
  refine ⟨h.nx, h.caps, by show (d.Ports.set k _).length ≤ _; rw [List.length_set]; exact h.ports, h.pipes, h.cs, pw_ids h.ps hids, h.qs, fun c hc => ?_, fun x hx => ?_, fun x hx => h.pipe x hx |> fun hj => ⟨hj.id1, hj.idN, hj.noCap, hj.few, hj.r, hj.w, hj.pos, hj.rng⟩⟩
  · have hj := h.cap c hc
    refine ⟨hj.id1, hj.idN, hj.hold, hj.r1, hj.r7, ?_, hj.par⟩
    obtain ⟨x, hx, he⟩ := hj.port
    have : c.Port ∈ (d.Ports.set k ⟨p.Id, q⟩).map DPort.Id := by rw [hids]; exact List.mem_map.2 ⟨x, hx, he⟩
    obtain ⟨y, hy, hye⟩ := List.mem_map.1 this
    exact ⟨y, hy, hye⟩
  · rcases List.mem_or_eq_of_mem_set hx with hx | rfl
    · have hj := h.port x hx
      exact ⟨hj.id1, hj.idN, hj.few, hj.noCap, hj.noPipe, fun m hm2 => (hj.msgs m hm2).up (Int.le_refl _)⟩
    · have hj := h.port p hpm
      exact ⟨hj.id1, hj.idN, hq, hj.noCap, hj.noPipe, fun m hm2 => (hm m hm2).up (Int.le_refl _)⟩
theorem has_setQ {d : DIpc} {k : Nat} {p : DPort} {q : List DMsg} (h : HasJ d) (hk : d.Ports[k]? = some p) : HasJ (setQ d k p q) := fun x hx => by
  rcases List.mem_or_eq_of_mem_set hx with hx | rfl
  · exact h x hx
  · exact h p (List.mem_of_getElem? hk)
theorem j_setP {d : DIpc} {k : Nat} {p p' : DPipe} (h : J0 d) (hk : d.Pipes[k]? = some p) (hid : p'.Id = p.Id) (hf : p'.Data.length ≤ 512) (hr : 0 ≤ p'.Readers ∧ p'.Readers ≤ 64) (hw : 0 ≤ p'.Writers ∧ p'.Writers ≤ 64) (hpos : 0 < p'.Readers + p'.Writers) (hrng : ∀ x, x ∈ p'.Data → 0 ≤ x ∧ x ≤ 255) : J0 (setP d k p') := by
  have hids : (d.Pipes.set k p').map DPipe.Id = d.Pipes.map DPipe.Id := map_set_id hk hid
  have hpm := List.mem_of_getElem? hk
  refine ⟨h.nx, h.caps, h.ports, by show (d.Pipes.set k _).length ≤ _; rw [List.length_set]; exact h.pipes, h.cs, h.ps, pw_ids h.qs hids, fun c hc => h.cap c hc |> fun hj => ⟨hj.id1, hj.idN, hj.hold, hj.r1, hj.r7, hj.port, hj.par⟩, fun x hx => ?_, fun x hx => ?_⟩
  · have hj := h.port x hx
    refine ⟨hj.id1, hj.idN, hj.few, hj.noCap, fun c hc => ?_, fun m hm2 => (hj.msgs m hm2).up (Int.le_refl _)⟩
    rcases List.mem_or_eq_of_mem_set hc with hc | rfl
    · exact hj.noPipe c hc
    · rw [hid]; exact hj.noPipe p hpm
  · rcases List.mem_or_eq_of_mem_set hx with hx | rfl
    · have hj := h.pipe x hx
      exact ⟨hj.id1, hj.idN, hj.noCap, hj.few, hj.r, hj.w, hj.pos, hj.rng⟩
    · have hj := h.pipe p hpm
      exact ⟨by rw [hid]; exact hj.id1, by rw [hid]; exact hj.idN, by rw [hid]; exact hj.noCap, hf, hr, hw, hpos, hrng⟩
theorem j_eraseP {d : DIpc} {k : Nat} (h : J0 d) : J0 ⟨d.Next, d.Ports, d.Caps, d.Pipes.eraseIdx k⟩ := by
  have hsub := List.eraseIdx_sublist d.Pipes k
  refine ⟨h.nx, h.caps, h.ports, by have := hsub.length_le; have := h.pipes; show (d.Pipes.eraseIdx k).length ≤ 32; omega, h.cs, h.ps, h.qs.sublist hsub, fun c hc => h.cap c hc |> fun hj => ⟨hj.id1, hj.idN, hj.hold, hj.r1, hj.r7, hj.port, hj.par⟩, fun x hx => ?_, fun x hx => ?_⟩
  · have hj := h.port x hx
    exact ⟨hj.id1, hj.idN, hj.few, hj.noCap, fun c hc => hj.noPipe c (hsub.mem hc), fun m hm2 => (hj.msgs m hm2).up (Int.le_refl _)⟩
  · have hj := h.pipe x (hsub.mem hx)
    exact ⟨hj.id1, hj.idN, hj.noCap, hj.few, hj.r, hj.w, hj.pos, hj.rng⟩
theorem j_clean {d : DIpc} (h : J0 d) : J0 (cleanF d) ∧ HasJ (cleanF d) := by
  have hsub : (d.Ports.filter (hasCap d.Caps)).Sublist d.Ports := List.filter_sublist
  refine ⟨⟨h.nx, h.caps, by have := hsub.length_le; have := h.ports; show (d.Ports.filter _).length ≤ 32; omega, h.pipes, h.cs, h.ps.sublist hsub, h.qs, fun c hc => ?_, fun x hx => ?_, fun x hx => h.pipe x hx |> fun hj => ⟨hj.id1, hj.idN, hj.noCap, hj.few, hj.r, hj.w, hj.pos, hj.rng⟩⟩, fun p hp => (List.mem_filter.1 hp).2⟩
  · have hj := h.cap c hc
    obtain ⟨x, hx, he⟩ := hj.port
    exact ⟨hj.id1, hj.idN, hj.hold, hj.r1, hj.r7, ⟨x, List.mem_filter.2 ⟨hx, List.any_eq_true.2 ⟨c, hc, by simp [he]⟩⟩, he⟩, hj.par⟩
  · have hj := h.port x (List.mem_filter.1 hx).1
    exact ⟨hj.id1, hj.idN, hj.few, hj.noCap, hj.noPipe, fun m hm2 => (hj.msgs m hm2).up (Int.le_refl _)⟩
theorem dropC_ids {cs : List DCap} {id up : Int} : (dropC cs id up).map DCap.Id = (cs.filter (fun x => x.Id != id)).map DCap.Id := by
  unfold dropC
  rw [List.map_map]
  refine List.map_congr_left (fun x _ => ?_)
  exact re_id _ _ _
theorem re_rights (id up : Int) (x : DCap) : (reCap id up x).Rights = x.Rights := by unfold reCap; split <;> rfl
theorem j_drop {d : DIpc} (id : Int) (h : J0 d) : J0 (dropF d id) := by
  unfold dropF
  rcases capIx_cases d id with ⟨_, e2, _⟩ | ⟨k0, c, _, e2, e3, e4⟩
  · rw [e2]; exact h
  rw [e3]
  have hcm := List.mem_of_getElem? e2
  have hcj := h.cap c hcm
  dsimp only
  have hsub : (d.Caps.filter (fun x => x.Id != id)).Sublist d.Caps := List.filter_sublist
  have hmem : ∀ y, y ∈ dropC d.Caps id c.Parent → ∃ x, x ∈ d.Caps ∧ x.Id ≠ id ∧ y = reCap id c.Parent x := fun y hy => by
    obtain ⟨x, hx, rfl⟩ := List.mem_map.1 hy
    obtain ⟨h1, h2⟩ := List.mem_filter.1 hx
    exact ⟨x, h1, by simpa using h2, rfl⟩
  have hin : ∀ x, x ∈ d.Caps → x.Id ≠ id → reCap id c.Parent x ∈ dropC d.Caps id c.Parent := fun x hx hne => List.mem_map.2 ⟨x, List.mem_filter.2 ⟨hx, by simpa using hne⟩, rfl⟩
  refine ⟨h.nx, ?_, h.ports, h.pipes, ?_, h.ps, h.qs, fun y hy => ?_, fun x hx => ?_, fun x hx => ?_⟩
  · show (dropC _ _ _).length ≤ 128
    unfold dropC
    rw [List.length_map]
    have := hsub.length_le; have := h.caps; omega
  · exact pw_ids (h.cs.sublist hsub) dropC_ids
  · obtain ⟨x, hx, hne, rfl⟩ := hmem y hy
    have hj := h.cap x hx
    refine ⟨by rw [re_id]; exact hj.id1, by rw [re_id]; exact hj.idN, by rw [re_holder]; exact hj.hold, by rw [re_rights]; exact hj.r1, by rw [re_rights]; exact hj.r7, by rw [re_port]; exact hj.port, ?_⟩
    by_cases hp : x.Parent = id
    · have hre : (reCap id c.Parent x).Parent = c.Parent := by unfold reCap; rw [if_pos hp]
      rw [hre]
      rcases hj.par with h0 | ⟨z, hz, z1, z2, z3, z4⟩
      · have := hcj.id1; omega
      · have : z = c := pw_uniq h.cs hz hcm (by rw [z1, hp, e4])
        subst this
        rcases hcj.par with h0 | ⟨z2', hz2, y1, y2, y3, y4⟩
        · exact .inl h0
        · have hzj := h.cap z2' hz2
          refine .inr ⟨reCap id z.Parent z2', hin z2' hz2 (by omega), ?_, ?_, ?_, ?_⟩
          · rw [re_id]; exact y1
          · rw [re_id, re_id]; omega
          · rw [re_port, re_port, y3, z3]
          · rw [re_rights, re_rights]; exact am_trans hj.r1 hj.r7 hcj.r1 hcj.r7 hzj.r1 hzj.r7 z4 y4
    · have hre : (reCap id c.Parent x).Parent = x.Parent := by unfold reCap; rw [if_neg hp]
      rw [hre]
      rcases hj.par with h0 | ⟨z, hz, z1, z2, z3, z4⟩
      · exact .inl h0
      · refine .inr ⟨reCap id c.Parent z, hin z hz (by omega), ?_, ?_, ?_, ?_⟩
        · rw [re_id]; exact z1
        · rw [re_id, re_id]; exact z2
        · rw [re_port, re_port, z3]
        · rw [re_rights, re_rights]; exact z4
  · have hj := h.port x hx
    refine ⟨hj.id1, hj.idN, hj.few, fun y hy => ?_, hj.noPipe, fun m hm2 => (hj.msgs m hm2).up (Int.le_refl _)⟩
    obtain ⟨z, hz, _, rfl⟩ := hmem y hy
    rw [re_id]; exact hj.noCap z hz
  · have hj := h.pipe x hx
    refine ⟨hj.id1, hj.idN, fun y hy => ?_, hj.few, hj.r, hj.w, hj.pos, hj.rng⟩
    obtain ⟨z, hz, _, rfl⟩ := hmem y hy
    rw [re_id]; exact hj.noCap z hz
theorem j_drops : ∀ (l : List Int) {d : DIpc}, J0 d → J0 (l.foldl dropF d)
  | [], _, h => h
  | a :: t, _, h => j_drops t (j_drop a h)
theorem drop_nx (d : DIpc) (id : Int) : (dropF d id).Next = d.Next := by unfold dropF; split <;> rfl
theorem drops_nx : ∀ (l : List Int) (d : DIpc), (l.foldl dropF d).Next = d.Next
  | [], _ => rfl
  | a :: t, d => (drops_nx t (dropF d a)).trans (drop_nx d a)
theorem j_rev {d : DIpc} {top : Int} (h : J0 d) (hi : IOk d) : J0 ⟨d.Next, d.Ports, revC d top, d.Pipes⟩ := by
  have hsub : (revC d top).Sublist d.Caps := by unfold revC; exact List.filter_sublist
  refine ⟨h.nx, by have := hsub.length_le; have := h.caps; show (revC d top).length ≤ 128; omega, h.ports, h.pipes, h.cs.sublist hsub, h.ps, h.qs, fun c hc => ?_, fun x hx => ?_, fun x hx => ?_⟩
  · have hcm := hsub.mem hc
    have hj := h.cap c hcm
    refine ⟨hj.id1, hj.idN, hj.hold, hj.r1, hj.r7, hj.port, ?_⟩
    rcases hj.par with h0 | ⟨p, hp, h1, h2, h3, h4⟩
    · exact .inl h0
    · refine .inr ⟨p, ?_, h1, h2, h3, h4⟩
      unfold revC at hc ⊢
      obtain ⟨_, hc2⟩ := List.mem_filter.1 hc
      have hcu : ¬ Und d top c.Id := by simpa using hc2
      have hpu : ¬ Und d top p.Id := fun hu => hcu (by
        obtain ⟨k, hk⟩ := List.getElem?_of_mem hcm
        have hp1 := (h.cap p hp).id1
        exact Und.step hk (by omega) (by rw [← h1]; exact hu))
      exact List.mem_filter.2 ⟨hp, by simpa using hpu⟩
  · have hj := h.port x hx
    exact ⟨hj.id1, hj.idN, hj.few, fun c hc => hj.noCap c (hsub.mem hc), hj.noPipe, fun m hm2 => (hj.msgs m hm2).up (Int.le_refl _)⟩
  · have hj := h.pipe x hx
    exact ⟨hj.id1, hj.idN, fun c hc => hj.noCap c (hsub.mem hc), hj.few, hj.r, hj.w, hj.pos, hj.rng⟩
structure ResJ (r : DIpcRes) : Prop where
  code : 0 ≤ r.Code ∧ r.Code ≤ 255
  n : 0 ≤ r.N ∧ r.N ≤ 1125899906842624
  from_ : 0 ≤ r.From ∧ r.From ≤ 64
  few : r.Data.length ≤ 1024
  rng : ∀ x, x ∈ r.Data → 0 ≤ x ∧ x ≤ 255
theorem resE_j {c : Int} (h0 : 0 ≤ c) (h1 : c ≤ 255) : ResJ (resE c) := ⟨⟨h0, h1⟩, by show (0 : Int) ≤ 0 ∧ (0 : Int) ≤ _; omega, by show (0 : Int) ≤ 0 ∧ (0 : Int) ≤ _; omega, by show 0 ≤ _; omega, fun x hx => by simp [resE] at hx⟩
theorem resN_j {n : Int} (h0 : 0 ≤ n) (h1 : n ≤ 1125899906842624) : ResJ (resN n) := ⟨by show (0 : Int) ≤ 0 ∧ (0 : Int) ≤ _; omega, ⟨h0, h1⟩, by show (0 : Int) ≤ 0 ∧ (0 : Int) ≤ _; omega, by show 0 ≤ _; omega, fun x hx => by simp [resN] at hx⟩
structure StepJ (d : DIpc) (res : IRes) : Prop where
  j : J0 res.1
  has : HasJ res.1
  nx : res.1.Next ≤ d.Next + 2
  res : ResJ res.2
theorem sj_err {d : DIpc} {c : Int} (h : J0 d) (hh : HasJ d) (h0 : 0 ≤ c) (h1 : c ≤ 255) : StepJ d (d, resE c) := ⟨h, hh, by show d.Next ≤ d.Next + 2; omega, resE_j h0 h1⟩
theorem step_j {d : DIpc} {o : DIpcOp} (h : J0 d) (hh : HasJ d) (hn : d.Next ≤ 1099511627776) (hb : ∀ x, x ∈ o.Data → 0 ≤ x ∧ x ≤ 255) : StepJ d (stepI d o) := by
  have hi := h.iok hh hn
  have hnx := h.nx
  by_cases hbad : BadO o
  · rw [step_bad hbad]; exact sj_err h hh (by omega) (by omega)
  have hbad2 := hbad
  unfold BadO at hbad2
  by_cases k1 : o.Kind = 1
  · rw [step_1 hbad k1]; unfold newPort; split
    · exact sj_err h hh (by omega) (by omega)
    · rename_i hf
      have h1 := j_portSnoc h (by omega)
      have h2 := j_capSnoc (hl := o.Holder) (p := d.Next + 1) (r := 7) (par := 0) h1 (by show d.Caps.length < 128; omega) (by omega) (by omega) (by omega) ⟨_, List.mem_append_right _ (List.mem_singleton.2 rfl), rfl⟩ (.inl rfl)
      have e : d.Next + 1 + 1 = d.Next + 2 := by omega
      refine ⟨?_, fun p hp => ?_, Int.le_refl _, resN_j (by omega) (by omega)⟩
      · have h3 : J0 ⟨d.Next + 1 + 1, d.Ports ++ [⟨d.Next + 1, []⟩], d.Caps ++ [⟨d.Next + 1 + 1, o.Holder, d.Next + 1, 7, 0⟩], d.Pipes⟩ := h2
        rw [e] at h3
        exact h3
      · rcases List.mem_append.1 hp with hp | hp
        · exact has_app (hh p hp)
        · rw [List.mem_singleton.1 hp]
          exact List.any_eq_true.2 ⟨_, List.mem_append_right _ (List.mem_singleton.2 rfl), by simp⟩
  by_cases k7 : o.Kind = 7
  · rw [step_7 hbad k7]; unfold goneI
    have h1 := j_drops (idsOf d o.Holder) h
    have h2 := j_clean h1
    have hl : (idsOf d o.Holder).length ≤ 128 := by
      unfold idsOf; rw [List.length_map]
      have := List.length_filter_le (fun c : DCap => c.Holder == o.Holder) d.Caps; have := h.caps; omega
    exact ⟨h2.1, h2.2, by show ((idsOf d o.Holder).foldl dropF d).Next ≤ _; rw [drops_nx]; omega, resN_j (by omega) (by omega)⟩
  by_cases k8 : o.Kind = 8
  · rw [step_8 hbad k8]; unfold newPipe; split
    · exact sj_err h hh (by omega) (by omega)
    · exact ⟨j_pipeSnoc h (by omega), hh, by show d.Next + 1 ≤ d.Next + 2; omega, resN_j (by omega) (by omega)⟩
  by_cases k9 : 9 ≤ o.Kind
  · rcases pipeIx_cases d o.Id with ⟨_, e2, _⟩ | ⟨k, p, e1, e2, e3, e4⟩
    · rw [step_p0 hbad k9 e2]; exact sj_err h hh (by omega) (by omega)
    rw [step_p hbad k9 e3, e1, Int.toNat_natCast]
    have hpj := h.pipe p (List.mem_of_getElem? e2)
    have hpr := hpj.r
    have hpw := hpj.w
    have hpf := hpj.few
    have hpp := hpj.pos
    unfold pipeI; split
    · unfold endsI; split
      · exact sj_err h hh (by omega) (by omega)
      · split
        · exact ⟨j_eraseP h, hh, by show d.Next ≤ _; omega, resN_j (by omega) (by omega)⟩
        · exact ⟨j_setP h e2 rfl hpf (by show 0 ≤ p.Readers + o.To ∧ p.Readers + o.To ≤ 64; omega) (by show 0 ≤ p.Writers + o.N ∧ p.Writers + o.N ≤ 64; omega) (by show 0 < p.Readers + o.To + (p.Writers + o.N); omega) hpj.rng, hh, by show d.Next ≤ _; omega, resN_j (by omega) (by omega)⟩
    · split
      · unfold writeI; split
        · exact sj_err h hh (by omega) (by omega)
        · split
          · exact sj_err h hh (by omega) (by omega)
          · have hw1 : wlen o p ≤ 512 - p.Data.length := by unfold wlen; omega
            refine ⟨j_setP h e2 rfl ?_ hpr hpw hpp ?_, hh, by show d.Next ≤ _; omega, resN_j (by omega) (by omega)⟩
            · rw [List.length_append, List.length_take]; omega
            · intro x hx
              rcases List.mem_append.1 hx with hx | hx
              · exact hpj.rng x hx
              · exact hb x (List.mem_of_mem_take hx)
      · unfold readI; split
        · exact sj_err h hh (by omega) (by omega)
        · split
          · exact sj_err h hh (by omega) (by omega)
          · refine ⟨j_setP h e2 rfl ?_ hpr hpw hpp (fun x hx => hpj.rng x (List.mem_of_mem_drop hx)), hh, by show d.Next ≤ _; omega, ⟨by show (0 : Int) ≤ 0 ∧ (0 : Int) ≤ _; omega, by show (0 : Int) ≤ 0 ∧ (0 : Int) ≤ _; omega, by show (0 : Int) ≤ 0 ∧ (0 : Int) ≤ _; omega, ?_, fun x hx => hpj.rng x (List.mem_of_mem_take hx)⟩⟩
            · rw [List.length_drop]; omega
            · show (p.Data.take _).length ≤ _
              rw [List.length_take]; omega
  have k26 : 2 ≤ o.Kind ∧ o.Kind ≤ 6 := by omega
  rcases capIx_cases d o.Id with ⟨_, e2, _⟩ | ⟨k0, c, _, e2, e3, e4⟩
  · rw [step_c0 hbad k26 e2]; exact sj_err h hh (by omega) (by omega)
  by_cases hhd : c.Holder = o.Holder
  rotate_left
  · rw [step_ch hbad k26 e3 hhd]; exact sj_err h hh (by omega) (by omega)
  rw [step_c hbad k26 e3 hhd]
  have hcm := List.mem_of_getElem? e2
  have hcj := h.cap c hcm
  unfold capI
  split
  · unfold giveI; split
    · exact sj_err h hh (by omega) (by omega)
    · split
      · exact sj_err h hh (by omega) (by omega)
      · split
        · exact sj_err h hh (by omega) (by omega)
        · rename_i hbd ham hfull
          refine ⟨j_capSnoc h (by omega) (by omega) (by omega) (by omega) hcj.port (.inr ⟨c, hcm, rfl, rfl, ?_⟩), fun p hp => has_app (hh p hp), by show d.Next + 1 ≤ _; omega, resN_j (by omega) (by omega)⟩
          cases hq : amongB o.Rights c.Rights with
          | true => rfl
          | false => exact absurd (.inr hq) ham
  split
  · have hlen : (revC d o.Id).length ≤ d.Caps.length := by unfold revC; exact List.length_filter_le ..
    have := h.caps
    exact ⟨j_rev h hi, rev_has hi hcm e4, by show d.Next ≤ _; omega, resN_j (by omega) (by omega)⟩
  split
  · have h2 := j_clean (j_drop o.Id h)
    exact ⟨h2.1, h2.2, by show (dropF d o.Id).Next ≤ _; rw [drop_nx]; omega, resN_j (by omega) (by omega)⟩
  split
  · have hpush : o.Data.length ≤ 64 → (0 ≤ o.Cap ∧ o.Cap ≤ d.Next) → StepJ d (pushI d o c) := fun hdl hoc => by
      unfold pushI; split
      · exact sj_err h hh (by omega) (by omega)
      · rcases portIx_cases d c.Port with ⟨e1, f2, f3⟩ | ⟨kp, P, f1, f2, f3, f4⟩
        · rw [f2]; exact sj_err h hh (by omega) (by omega)
        · rw [f3, f1, Int.toNat_natCast]
          dsimp only
          split
          · exact sj_err h hh (by omega) (by omega)
          · have hpj := h.port P (List.mem_of_getElem? f2)
            refine ⟨j_setQ h f2 (by rw [List.length_append]; simp; omega) (fun m hm => ?_), has_setQ hh f2, by show d.Next ≤ _; omega, resN_j (by omega) (by omega)⟩
            rcases List.mem_append.1 hm with hm | hm
            · exact hpj.msgs m hm
            · rw [List.mem_singleton.1 hm]
              exact ⟨⟨by show 0 ≤ o.Holder; omega, by show o.Holder < 64; omega, hdl, hoc.1, hoc.2⟩, hb⟩
    unfold sendI; split
    · exact sj_err h hh (by omega) (by omega)
    · split
      · exact sj_err h hh (by omega) (by omega)
      · split
        · rcases capIx_cases d o.Cap with ⟨_, f2, _⟩ | ⟨k1, c', _, f2, f3, f4⟩
          · rw [f2]; exact sj_err h hh (by omega) (by omega)
          · rw [f3]; dsimp only
            split
            · exact sj_err h hh (by omega) (by omega)
            · split
              · exact sj_err h hh (by omega) (by omega)
              · have := h.cap c' (List.mem_of_getElem? f2)
                exact hpush (by omega) ⟨by have := this.id1; omega, by have := this.idN; omega⟩
        · exact hpush (by omega) (by omega)
  · unfold recvI; split
    · exact sj_err h hh (by omega) (by omega)
    · rcases portIx_cases d c.Port with ⟨e1, f2, f3⟩ | ⟨kp, P, f1, f2, f3, f4⟩
      · rw [f2]; exact sj_err h hh (by omega) (by omega)
      · rw [f3, f1, Int.toNat_natCast]
        dsimp only
        have hpj := h.port P (List.mem_of_getElem? f2)
        have hpf := hpj.few
        cases hq : P.Queue with
        | nil => exact sj_err h hh (by omega) (by omega)
        | cons m rest =>
          dsimp only
          have hmm := hpj.msgs m (by rw [hq]; simp)
          rw [hq] at hpf
          simp only [List.length_cons] at hpf
          have hqj := j_setQ (q := rest) h f2 (by omega) (fun x hx => hpj.msgs x (by rw [hq]; simp [hx]))
          have hqh := has_setQ (q := rest) hh f2
          obtain ⟨⟨m1, m2, m3, m4, m5⟩, m6⟩ := hmm
          have hres : ∀ n : Int, 0 ≤ n → n ≤ 1125899906842624 → ResJ ⟨0, n, m.Data, m.From⟩ := fun n n0 n1 => ⟨by show (0 : Int) ≤ 0 ∧ (0 : Int) ≤ _; omega, ⟨n0, n1⟩, ⟨m1, by show m.From ≤ 64; omega⟩, by show m.Data.length ≤ 1024; omega, m6⟩
          rcases capIx_cases d m.Cap with ⟨_, g2, _⟩ | ⟨k1, c', _, g2, g3, g4⟩
          · rw [g2]; exact ⟨hqj, hqh, by show d.Next ≤ _; omega, hres 0 (by omega) (by omega)⟩
          · rw [g3]; dsimp only
            have hc'm := List.mem_of_getElem? g2
            have hc'j := h.cap c' hc'm
            split
            · refine ⟨j_capSnoc hqj (by show d.Caps.length < 128; omega) (by omega) hc'j.r1 hc'j.r7 ?_ (.inr ⟨c', hc'm, g4, rfl, am_refl hc'j.r1 hc'j.r7⟩), fun p hp => has_app (hqh p hp), by show d.Next + 1 ≤ _; omega, hres _ (by omega) (by omega)⟩
              exact (hqj.cap c' hc'm).port
            · exact ⟨hqj, hqh, by show d.Next ≤ _; omega, hres 0 (by omega) (by omega)⟩
end Go.Proofs.Ytbimoajgofcmbaa

/- Ports, capabilities, pipes: a run, both sides. Conditions: none. -/
set_option linter.unusedVariables false
set_option linter.unusedSimpArgs false
namespace Go.Proofs.Ytbimoajgofcmbaa
open Go Go.Den
abbrev D0 : DIpc := ⟨0, [], [], []⟩
theorem emptyS {w0 w : World} {F : List Asr} (h : SH w0 w F) : SH w0 w (rP N0 [] :: bP [] :: rC N0 [] :: rQ N0 [] :: bQ [] :: F) :=
  ((((h.bagNil pipeA).nil none 4).nil none 5).bagNil portA).nil none 2
end Go.Proofs.Ytbimoajgofcmbaa

/- The law's own functions over trees: copies, sizes, comparisons, marks; printed by a program. Conditions: none. -/
set_option linter.unusedVariables false
set_option linter.unusedSimpArgs false
set_option maxRecDepth 4000
namespace Go.Proofs.Ytbimoajgofcmbaa
open Go Go.Den
/- szByteS -/
/- szIpcOpS -/
/- toByteS -/
/- toIpcOpS -/
/- eqByteS -/
/- eqIpcResS -/
/- eqIpcOp -/
/- eqIpcOpS -/
/- markByteS -/
/- markIpcOp -/
/- markIpcResS -/
/- markIpcRes -/
/- heldByteS -/
/- heldIpcResS -/
/- heldIpcRes -/
end Go.Proofs.Ytbimoajgofcmbaa

/- Ports, capabilities, pipes: a run as the law asks. Conditions: none. -/
set_option linter.unusedVariables false
set_option linter.unusedSimpArgs false
namespace Go.Proofs.Ytbimoajgofcmbaa
open Go Go.Den
end Go.Proofs.Ytbimoajgofcmbaa

/- Ports, capabilities, pipes: the reference's copy of a state, its IpcStep. Conditions: none. -/
set_option linter.unusedVariables false
set_option linter.unusedSimpArgs false
namespace Go.Proofs.Ytbimoajgofcmbaa
open Go Go.Den
/-- What is made ahead of the loops, in any order. -/
def Made (w : World) (b1 b : Nat) (d : DIpc) (sp sc sq : Sl) (p : Option Addr) (w' : World) : Prop := ∃ (a : Nat) (tp tc tq : Sl), p = some ⟨a, 0, none⟩ ∧ SH w w' (rP tp [] :: rQ tq [] :: BI a d.Next tp tc tq :: rC tc d.Caps :: BI b1 0 N0 N0 N0 :: BI b d.Next sp sc sq :: [])
set_option maxHeartbeats 4000000 in
theorem c76 {w : World} {sp sc sq : Sl} {d : DIpc} (hd : ILent w sp sc sq d) : CallW Try.prog 76 #[iV d.Next sp sc sq] w (KI d w) := by
  refine go76 ?_
  unfold W76
  have hcl := hd.at_.caps.len
  have hpl := hd.at_.ports.len
  have hql := hd.at_.pipes.len
  obtain ⟨f1, f2, f3⟩ := hd.wf.few
  have h := SH.start w
  refine h.alloc (fun w1 h e1 n1 => ?_)
  refine h.alloc (fun w2 h e2 n2 => ?_)
  have h : SH w w2 (BI w1.heap.size 0 N0 N0 N0 :: BI w.heap.size d.Next sp sc sq :: []) := h
  have h := h.drew
  generalize hb1 : w1.heap.size = b1 at *
  generalize hb : w.heap.size = b at *
  refine JoinW.cut1 (Made w b1 b d sp sc sq) ?_ ?_
  · skip
    refine ⟨_, h.cell 1 rfl rfl, sc, h.cell 1 rfl rfl, ?_, ?_, ?_, ?_, trivial⟩
    · skip
      refine h.alloc (fun v1 h ev1 nv1 => ?_)
      refine ⟨⟨sc, h.cell 2 rfl rfl, rfl⟩, ⟨_, h.cell 2 rfl rfl, rfl⟩, ?_⟩
      refine ⟨?_, ?_, ?_, ?_, trivial⟩
      · skip
        refine SH.appendR (f := DCap.cells) (l := []) (us := d.Caps) ((h.dropAt 0).nil (some ⟨w2.drew.heap.size, 0, none⟩) 5) (hd.ext h.ext).at_.caps.row hcl.symm (fun _ => rfl) rfl rfl (by decide) (by show (_ + _) * 40 ≤ _; simp; omega) plain_cap' (fun tv2 v2 h hv2 nv2 => ?_)
        refine ⟨⟨_, h.cell 2 rfl rfl, rfl⟩, ?_⟩
        refine ⟨?_, ?_, ?_, trivial⟩
        · skip
          refine h.alloc (fun v3 h ev3 nv3 => ?_)
          refine ⟨⟨sc, h.cell 3 rfl rfl, rfl⟩, ⟨_, h.cell 3 rfl rfl, rfl⟩, ?_⟩
          refine ⟨?_, ?_, trivial⟩
          · skip
            refine h.alloc (fun v4 h ev4 nv4 => ?_)
            refine ⟨⟨sc, h.cell 4 rfl rfl, rfl⟩, ⟨_, h.cell 4 rfl rfl, rfl⟩, ?_⟩
            refine ⟨?_, trivial⟩
            refine h.alloc (fun v5 h ev5 nv5 => ?_)
            refine ⟨⟨sc, h.cell 5 rfl rfl, rfl⟩, ⟨_, h.cell 5 rfl rfl, rfl⟩, ?_⟩
            refine ⟨?_, trivial⟩
            refine h.put 0 rfl rfl rfl (fun v6 h nv6 => ?_)
            exact ⟨_, _, tv2, _, rfl, ((((h.dropAt 2).dropAt 1)).nil (some ⟨v3.heap.size, 0, none⟩) 4).nil (some ⟨v2.heap.size, 0, none⟩) 2⟩
          · skip
            refine h.alloc (fun v7 h ev7 nv7 => ?_)
            refine ⟨⟨sc, h.cell 4 rfl rfl, rfl⟩, ⟨_, h.cell 4 rfl rfl, rfl⟩, ?_⟩
            refine ⟨?_, trivial⟩
            refine h.alloc (fun v8 h ev8 nv8 => ?_)
            refine ⟨⟨sc, h.cell 5 rfl rfl, rfl⟩, ⟨_, h.cell 5 rfl rfl, rfl⟩, ?_⟩
            refine ⟨?_, trivial⟩
            refine h.put 1 rfl rfl rfl (fun v9 h nv9 => ?_)
            exact ⟨_, _, tv2, _, rfl, ((((h.dropAt 2).dropAt 0)).nil (some ⟨v7.heap.size, 0, none⟩) 4).nil (some ⟨v2.heap.size, 0, none⟩) 2⟩
        · skip
          refine h.alloc (fun v10 h ev10 nv10 => ?_)
          refine ⟨⟨sc, h.cell 3 rfl rfl, rfl⟩, ⟨_, h.cell 3 rfl rfl, rfl⟩, ?_⟩
          refine ⟨?_, ?_, trivial⟩
          · skip
            refine h.alloc (fun v11 h ev11 nv11 => ?_)
            refine ⟨⟨sc, h.cell 4 rfl rfl, rfl⟩, ⟨_, h.cell 4 rfl rfl, rfl⟩, ?_⟩
            refine ⟨?_, trivial⟩
            refine h.alloc (fun v12 h ev12 nv12 => ?_)
            refine ⟨⟨sc, h.cell 5 rfl rfl, rfl⟩, ⟨_, h.cell 5 rfl rfl, rfl⟩, ?_⟩
            refine ⟨?_, trivial⟩
            refine h.put 0 rfl rfl rfl (fun v13 h nv13 => ?_)
            exact ⟨_, _, tv2, _, rfl, ((((h.dropAt 2).dropAt 1)).nil (some ⟨v2.heap.size, 0, none⟩) 4).nil (some ⟨v10.heap.size, 0, none⟩) 2⟩
          · skip
            refine h.alloc (fun v14 h ev14 nv14 => ?_)
            refine ⟨⟨sc, h.cell 4 rfl rfl, rfl⟩, ⟨_, h.cell 4 rfl rfl, rfl⟩, ?_⟩
            refine ⟨?_, trivial⟩
            refine h.alloc (fun v15 h ev15 nv15 => ?_)
            refine ⟨⟨sc, h.cell 5 rfl rfl, rfl⟩, ⟨_, h.cell 5 rfl rfl, rfl⟩, ?_⟩
            refine ⟨?_, trivial⟩
            refine h.put 1 rfl rfl rfl (fun v16 h nv16 => ?_)
            exact ⟨_, _, tv2, _, rfl, ((((h.dropAt 2).dropAt 0)).nil (some ⟨v2.heap.size, 0, none⟩) 4).nil (some ⟨v14.heap.size, 0, none⟩) 2⟩
        · skip
          refine h.alloc (fun v17 h ev17 nv17 => ?_)
          refine ⟨⟨sc, h.cell 3 rfl rfl, rfl⟩, ⟨_, h.cell 3 rfl rfl, rfl⟩, ?_⟩
          refine ⟨?_, ?_, trivial⟩
          · skip
            refine h.alloc (fun v18 h ev18 nv18 => ?_)
            refine ⟨⟨sc, h.cell 4 rfl rfl, rfl⟩, ⟨_, h.cell 4 rfl rfl, rfl⟩, ?_⟩
            refine ⟨?_, trivial⟩
            refine h.alloc (fun v19 h ev19 nv19 => ?_)
            refine ⟨⟨sc, h.cell 5 rfl rfl, rfl⟩, ⟨_, h.cell 5 rfl rfl, rfl⟩, ?_⟩
            refine ⟨?_, trivial⟩
            refine h.put 2 rfl rfl rfl (fun v20 h nv20 => ?_)
            exact ⟨_, _, tv2, _, rfl, ((((h.dropAt 1).dropAt 0)).nil (some ⟨v18.heap.size, 0, none⟩) 4).nil (some ⟨v17.heap.size, 0, none⟩) 2⟩
          · skip
            refine h.alloc (fun v21 h ev21 nv21 => ?_)
            refine ⟨⟨sc, h.cell 4 rfl rfl, rfl⟩, ⟨_, h.cell 4 rfl rfl, rfl⟩, ?_⟩
            refine ⟨?_, trivial⟩
            refine h.alloc (fun v22 h ev22 nv22 => ?_)
            refine ⟨⟨sc, h.cell 5 rfl rfl, rfl⟩, ⟨_, h.cell 5 rfl rfl, rfl⟩, ?_⟩
            refine ⟨?_, trivial⟩
            refine h.put 2 rfl rfl rfl (fun v23 h nv23 => ?_)
            exact ⟨_, _, tv2, _, rfl, ((((h.dropAt 1).dropAt 0)).nil (some ⟨v17.heap.size, 0, none⟩) 4).nil (some ⟨v21.heap.size, 0, none⟩) 2⟩
      · skip
        refine h.alloc (fun v24 h ev24 nv24 => ?_)
        refine ⟨⟨sc, h.cell 3 rfl rfl, rfl⟩, ⟨_, h.cell 3 rfl rfl, rfl⟩, ?_⟩
        refine ⟨?_, ?_, ?_, trivial⟩
        · skip
          refine SH.appendR (f := DCap.cells) (l := []) (us := d.Caps) ((h.dropAt 1).nil (some ⟨w2.drew.heap.size, 0, none⟩) 5) (hd.ext h.ext).at_.caps.row hcl.symm (fun _ => rfl) rfl rfl (by decide) (by show (_ + _) * 40 ≤ _; simp; omega) plain_cap' (fun tv25 v25 h hv25 nv25 => ?_)
          refine ⟨⟨_, h.cell 3 rfl rfl, rfl⟩, ?_⟩
          refine ⟨?_, ?_, trivial⟩
          · skip
            refine h.alloc (fun v26 h ev26 nv26 => ?_)
            refine ⟨⟨sc, h.cell 4 rfl rfl, rfl⟩, ⟨_, h.cell 4 rfl rfl, rfl⟩, ?_⟩
            refine ⟨?_, trivial⟩
            refine h.alloc (fun v27 h ev27 nv27 => ?_)
            refine ⟨⟨sc, h.cell 5 rfl rfl, rfl⟩, ⟨_, h.cell 5 rfl rfl, rfl⟩, ?_⟩
            refine ⟨?_, trivial⟩
            refine h.put 0 rfl rfl rfl (fun v28 h nv28 => ?_)
            exact ⟨_, _, tv25, _, rfl, ((((h.dropAt 3).dropAt 1)).nil (some ⟨v25.heap.size, 0, none⟩) 4).nil (some ⟨v1.heap.size, 0, none⟩) 2⟩
          · skip
            refine h.alloc (fun v29 h ev29 nv29 => ?_)
            refine ⟨⟨sc, h.cell 4 rfl rfl, rfl⟩, ⟨_, h.cell 4 rfl rfl, rfl⟩, ?_⟩
            refine ⟨?_, trivial⟩
            refine h.alloc (fun v30 h ev30 nv30 => ?_)
            refine ⟨⟨sc, h.cell 5 rfl rfl, rfl⟩, ⟨_, h.cell 5 rfl rfl, rfl⟩, ?_⟩
            refine ⟨?_, trivial⟩
            refine h.put 1 rfl rfl rfl (fun v31 h nv31 => ?_)
            exact ⟨_, _, tv25, _, rfl, ((((h.dropAt 3).dropAt 0)).nil (some ⟨v29.heap.size, 0, none⟩) 4).nil (some ⟨v1.heap.size, 0, none⟩) 2⟩
        · skip
          refine h.alloc (fun v32 h ev32 nv32 => ?_)
          refine ⟨⟨sc, h.cell 4 rfl rfl, rfl⟩, ⟨_, h.cell 4 rfl rfl, rfl⟩, ?_⟩
          refine ⟨?_, ?_, trivial⟩
          · skip
            refine SH.appendR (f := DCap.cells) (l := []) (us := d.Caps) ((h.dropAt 2).nil (some ⟨w2.drew.heap.size, 0, none⟩) 5) (hd.ext h.ext).at_.caps.row hcl.symm (fun _ => rfl) rfl rfl (by decide) (by show (_ + _) * 40 ≤ _; simp; omega) plain_cap' (fun tv33 v33 h hv33 nv33 => ?_)
            refine ⟨⟨_, h.cell 4 rfl rfl, rfl⟩, ?_⟩
            refine ⟨?_, trivial⟩
            refine h.alloc (fun v34 h ev34 nv34 => ?_)
            refine ⟨⟨sc, h.cell 5 rfl rfl, rfl⟩, ⟨_, h.cell 5 rfl rfl, rfl⟩, ?_⟩
            refine ⟨?_, trivial⟩
            refine h.put 0 rfl rfl rfl (fun v35 h nv35 => ?_)
            exact ⟨_, _, tv33, _, rfl, ((((h.dropAt 3).dropAt 2)).nil (some ⟨v24.heap.size, 0, none⟩) 4).nil (some ⟨v1.heap.size, 0, none⟩) 2⟩
          · skip
            refine h.alloc (fun v36 h ev36 nv36 => ?_)
            refine ⟨⟨sc, h.cell 5 rfl rfl, rfl⟩, ⟨_, h.cell 5 rfl rfl, rfl⟩, ?_⟩
            refine ⟨?_, trivial⟩
            refine SH.appendR (f := DCap.cells) (l := []) (us := d.Caps) ((h.dropAt 3).nil (some ⟨w2.drew.heap.size, 0, none⟩) 5) (hd.ext h.ext).at_.caps.row hcl.symm (fun _ => rfl) rfl rfl (by decide) (by show (_ + _) * 40 ≤ _; simp; omega) plain_cap' (fun tv37 v37 h hv37 nv37 => ?_)
            refine ⟨⟨_, h.cell 5 rfl rfl, rfl⟩, ?_⟩
            refine ⟨?_, trivial⟩
            refine h.put 1 rfl rfl rfl (fun v38 h nv38 => ?_)
            exact ⟨_, _, tv37, _, rfl, ((((((h.dropAt 3).dropAt 2).front (n := 0) rfl).front (n := 1) rfl)).nil (some ⟨v24.heap.size, 0, none⟩) 4).nil (some ⟨v1.heap.size, 0, none⟩) 2⟩
        · skip
          refine h.alloc (fun v39 h ev39 nv39 => ?_)
          refine ⟨⟨sc, h.cell 4 rfl rfl, rfl⟩, ⟨_, h.cell 4 rfl rfl, rfl⟩, ?_⟩
          refine ⟨?_, ?_, trivial⟩
          · skip
            refine SH.appendR (f := DCap.cells) (l := []) (us := d.Caps) ((h.dropAt 2).nil (some ⟨w2.drew.heap.size, 0, none⟩) 5) (hd.ext h.ext).at_.caps.row hcl.symm (fun _ => rfl) rfl rfl (by decide) (by show (_ + _) * 40 ≤ _; simp; omega) plain_cap' (fun tv40 v40 h hv40 nv40 => ?_)
            refine ⟨⟨_, h.cell 4 rfl rfl, rfl⟩, ?_⟩
            refine ⟨?_, trivial⟩
            refine h.alloc (fun v41 h ev41 nv41 => ?_)
            refine ⟨⟨sc, h.cell 5 rfl rfl, rfl⟩, ⟨_, h.cell 5 rfl rfl, rfl⟩, ?_⟩
            refine ⟨?_, trivial⟩
            refine h.put 2 rfl rfl rfl (fun v42 h nv42 => ?_)
            exact ⟨_, _, tv40, _, rfl, ((((((h.dropAt 3).dropAt 0).front (n := 0) rfl).front (n := 1) rfl)).nil (some ⟨v40.heap.size, 0, none⟩) 4).nil (some ⟨v1.heap.size, 0, none⟩) 2⟩
          · skip
            refine h.alloc (fun v43 h ev43 nv43 => ?_)
            refine ⟨⟨sc, h.cell 5 rfl rfl, rfl⟩, ⟨_, h.cell 5 rfl rfl, rfl⟩, ?_⟩
            refine ⟨?_, trivial⟩
            refine SH.appendR (f := DCap.cells) (l := []) (us := d.Caps) ((h.dropAt 3).nil (some ⟨w2.drew.heap.size, 0, none⟩) 5) (hd.ext h.ext).at_.caps.row hcl.symm (fun _ => rfl) rfl rfl (by decide) (by show (_ + _) * 40 ≤ _; simp; omega) plain_cap' (fun tv44 v44 h hv44 nv44 => ?_)
            refine ⟨⟨_, h.cell 5 rfl rfl, rfl⟩, ?_⟩
            refine ⟨?_, trivial⟩
            refine h.put 2 rfl rfl rfl (fun v45 h nv45 => ?_)
            exact ⟨_, _, tv44, _, rfl, ((((((h.dropAt 3).dropAt 1).front (n := 0) rfl).front (n := 1) rfl)).nil (some ⟨v39.heap.size, 0, none⟩) 4).nil (some ⟨v1.heap.size, 0, none⟩) 2⟩
      · skip
        refine h.alloc (fun v46 h ev46 nv46 => ?_)
        refine ⟨⟨sc, h.cell 3 rfl rfl, rfl⟩, ⟨_, h.cell 3 rfl rfl, rfl⟩, ?_⟩
        refine ⟨?_, ?_, ?_, trivial⟩
        · skip
          refine SH.appendR (f := DCap.cells) (l := []) (us := d.Caps) ((h.dropAt 1).nil (some ⟨w2.drew.heap.size, 0, none⟩) 5) (hd.ext h.ext).at_.caps.row hcl.symm (fun _ => rfl) rfl rfl (by decide) (by show (_ + _) * 40 ≤ _; simp; omega) plain_cap' (fun tv47 v47 h hv47 nv47 => ?_)
          refine ⟨⟨_, h.cell 3 rfl rfl, rfl⟩, ?_⟩
          refine ⟨?_, ?_, trivial⟩
          · skip
            refine h.alloc (fun v48 h ev48 nv48 => ?_)
            refine ⟨⟨sc, h.cell 4 rfl rfl, rfl⟩, ⟨_, h.cell 4 rfl rfl, rfl⟩, ?_⟩
            refine ⟨?_, trivial⟩
            refine h.alloc (fun v49 h ev49 nv49 => ?_)
            refine ⟨⟨sc, h.cell 5 rfl rfl, rfl⟩, ⟨_, h.cell 5 rfl rfl, rfl⟩, ?_⟩
            refine ⟨?_, trivial⟩
            refine h.put 0 rfl rfl rfl (fun v50 h nv50 => ?_)
            exact ⟨_, _, tv47, _, rfl, ((((h.dropAt 3).dropAt 1)).nil (some ⟨v1.heap.size, 0, none⟩) 4).nil (some ⟨v47.heap.size, 0, none⟩) 2⟩
          · skip
            refine h.alloc (fun v51 h ev51 nv51 => ?_)
            refine ⟨⟨sc, h.cell 4 rfl rfl, rfl⟩, ⟨_, h.cell 4 rfl rfl, rfl⟩, ?_⟩
            refine ⟨?_, trivial⟩
            refine h.alloc (fun v52 h ev52 nv52 => ?_)
            refine ⟨⟨sc, h.cell 5 rfl rfl, rfl⟩, ⟨_, h.cell 5 rfl rfl, rfl⟩, ?_⟩
            refine ⟨?_, trivial⟩
            refine h.put 1 rfl rfl rfl (fun v53 h nv53 => ?_)
            exact ⟨_, _, tv47, _, rfl, ((((h.dropAt 3).dropAt 0)).nil (some ⟨v1.heap.size, 0, none⟩) 4).nil (some ⟨v51.heap.size, 0, none⟩) 2⟩
        · skip
          refine h.alloc (fun v54 h ev54 nv54 => ?_)
          refine ⟨⟨sc, h.cell 4 rfl rfl, rfl⟩, ⟨_, h.cell 4 rfl rfl, rfl⟩, ?_⟩
          refine ⟨?_, ?_, trivial⟩
          · skip
            refine SH.appendR (f := DCap.cells) (l := []) (us := d.Caps) ((h.dropAt 2).nil (some ⟨w2.drew.heap.size, 0, none⟩) 5) (hd.ext h.ext).at_.caps.row hcl.symm (fun _ => rfl) rfl rfl (by decide) (by show (_ + _) * 40 ≤ _; simp; omega) plain_cap' (fun tv55 v55 h hv55 nv55 => ?_)
            refine ⟨⟨_, h.cell 4 rfl rfl, rfl⟩, ?_⟩
            refine ⟨?_, trivial⟩
            refine h.alloc (fun v56 h ev56 nv56 => ?_)
            refine ⟨⟨sc, h.cell 5 rfl rfl, rfl⟩, ⟨_, h.cell 5 rfl rfl, rfl⟩, ?_⟩
            refine ⟨?_, trivial⟩
            refine h.put 0 rfl rfl rfl (fun v57 h nv57 => ?_)
            exact ⟨_, _, tv55, _, rfl, ((((h.dropAt 3).dropAt 2)).nil (some ⟨v1.heap.size, 0, none⟩) 4).nil (some ⟨v46.heap.size, 0, none⟩) 2⟩
          · skip
            refine h.alloc (fun v58 h ev58 nv58 => ?_)
            refine ⟨⟨sc, h.cell 5 rfl rfl, rfl⟩, ⟨_, h.cell 5 rfl rfl, rfl⟩, ?_⟩
            refine ⟨?_, trivial⟩
            refine SH.appendR (f := DCap.cells) (l := []) (us := d.Caps) ((h.dropAt 3).nil (some ⟨w2.drew.heap.size, 0, none⟩) 5) (hd.ext h.ext).at_.caps.row hcl.symm (fun _ => rfl) rfl rfl (by decide) (by show (_ + _) * 40 ≤ _; simp; omega) plain_cap' (fun tv59 v59 h hv59 nv59 => ?_)
            refine ⟨⟨_, h.cell 5 rfl rfl, rfl⟩, ?_⟩
            refine ⟨?_, trivial⟩
            refine h.put 1 rfl rfl rfl (fun v60 h nv60 => ?_)
            exact ⟨_, _, tv59, _, rfl, ((((((h.dropAt 3).dropAt 2).front (n := 0) rfl).front (n := 1) rfl)).nil (some ⟨v1.heap.size, 0, none⟩) 4).nil (some ⟨v46.heap.size, 0, none⟩) 2⟩
        · skip
          refine h.alloc (fun v61 h ev61 nv61 => ?_)
          refine ⟨⟨sc, h.cell 4 rfl rfl, rfl⟩, ⟨_, h.cell 4 rfl rfl, rfl⟩, ?_⟩
          refine ⟨?_, ?_, trivial⟩
          · skip
            refine SH.appendR (f := DCap.cells) (l := []) (us := d.Caps) ((h.dropAt 2).nil (some ⟨w2.drew.heap.size, 0, none⟩) 5) (hd.ext h.ext).at_.caps.row hcl.symm (fun _ => rfl) rfl rfl (by decide) (by show (_ + _) * 40 ≤ _; simp; omega) plain_cap' (fun tv62 v62 h hv62 nv62 => ?_)
            refine ⟨⟨_, h.cell 4 rfl rfl, rfl⟩, ?_⟩
            refine ⟨?_, trivial⟩
            refine h.alloc (fun v63 h ev63 nv63 => ?_)
            refine ⟨⟨sc, h.cell 5 rfl rfl, rfl⟩, ⟨_, h.cell 5 rfl rfl, rfl⟩, ?_⟩
            refine ⟨?_, trivial⟩
            refine h.put 2 rfl rfl rfl (fun v64 h nv64 => ?_)
            exact ⟨_, _, tv62, _, rfl, ((((((h.dropAt 3).dropAt 0).front (n := 0) rfl).front (n := 1) rfl)).nil (some ⟨v1.heap.size, 0, none⟩) 4).nil (some ⟨v62.heap.size, 0, none⟩) 2⟩
          · skip
            refine h.alloc (fun v65 h ev65 nv65 => ?_)
            refine ⟨⟨sc, h.cell 5 rfl rfl, rfl⟩, ⟨_, h.cell 5 rfl rfl, rfl⟩, ?_⟩
            refine ⟨?_, trivial⟩
            refine SH.appendR (f := DCap.cells) (l := []) (us := d.Caps) ((h.dropAt 3).nil (some ⟨w2.drew.heap.size, 0, none⟩) 5) (hd.ext h.ext).at_.caps.row hcl.symm (fun _ => rfl) rfl rfl (by decide) (by show (_ + _) * 40 ≤ _; simp; omega) plain_cap' (fun tv66 v66 h hv66 nv66 => ?_)
            refine ⟨⟨_, h.cell 5 rfl rfl, rfl⟩, ?_⟩
            refine ⟨?_, trivial⟩
            refine h.put 2 rfl rfl rfl (fun v67 h nv67 => ?_)
            exact ⟨_, _, tv66, _, rfl, ((((((h.dropAt 3).dropAt 1).front (n := 0) rfl).front (n := 1) rfl)).nil (some ⟨v1.heap.size, 0, none⟩) 4).nil (some ⟨v61.heap.size, 0, none⟩) 2⟩
      · skip
        refine h.alloc (fun v68 h ev68 nv68 => ?_)
        refine ⟨⟨sc, h.cell 3 rfl rfl, rfl⟩, ⟨_, h.cell 3 rfl rfl, rfl⟩, ?_⟩
        refine ⟨?_, ?_, ?_, trivial⟩
        · skip
          refine SH.appendR (f := DCap.cells) (l := []) (us := d.Caps) ((h.dropAt 1).nil (some ⟨w2.drew.heap.size, 0, none⟩) 5) (hd.ext h.ext).at_.caps.row hcl.symm (fun _ => rfl) rfl rfl (by decide) (by show (_ + _) * 40 ≤ _; simp; omega) plain_cap' (fun tv69 v69 h hv69 nv69 => ?_)
          refine ⟨⟨_, h.cell 3 rfl rfl, rfl⟩, ?_⟩
          refine ⟨?_, ?_, trivial⟩
          · skip
            refine h.alloc (fun v70 h ev70 nv70 => ?_)
            refine ⟨⟨sc, h.cell 4 rfl rfl, rfl⟩, ⟨_, h.cell 4 rfl rfl, rfl⟩, ?_⟩
            refine ⟨?_, trivial⟩
            refine h.alloc (fun v71 h ev71 nv71 => ?_)
            refine ⟨⟨sc, h.cell 5 rfl rfl, rfl⟩, ⟨_, h.cell 5 rfl rfl, rfl⟩, ?_⟩
            refine ⟨?_, trivial⟩
            refine h.put 3 rfl rfl rfl (fun v72 h nv72 => ?_)
            exact ⟨_, _, tv69, _, rfl, ((((((h.dropAt 1).dropAt 0).front (n := 0) rfl).front (n := 1) rfl)).nil (some ⟨v70.heap.size, 0, none⟩) 4).nil (some ⟨v69.heap.size, 0, none⟩) 2⟩
          · skip
            refine h.alloc (fun v73 h ev73 nv73 => ?_)
            refine ⟨⟨sc, h.cell 4 rfl rfl, rfl⟩, ⟨_, h.cell 4 rfl rfl, rfl⟩, ?_⟩
            refine ⟨?_, trivial⟩
            refine h.alloc (fun v74 h ev74 nv74 => ?_)
            refine ⟨⟨sc, h.cell 5 rfl rfl, rfl⟩, ⟨_, h.cell 5 rfl rfl, rfl⟩, ?_⟩
            refine ⟨?_, trivial⟩
            refine h.put 3 rfl rfl rfl (fun v75 h nv75 => ?_)
            exact ⟨_, _, tv69, _, rfl, ((((((h.dropAt 1).dropAt 0).front (n := 0) rfl).front (n := 1) rfl)).nil (some ⟨v69.heap.size, 0, none⟩) 4).nil (some ⟨v73.heap.size, 0, none⟩) 2⟩
        · skip
          refine h.alloc (fun v76 h ev76 nv76 => ?_)
          refine ⟨⟨sc, h.cell 4 rfl rfl, rfl⟩, ⟨_, h.cell 4 rfl rfl, rfl⟩, ?_⟩
          refine ⟨?_, ?_, trivial⟩
          · skip
            refine SH.appendR (f := DCap.cells) (l := []) (us := d.Caps) ((h.dropAt 2).nil (some ⟨w2.drew.heap.size, 0, none⟩) 5) (hd.ext h.ext).at_.caps.row hcl.symm (fun _ => rfl) rfl rfl (by decide) (by show (_ + _) * 40 ≤ _; simp; omega) plain_cap' (fun tv77 v77 h hv77 nv77 => ?_)
            refine ⟨⟨_, h.cell 4 rfl rfl, rfl⟩, ?_⟩
            refine ⟨?_, trivial⟩
            refine h.alloc (fun v78 h ev78 nv78 => ?_)
            refine ⟨⟨sc, h.cell 5 rfl rfl, rfl⟩, ⟨_, h.cell 5 rfl rfl, rfl⟩, ?_⟩
            refine ⟨?_, trivial⟩
            refine h.put 3 rfl rfl rfl (fun v79 h nv79 => ?_)
            exact ⟨_, _, tv77, _, rfl, ((((((h.dropAt 2).dropAt 0).front (n := 0) rfl).front (n := 1) rfl)).nil (some ⟨v77.heap.size, 0, none⟩) 4).nil (some ⟨v68.heap.size, 0, none⟩) 2⟩
          · skip
            refine h.alloc (fun v80 h ev80 nv80 => ?_)
            refine ⟨⟨sc, h.cell 5 rfl rfl, rfl⟩, ⟨_, h.cell 5 rfl rfl, rfl⟩, ?_⟩
            refine ⟨?_, trivial⟩
            refine SH.appendR (f := DCap.cells) (l := []) (us := d.Caps) ((h.dropAt 3).nil (some ⟨w2.drew.heap.size, 0, none⟩) 5) (hd.ext h.ext).at_.caps.row hcl.symm (fun _ => rfl) rfl rfl (by decide) (by show (_ + _) * 40 ≤ _; simp; omega) plain_cap' (fun tv81 v81 h hv81 nv81 => ?_)
            refine ⟨⟨_, h.cell 5 rfl rfl, rfl⟩, ?_⟩
            refine ⟨?_, trivial⟩
            refine h.put 3 rfl rfl rfl (fun v82 h nv82 => ?_)
            exact ⟨_, _, tv81, _, rfl, ((((((h.dropAt 2).dropAt 1).front (n := 0) rfl).front (n := 1) rfl)).nil (some ⟨v76.heap.size, 0, none⟩) 4).nil (some ⟨v68.heap.size, 0, none⟩) 2⟩
        · skip
          refine h.alloc (fun v83 h ev83 nv83 => ?_)
          refine ⟨⟨sc, h.cell 4 rfl rfl, rfl⟩, ⟨_, h.cell 4 rfl rfl, rfl⟩, ?_⟩
          refine ⟨?_, ?_, trivial⟩
          · skip
            refine SH.appendR (f := DCap.cells) (l := []) (us := d.Caps) ((h.dropAt 2).nil (some ⟨w2.drew.heap.size, 0, none⟩) 5) (hd.ext h.ext).at_.caps.row hcl.symm (fun _ => rfl) rfl rfl (by decide) (by show (_ + _) * 40 ≤ _; simp; omega) plain_cap' (fun tv84 v84 h hv84 nv84 => ?_)
            refine ⟨⟨_, h.cell 4 rfl rfl, rfl⟩, ?_⟩
            refine ⟨?_, trivial⟩
            refine h.alloc (fun v85 h ev85 nv85 => ?_)
            refine ⟨⟨sc, h.cell 5 rfl rfl, rfl⟩, ⟨_, h.cell 5 rfl rfl, rfl⟩, ?_⟩
            refine ⟨?_, trivial⟩
            refine h.put 3 rfl rfl rfl (fun v86 h nv86 => ?_)
            exact ⟨_, _, tv84, _, rfl, ((((((h.dropAt 2).dropAt 0).front (n := 0) rfl).front (n := 1) rfl)).nil (some ⟨v68.heap.size, 0, none⟩) 4).nil (some ⟨v84.heap.size, 0, none⟩) 2⟩
          · skip
            refine h.alloc (fun v87 h ev87 nv87 => ?_)
            refine ⟨⟨sc, h.cell 5 rfl rfl, rfl⟩, ⟨_, h.cell 5 rfl rfl, rfl⟩, ?_⟩
            refine ⟨?_, trivial⟩
            refine SH.appendR (f := DCap.cells) (l := []) (us := d.Caps) ((h.dropAt 3).nil (some ⟨w2.drew.heap.size, 0, none⟩) 5) (hd.ext h.ext).at_.caps.row hcl.symm (fun _ => rfl) rfl rfl (by decide) (by show (_ + _) * 40 ≤ _; simp; omega) plain_cap' (fun tv88 v88 h hv88 nv88 => ?_)
            refine ⟨⟨_, h.cell 5 rfl rfl, rfl⟩, ?_⟩
            refine ⟨?_, trivial⟩
            refine h.put 3 rfl rfl rfl (fun v89 h nv89 => ?_)
            exact ⟨_, _, tv88, _, rfl, ((((((h.dropAt 2).dropAt 1).front (n := 0) rfl).front (n := 1) rfl)).nil (some ⟨v68.heap.size, 0, none⟩) 4).nil (some ⟨v83.heap.size, 0, none⟩) 2⟩
    · skip
      refine h.alloc (fun v90 h ev90 nv90 => ?_)
      refine ⟨⟨sc, h.cell 2 rfl rfl, rfl⟩, ⟨_, h.cell 2 rfl rfl, rfl⟩, ?_⟩
      refine ⟨?_, ?_, ?_, trivial⟩
      · skip
        refine h.alloc (fun v91 h ev91 nv91 => ?_)
        refine ⟨⟨sc, h.cell 3 rfl rfl, rfl⟩, ⟨_, h.cell 3 rfl rfl, rfl⟩, ?_⟩
        refine ⟨?_, ?_, ?_, trivial⟩
        · skip
          refine SH.appendR (f := DCap.cells) (l := []) (us := d.Caps) ((h.dropAt 0).nil (some ⟨v90.heap.size, 0, none⟩) 5) (hd.ext h.ext).at_.caps.row hcl.symm (fun _ => rfl) rfl rfl (by decide) (by show (_ + _) * 40 ≤ _; simp; omega) plain_cap' (fun tv92 v92 h hv92 nv92 => ?_)
          refine ⟨⟨_, h.cell 3 rfl rfl, rfl⟩, ?_⟩
          refine ⟨?_, ?_, trivial⟩
          · skip
            refine h.alloc (fun v93 h ev93 nv93 => ?_)
            refine ⟨⟨sc, h.cell 4 rfl rfl, rfl⟩, ⟨_, h.cell 4 rfl rfl, rfl⟩, ?_⟩
            refine ⟨?_, trivial⟩
            refine h.alloc (fun v94 h ev94 nv94 => ?_)
            refine ⟨⟨sc, h.cell 5 rfl rfl, rfl⟩, ⟨_, h.cell 5 rfl rfl, rfl⟩, ?_⟩
            refine ⟨?_, trivial⟩
            refine h.put 0 rfl rfl rfl (fun v95 h nv95 => ?_)
            exact ⟨_, _, tv92, _, rfl, ((((h.dropAt 3).dropAt 1)).nil (some ⟨v92.heap.size, 0, none⟩) 4).nil (some ⟨w2.drew.heap.size, 0, none⟩) 2⟩
          · skip
            refine h.alloc (fun v96 h ev96 nv96 => ?_)
            refine ⟨⟨sc, h.cell 4 rfl rfl, rfl⟩, ⟨_, h.cell 4 rfl rfl, rfl⟩, ?_⟩
            refine ⟨?_, trivial⟩
            refine h.alloc (fun v97 h ev97 nv97 => ?_)
            refine ⟨⟨sc, h.cell 5 rfl rfl, rfl⟩, ⟨_, h.cell 5 rfl rfl, rfl⟩, ?_⟩
            refine ⟨?_, trivial⟩
            refine h.put 1 rfl rfl rfl (fun v98 h nv98 => ?_)
            exact ⟨_, _, tv92, _, rfl, ((((h.dropAt 3).dropAt 0)).nil (some ⟨v96.heap.size, 0, none⟩) 4).nil (some ⟨w2.drew.heap.size, 0, none⟩) 2⟩
        · skip
          refine h.alloc (fun v99 h ev99 nv99 => ?_)
          refine ⟨⟨sc, h.cell 4 rfl rfl, rfl⟩, ⟨_, h.cell 4 rfl rfl, rfl⟩, ?_⟩
          refine ⟨?_, ?_, trivial⟩
          · skip
            refine SH.appendR (f := DCap.cells) (l := []) (us := d.Caps) ((h.dropAt 1).nil (some ⟨v90.heap.size, 0, none⟩) 5) (hd.ext h.ext).at_.caps.row hcl.symm (fun _ => rfl) rfl rfl (by decide) (by show (_ + _) * 40 ≤ _; simp; omega) plain_cap' (fun tv100 v100 h hv100 nv100 => ?_)
            refine ⟨⟨_, h.cell 4 rfl rfl, rfl⟩, ?_⟩
            refine ⟨?_, trivial⟩
            refine h.alloc (fun v101 h ev101 nv101 => ?_)
            refine ⟨⟨sc, h.cell 5 rfl rfl, rfl⟩, ⟨_, h.cell 5 rfl rfl, rfl⟩, ?_⟩
            refine ⟨?_, trivial⟩
            refine h.put 0 rfl rfl rfl (fun v102 h nv102 => ?_)
            exact ⟨_, _, tv100, _, rfl, ((((h.dropAt 3).dropAt 2)).nil (some ⟨v91.heap.size, 0, none⟩) 4).nil (some ⟨w2.drew.heap.size, 0, none⟩) 2⟩
          · skip
            refine h.alloc (fun v103 h ev103 nv103 => ?_)
            refine ⟨⟨sc, h.cell 5 rfl rfl, rfl⟩, ⟨_, h.cell 5 rfl rfl, rfl⟩, ?_⟩
            refine ⟨?_, trivial⟩
            refine SH.appendR (f := DCap.cells) (l := []) (us := d.Caps) ((h.dropAt 2).nil (some ⟨v90.heap.size, 0, none⟩) 5) (hd.ext h.ext).at_.caps.row hcl.symm (fun _ => rfl) rfl rfl (by decide) (by show (_ + _) * 40 ≤ _; simp; omega) plain_cap' (fun tv104 v104 h hv104 nv104 => ?_)
            refine ⟨⟨_, h.cell 5 rfl rfl, rfl⟩, ?_⟩
            refine ⟨?_, trivial⟩
            refine h.put 1 rfl rfl rfl (fun v105 h nv105 => ?_)
            exact ⟨_, _, tv104, _, rfl, ((((((h.dropAt 3).dropAt 2).front (n := 0) rfl).front (n := 1) rfl)).nil (some ⟨v91.heap.size, 0, none⟩) 4).nil (some ⟨w2.drew.heap.size, 0, none⟩) 2⟩
        · skip
          refine h.alloc (fun v106 h ev106 nv106 => ?_)
          refine ⟨⟨sc, h.cell 4 rfl rfl, rfl⟩, ⟨_, h.cell 4 rfl rfl, rfl⟩, ?_⟩
          refine ⟨?_, ?_, trivial⟩
          · skip
            refine SH.appendR (f := DCap.cells) (l := []) (us := d.Caps) ((h.dropAt 1).nil (some ⟨v90.heap.size, 0, none⟩) 5) (hd.ext h.ext).at_.caps.row hcl.symm (fun _ => rfl) rfl rfl (by decide) (by show (_ + _) * 40 ≤ _; simp; omega) plain_cap' (fun tv107 v107 h hv107 nv107 => ?_)
            refine ⟨⟨_, h.cell 4 rfl rfl, rfl⟩, ?_⟩
            refine ⟨?_, trivial⟩
            refine h.alloc (fun v108 h ev108 nv108 => ?_)
            refine ⟨⟨sc, h.cell 5 rfl rfl, rfl⟩, ⟨_, h.cell 5 rfl rfl, rfl⟩, ?_⟩
            refine ⟨?_, trivial⟩
            refine h.put 2 rfl rfl rfl (fun v109 h nv109 => ?_)
            exact ⟨_, _, tv107, _, rfl, ((((((h.dropAt 3).dropAt 0).front (n := 0) rfl).front (n := 1) rfl)).nil (some ⟨v107.heap.size, 0, none⟩) 4).nil (some ⟨w2.drew.heap.size, 0, none⟩) 2⟩
          · skip
            refine h.alloc (fun v110 h ev110 nv110 => ?_)
            refine ⟨⟨sc, h.cell 5 rfl rfl, rfl⟩, ⟨_, h.cell 5 rfl rfl, rfl⟩, ?_⟩
            refine ⟨?_, trivial⟩
            refine SH.appendR (f := DCap.cells) (l := []) (us := d.Caps) ((h.dropAt 2).nil (some ⟨v90.heap.size, 0, none⟩) 5) (hd.ext h.ext).at_.caps.row hcl.symm (fun _ => rfl) rfl rfl (by decide) (by show (_ + _) * 40 ≤ _; simp; omega) plain_cap' (fun tv111 v111 h hv111 nv111 => ?_)
            refine ⟨⟨_, h.cell 5 rfl rfl, rfl⟩, ?_⟩
            refine ⟨?_, trivial⟩
            refine h.put 2 rfl rfl rfl (fun v112 h nv112 => ?_)
            exact ⟨_, _, tv111, _, rfl, ((((((h.dropAt 3).dropAt 1).front (n := 0) rfl).front (n := 1) rfl)).nil (some ⟨v106.heap.size, 0, none⟩) 4).nil (some ⟨w2.drew.heap.size, 0, none⟩) 2⟩
      · skip
        refine h.alloc (fun v113 h ev113 nv113 => ?_)
        refine ⟨⟨sc, h.cell 3 rfl rfl, rfl⟩, ⟨_, h.cell 3 rfl rfl, rfl⟩, ?_⟩
        refine ⟨?_, ?_, trivial⟩
        · skip
          refine h.alloc (fun v114 h ev114 nv114 => ?_)
          refine ⟨⟨sc, h.cell 4 rfl rfl, rfl⟩, ⟨_, h.cell 4 rfl rfl, rfl⟩, ?_⟩
          refine ⟨?_, ?_, trivial⟩
          · skip
            refine SH.appendR (f := DCap.cells) (l := []) (us := d.Caps) ((h.dropAt 0).nil (some ⟨v113.heap.size, 0, none⟩) 5) (hd.ext h.ext).at_.caps.row hcl.symm (fun _ => rfl) rfl rfl (by decide) (by show (_ + _) * 40 ≤ _; simp; omega) plain_cap' (fun tv115 v115 h hv115 nv115 => ?_)
            refine ⟨⟨_, h.cell 4 rfl rfl, rfl⟩, ?_⟩
            refine ⟨?_, trivial⟩
            refine h.alloc (fun v116 h ev116 nv116 => ?_)
            refine ⟨⟨sc, h.cell 5 rfl rfl, rfl⟩, ⟨_, h.cell 5 rfl rfl, rfl⟩, ?_⟩
            refine ⟨?_, trivial⟩
            refine h.put 0 rfl rfl rfl (fun v117 h nv117 => ?_)
            exact ⟨_, _, tv115, _, rfl, ((((h.dropAt 3).dropAt 2)).nil (some ⟨v90.heap.size, 0, none⟩) 4).nil (some ⟨w2.drew.heap.size, 0, none⟩) 2⟩
          · skip
            refine h.alloc (fun v118 h ev118 nv118 => ?_)
            refine ⟨⟨sc, h.cell 5 rfl rfl, rfl⟩, ⟨_, h.cell 5 rfl rfl, rfl⟩, ?_⟩
            refine ⟨?_, trivial⟩
            refine SH.appendR (f := DCap.cells) (l := []) (us := d.Caps) ((h.dropAt 1).nil (some ⟨v113.heap.size, 0, none⟩) 5) (hd.ext h.ext).at_.caps.row hcl.symm (fun _ => rfl) rfl rfl (by decide) (by show (_ + _) * 40 ≤ _; simp; omega) plain_cap' (fun tv119 v119 h hv119 nv119 => ?_)
            refine ⟨⟨_, h.cell 5 rfl rfl, rfl⟩, ?_⟩
            refine ⟨?_, trivial⟩
            refine h.put 1 rfl rfl rfl (fun v120 h nv120 => ?_)
            exact ⟨_, _, tv119, _, rfl, ((((((h.dropAt 3).dropAt 2).front (n := 0) rfl).front (n := 1) rfl)).nil (some ⟨v90.heap.size, 0, none⟩) 4).nil (some ⟨w2.drew.heap.size, 0, none⟩) 2⟩
        · skip
          refine h.alloc (fun v121 h ev121 nv121 => ?_)
          refine ⟨⟨sc, h.cell 4 rfl rfl, rfl⟩, ⟨_, h.cell 4 rfl rfl, rfl⟩, ?_⟩
          refine ⟨?_, trivial⟩
          refine h.alloc (fun v122 h ev122 nv122 => ?_)
          refine ⟨⟨sc, h.cell 5 rfl rfl, rfl⟩, ⟨_, h.cell 5 rfl rfl, rfl⟩, ?_⟩
          refine ⟨?_, trivial⟩
          refine SH.appendR (f := DCap.cells) (l := []) (us := d.Caps) ((h.dropAt 0).nil (some ⟨v121.heap.size, 0, none⟩) 5) (hd.ext h.ext).at_.caps.row hcl.symm (fun _ => rfl) rfl rfl (by decide) (by show (_ + _) * 40 ≤ _; simp; omega) plain_cap' (fun tv123 v123 h hv123 nv123 => ?_)
          refine ⟨⟨_, h.cell 5 rfl rfl, rfl⟩, ?_⟩
          refine ⟨?_, trivial⟩
          refine h.put 1 rfl rfl rfl (fun v124 h nv124 => ?_)
          exact ⟨_, _, tv123, _, rfl, ((((((h.dropAt 3).dropAt 2).front (n := 0) rfl).front (n := 1) rfl)).nil (some ⟨v90.heap.size, 0, none⟩) 4).nil (some ⟨w2.drew.heap.size, 0, none⟩) 2⟩
      · skip
        refine h.alloc (fun v125 h ev125 nv125 => ?_)
        refine ⟨⟨sc, h.cell 3 rfl rfl, rfl⟩, ⟨_, h.cell 3 rfl rfl, rfl⟩, ?_⟩
        refine ⟨?_, ?_, trivial⟩
        · skip
          refine h.alloc (fun v126 h ev126 nv126 => ?_)
          refine ⟨⟨sc, h.cell 4 rfl rfl, rfl⟩, ⟨_, h.cell 4 rfl rfl, rfl⟩, ?_⟩
          refine ⟨?_, ?_, trivial⟩
          · skip
            refine SH.appendR (f := DCap.cells) (l := []) (us := d.Caps) ((h.dropAt 0).nil (some ⟨v125.heap.size, 0, none⟩) 5) (hd.ext h.ext).at_.caps.row hcl.symm (fun _ => rfl) rfl rfl (by decide) (by show (_ + _) * 40 ≤ _; simp; omega) plain_cap' (fun tv127 v127 h hv127 nv127 => ?_)
            refine ⟨⟨_, h.cell 4 rfl rfl, rfl⟩, ?_⟩
            refine ⟨?_, trivial⟩
            refine h.alloc (fun v128 h ev128 nv128 => ?_)
            refine ⟨⟨sc, h.cell 5 rfl rfl, rfl⟩, ⟨_, h.cell 5 rfl rfl, rfl⟩, ?_⟩
            refine ⟨?_, trivial⟩
            refine h.put 2 rfl rfl rfl (fun v129 h nv129 => ?_)
            exact ⟨_, _, tv127, _, rfl, ((((((h.dropAt 3).dropAt 0).front (n := 0) rfl).front (n := 1) rfl)).nil (some ⟨v127.heap.size, 0, none⟩) 4).nil (some ⟨w2.drew.heap.size, 0, none⟩) 2⟩
          · skip
            refine h.alloc (fun v130 h ev130 nv130 => ?_)
            refine ⟨⟨sc, h.cell 5 rfl rfl, rfl⟩, ⟨_, h.cell 5 rfl rfl, rfl⟩, ?_⟩
            refine ⟨?_, trivial⟩
            refine SH.appendR (f := DCap.cells) (l := []) (us := d.Caps) ((h.dropAt 1).nil (some ⟨v125.heap.size, 0, none⟩) 5) (hd.ext h.ext).at_.caps.row hcl.symm (fun _ => rfl) rfl rfl (by decide) (by show (_ + _) * 40 ≤ _; simp; omega) plain_cap' (fun tv131 v131 h hv131 nv131 => ?_)
            refine ⟨⟨_, h.cell 5 rfl rfl, rfl⟩, ?_⟩
            refine ⟨?_, trivial⟩
            refine h.put 2 rfl rfl rfl (fun v132 h nv132 => ?_)
            exact ⟨_, _, tv131, _, rfl, ((((((h.dropAt 3).dropAt 1).front (n := 0) rfl).front (n := 1) rfl)).nil (some ⟨v126.heap.size, 0, none⟩) 4).nil (some ⟨w2.drew.heap.size, 0, none⟩) 2⟩
        · skip
          refine h.alloc (fun v133 h ev133 nv133 => ?_)
          refine ⟨⟨sc, h.cell 4 rfl rfl, rfl⟩, ⟨_, h.cell 4 rfl rfl, rfl⟩, ?_⟩
          refine ⟨?_, trivial⟩
          refine h.alloc (fun v134 h ev134 nv134 => ?_)
          refine ⟨⟨sc, h.cell 5 rfl rfl, rfl⟩, ⟨_, h.cell 5 rfl rfl, rfl⟩, ?_⟩
          refine ⟨?_, trivial⟩
          refine SH.appendR (f := DCap.cells) (l := []) (us := d.Caps) ((h.dropAt 0).nil (some ⟨v133.heap.size, 0, none⟩) 5) (hd.ext h.ext).at_.caps.row hcl.symm (fun _ => rfl) rfl rfl (by decide) (by show (_ + _) * 40 ≤ _; simp; omega) plain_cap' (fun tv135 v135 h hv135 nv135 => ?_)
          refine ⟨⟨_, h.cell 5 rfl rfl, rfl⟩, ?_⟩
          refine ⟨?_, trivial⟩
          refine h.put 2 rfl rfl rfl (fun v136 h nv136 => ?_)
          exact ⟨_, _, tv135, _, rfl, ((((((h.dropAt 3).dropAt 1).front (n := 0) rfl).front (n := 1) rfl)).nil (some ⟨v125.heap.size, 0, none⟩) 4).nil (some ⟨w2.drew.heap.size, 0, none⟩) 2⟩
    · skip
      refine h.alloc (fun v137 h ev137 nv137 => ?_)
      refine ⟨⟨sc, h.cell 2 rfl rfl, rfl⟩, ⟨_, h.cell 2 rfl rfl, rfl⟩, ?_⟩
      refine ⟨?_, ?_, ?_, trivial⟩
      · skip
        refine h.alloc (fun v138 h ev138 nv138 => ?_)
        refine ⟨⟨sc, h.cell 3 rfl rfl, rfl⟩, ⟨_, h.cell 3 rfl rfl, rfl⟩, ?_⟩
        refine ⟨?_, ?_, ?_, trivial⟩
        · skip
          refine SH.appendR (f := DCap.cells) (l := []) (us := d.Caps) ((h.dropAt 0).nil (some ⟨v137.heap.size, 0, none⟩) 5) (hd.ext h.ext).at_.caps.row hcl.symm (fun _ => rfl) rfl rfl (by decide) (by show (_ + _) * 40 ≤ _; simp; omega) plain_cap' (fun tv139 v139 h hv139 nv139 => ?_)
          refine ⟨⟨_, h.cell 3 rfl rfl, rfl⟩, ?_⟩
          refine ⟨?_, ?_, trivial⟩
          · skip
            refine h.alloc (fun v140 h ev140 nv140 => ?_)
            refine ⟨⟨sc, h.cell 4 rfl rfl, rfl⟩, ⟨_, h.cell 4 rfl rfl, rfl⟩, ?_⟩
            refine ⟨?_, trivial⟩
            refine h.alloc (fun v141 h ev141 nv141 => ?_)
            refine ⟨⟨sc, h.cell 5 rfl rfl, rfl⟩, ⟨_, h.cell 5 rfl rfl, rfl⟩, ?_⟩
            refine ⟨?_, trivial⟩
            refine h.put 0 rfl rfl rfl (fun v142 h nv142 => ?_)
            exact ⟨_, _, tv139, _, rfl, ((((h.dropAt 3).dropAt 1)).nil (some ⟨w2.drew.heap.size, 0, none⟩) 4).nil (some ⟨v139.heap.size, 0, none⟩) 2⟩
          · skip
            refine h.alloc (fun v143 h ev143 nv143 => ?_)
            refine ⟨⟨sc, h.cell 4 rfl rfl, rfl⟩, ⟨_, h.cell 4 rfl rfl, rfl⟩, ?_⟩
            refine ⟨?_, trivial⟩
            refine h.alloc (fun v144 h ev144 nv144 => ?_)
            refine ⟨⟨sc, h.cell 5 rfl rfl, rfl⟩, ⟨_, h.cell 5 rfl rfl, rfl⟩, ?_⟩
            refine ⟨?_, trivial⟩
            refine h.put 1 rfl rfl rfl (fun v145 h nv145 => ?_)
            exact ⟨_, _, tv139, _, rfl, ((((h.dropAt 3).dropAt 0)).nil (some ⟨w2.drew.heap.size, 0, none⟩) 4).nil (some ⟨v143.heap.size, 0, none⟩) 2⟩
        · skip
          refine h.alloc (fun v146 h ev146 nv146 => ?_)
          refine ⟨⟨sc, h.cell 4 rfl rfl, rfl⟩, ⟨_, h.cell 4 rfl rfl, rfl⟩, ?_⟩
          refine ⟨?_, ?_, trivial⟩
          · skip
            refine SH.appendR (f := DCap.cells) (l := []) (us := d.Caps) ((h.dropAt 1).nil (some ⟨v137.heap.size, 0, none⟩) 5) (hd.ext h.ext).at_.caps.row hcl.symm (fun _ => rfl) rfl rfl (by decide) (by show (_ + _) * 40 ≤ _; simp; omega) plain_cap' (fun tv147 v147 h hv147 nv147 => ?_)
            refine ⟨⟨_, h.cell 4 rfl rfl, rfl⟩, ?_⟩
            refine ⟨?_, trivial⟩
            refine h.alloc (fun v148 h ev148 nv148 => ?_)
            refine ⟨⟨sc, h.cell 5 rfl rfl, rfl⟩, ⟨_, h.cell 5 rfl rfl, rfl⟩, ?_⟩
            refine ⟨?_, trivial⟩
            refine h.put 0 rfl rfl rfl (fun v149 h nv149 => ?_)
            exact ⟨_, _, tv147, _, rfl, ((((h.dropAt 3).dropAt 2)).nil (some ⟨w2.drew.heap.size, 0, none⟩) 4).nil (some ⟨v138.heap.size, 0, none⟩) 2⟩
          · skip
            refine h.alloc (fun v150 h ev150 nv150 => ?_)
            refine ⟨⟨sc, h.cell 5 rfl rfl, rfl⟩, ⟨_, h.cell 5 rfl rfl, rfl⟩, ?_⟩
            refine ⟨?_, trivial⟩
            refine SH.appendR (f := DCap.cells) (l := []) (us := d.Caps) ((h.dropAt 2).nil (some ⟨v137.heap.size, 0, none⟩) 5) (hd.ext h.ext).at_.caps.row hcl.symm (fun _ => rfl) rfl rfl (by decide) (by show (_ + _) * 40 ≤ _; simp; omega) plain_cap' (fun tv151 v151 h hv151 nv151 => ?_)
            refine ⟨⟨_, h.cell 5 rfl rfl, rfl⟩, ?_⟩
            refine ⟨?_, trivial⟩
            refine h.put 1 rfl rfl rfl (fun v152 h nv152 => ?_)
            exact ⟨_, _, tv151, _, rfl, ((((((h.dropAt 3).dropAt 2).front (n := 0) rfl).front (n := 1) rfl)).nil (some ⟨w2.drew.heap.size, 0, none⟩) 4).nil (some ⟨v138.heap.size, 0, none⟩) 2⟩
        · skip
          refine h.alloc (fun v153 h ev153 nv153 => ?_)
          refine ⟨⟨sc, h.cell 4 rfl rfl, rfl⟩, ⟨_, h.cell 4 rfl rfl, rfl⟩, ?_⟩
          refine ⟨?_, ?_, trivial⟩
          · skip
            refine SH.appendR (f := DCap.cells) (l := []) (us := d.Caps) ((h.dropAt 1).nil (some ⟨v137.heap.size, 0, none⟩) 5) (hd.ext h.ext).at_.caps.row hcl.symm (fun _ => rfl) rfl rfl (by decide) (by show (_ + _) * 40 ≤ _; simp; omega) plain_cap' (fun tv154 v154 h hv154 nv154 => ?_)
            refine ⟨⟨_, h.cell 4 rfl rfl, rfl⟩, ?_⟩
            refine ⟨?_, trivial⟩
            refine h.alloc (fun v155 h ev155 nv155 => ?_)
            refine ⟨⟨sc, h.cell 5 rfl rfl, rfl⟩, ⟨_, h.cell 5 rfl rfl, rfl⟩, ?_⟩
            refine ⟨?_, trivial⟩
            refine h.put 2 rfl rfl rfl (fun v156 h nv156 => ?_)
            exact ⟨_, _, tv154, _, rfl, ((((((h.dropAt 3).dropAt 0).front (n := 0) rfl).front (n := 1) rfl)).nil (some ⟨w2.drew.heap.size, 0, none⟩) 4).nil (some ⟨v154.heap.size, 0, none⟩) 2⟩
          · skip
            refine h.alloc (fun v157 h ev157 nv157 => ?_)
            refine ⟨⟨sc, h.cell 5 rfl rfl, rfl⟩, ⟨_, h.cell 5 rfl rfl, rfl⟩, ?_⟩
            refine ⟨?_, trivial⟩
            refine SH.appendR (f := DCap.cells) (l := []) (us := d.Caps) ((h.dropAt 2).nil (some ⟨v137.heap.size, 0, none⟩) 5) (hd.ext h.ext).at_.caps.row hcl.symm (fun _ => rfl) rfl rfl (by decide) (by show (_ + _) * 40 ≤ _; simp; omega) plain_cap' (fun tv158 v158 h hv158 nv158 => ?_)
            refine ⟨⟨_, h.cell 5 rfl rfl, rfl⟩, ?_⟩
            refine ⟨?_, trivial⟩
            refine h.put 2 rfl rfl rfl (fun v159 h nv159 => ?_)
            exact ⟨_, _, tv158, _, rfl, ((((((h.dropAt 3).dropAt 1).front (n := 0) rfl).front (n := 1) rfl)).nil (some ⟨w2.drew.heap.size, 0, none⟩) 4).nil (some ⟨v153.heap.size, 0, none⟩) 2⟩
      · skip
        refine h.alloc (fun v160 h ev160 nv160 => ?_)
        refine ⟨⟨sc, h.cell 3 rfl rfl, rfl⟩, ⟨_, h.cell 3 rfl rfl, rfl⟩, ?_⟩
        refine ⟨?_, ?_, trivial⟩
        · skip
          refine h.alloc (fun v161 h ev161 nv161 => ?_)
          refine ⟨⟨sc, h.cell 4 rfl rfl, rfl⟩, ⟨_, h.cell 4 rfl rfl, rfl⟩, ?_⟩
          refine ⟨?_, ?_, trivial⟩
          · skip
            refine SH.appendR (f := DCap.cells) (l := []) (us := d.Caps) ((h.dropAt 0).nil (some ⟨v160.heap.size, 0, none⟩) 5) (hd.ext h.ext).at_.caps.row hcl.symm (fun _ => rfl) rfl rfl (by decide) (by show (_ + _) * 40 ≤ _; simp; omega) plain_cap' (fun tv162 v162 h hv162 nv162 => ?_)
            refine ⟨⟨_, h.cell 4 rfl rfl, rfl⟩, ?_⟩
            refine ⟨?_, trivial⟩
            refine h.alloc (fun v163 h ev163 nv163 => ?_)
            refine ⟨⟨sc, h.cell 5 rfl rfl, rfl⟩, ⟨_, h.cell 5 rfl rfl, rfl⟩, ?_⟩
            refine ⟨?_, trivial⟩
            refine h.put 0 rfl rfl rfl (fun v164 h nv164 => ?_)
            exact ⟨_, _, tv162, _, rfl, ((((h.dropAt 3).dropAt 2)).nil (some ⟨w2.drew.heap.size, 0, none⟩) 4).nil (some ⟨v137.heap.size, 0, none⟩) 2⟩
          · skip
            refine h.alloc (fun v165 h ev165 nv165 => ?_)
            refine ⟨⟨sc, h.cell 5 rfl rfl, rfl⟩, ⟨_, h.cell 5 rfl rfl, rfl⟩, ?_⟩
            refine ⟨?_, trivial⟩
            refine SH.appendR (f := DCap.cells) (l := []) (us := d.Caps) ((h.dropAt 1).nil (some ⟨v160.heap.size, 0, none⟩) 5) (hd.ext h.ext).at_.caps.row hcl.symm (fun _ => rfl) rfl rfl (by decide) (by show (_ + _) * 40 ≤ _; simp; omega) plain_cap' (fun tv166 v166 h hv166 nv166 => ?_)
            refine ⟨⟨_, h.cell 5 rfl rfl, rfl⟩, ?_⟩
            refine ⟨?_, trivial⟩
            refine h.put 1 rfl rfl rfl (fun v167 h nv167 => ?_)
            exact ⟨_, _, tv166, _, rfl, ((((((h.dropAt 3).dropAt 2).front (n := 0) rfl).front (n := 1) rfl)).nil (some ⟨w2.drew.heap.size, 0, none⟩) 4).nil (some ⟨v137.heap.size, 0, none⟩) 2⟩
        · skip
          refine h.alloc (fun v168 h ev168 nv168 => ?_)
          refine ⟨⟨sc, h.cell 4 rfl rfl, rfl⟩, ⟨_, h.cell 4 rfl rfl, rfl⟩, ?_⟩
          refine ⟨?_, trivial⟩
          refine h.alloc (fun v169 h ev169 nv169 => ?_)
          refine ⟨⟨sc, h.cell 5 rfl rfl, rfl⟩, ⟨_, h.cell 5 rfl rfl, rfl⟩, ?_⟩
          refine ⟨?_, trivial⟩
          refine SH.appendR (f := DCap.cells) (l := []) (us := d.Caps) ((h.dropAt 0).nil (some ⟨v168.heap.size, 0, none⟩) 5) (hd.ext h.ext).at_.caps.row hcl.symm (fun _ => rfl) rfl rfl (by decide) (by show (_ + _) * 40 ≤ _; simp; omega) plain_cap' (fun tv170 v170 h hv170 nv170 => ?_)
          refine ⟨⟨_, h.cell 5 rfl rfl, rfl⟩, ?_⟩
          refine ⟨?_, trivial⟩
          refine h.put 1 rfl rfl rfl (fun v171 h nv171 => ?_)
          exact ⟨_, _, tv170, _, rfl, ((((((h.dropAt 3).dropAt 2).front (n := 0) rfl).front (n := 1) rfl)).nil (some ⟨w2.drew.heap.size, 0, none⟩) 4).nil (some ⟨v137.heap.size, 0, none⟩) 2⟩
      · skip
        refine h.alloc (fun v172 h ev172 nv172 => ?_)
        refine ⟨⟨sc, h.cell 3 rfl rfl, rfl⟩, ⟨_, h.cell 3 rfl rfl, rfl⟩, ?_⟩
        refine ⟨?_, ?_, trivial⟩
        · skip
          refine h.alloc (fun v173 h ev173 nv173 => ?_)
          refine ⟨⟨sc, h.cell 4 rfl rfl, rfl⟩, ⟨_, h.cell 4 rfl rfl, rfl⟩, ?_⟩
          refine ⟨?_, ?_, trivial⟩
          · skip
            refine SH.appendR (f := DCap.cells) (l := []) (us := d.Caps) ((h.dropAt 0).nil (some ⟨v172.heap.size, 0, none⟩) 5) (hd.ext h.ext).at_.caps.row hcl.symm (fun _ => rfl) rfl rfl (by decide) (by show (_ + _) * 40 ≤ _; simp; omega) plain_cap' (fun tv174 v174 h hv174 nv174 => ?_)
            refine ⟨⟨_, h.cell 4 rfl rfl, rfl⟩, ?_⟩
            refine ⟨?_, trivial⟩
            refine h.alloc (fun v175 h ev175 nv175 => ?_)
            refine ⟨⟨sc, h.cell 5 rfl rfl, rfl⟩, ⟨_, h.cell 5 rfl rfl, rfl⟩, ?_⟩
            refine ⟨?_, trivial⟩
            refine h.put 2 rfl rfl rfl (fun v176 h nv176 => ?_)
            exact ⟨_, _, tv174, _, rfl, ((((((h.dropAt 3).dropAt 0).front (n := 0) rfl).front (n := 1) rfl)).nil (some ⟨w2.drew.heap.size, 0, none⟩) 4).nil (some ⟨v174.heap.size, 0, none⟩) 2⟩
          · skip
            refine h.alloc (fun v177 h ev177 nv177 => ?_)
            refine ⟨⟨sc, h.cell 5 rfl rfl, rfl⟩, ⟨_, h.cell 5 rfl rfl, rfl⟩, ?_⟩
            refine ⟨?_, trivial⟩
            refine SH.appendR (f := DCap.cells) (l := []) (us := d.Caps) ((h.dropAt 1).nil (some ⟨v172.heap.size, 0, none⟩) 5) (hd.ext h.ext).at_.caps.row hcl.symm (fun _ => rfl) rfl rfl (by decide) (by show (_ + _) * 40 ≤ _; simp; omega) plain_cap' (fun tv178 v178 h hv178 nv178 => ?_)
            refine ⟨⟨_, h.cell 5 rfl rfl, rfl⟩, ?_⟩
            refine ⟨?_, trivial⟩
            refine h.put 2 rfl rfl rfl (fun v179 h nv179 => ?_)
            exact ⟨_, _, tv178, _, rfl, ((((((h.dropAt 3).dropAt 1).front (n := 0) rfl).front (n := 1) rfl)).nil (some ⟨w2.drew.heap.size, 0, none⟩) 4).nil (some ⟨v173.heap.size, 0, none⟩) 2⟩
        · skip
          refine h.alloc (fun v180 h ev180 nv180 => ?_)
          refine ⟨⟨sc, h.cell 4 rfl rfl, rfl⟩, ⟨_, h.cell 4 rfl rfl, rfl⟩, ?_⟩
          refine ⟨?_, trivial⟩
          refine h.alloc (fun v181 h ev181 nv181 => ?_)
          refine ⟨⟨sc, h.cell 5 rfl rfl, rfl⟩, ⟨_, h.cell 5 rfl rfl, rfl⟩, ?_⟩
          refine ⟨?_, trivial⟩
          refine SH.appendR (f := DCap.cells) (l := []) (us := d.Caps) ((h.dropAt 0).nil (some ⟨v180.heap.size, 0, none⟩) 5) (hd.ext h.ext).at_.caps.row hcl.symm (fun _ => rfl) rfl rfl (by decide) (by show (_ + _) * 40 ≤ _; simp; omega) plain_cap' (fun tv182 v182 h hv182 nv182 => ?_)
          refine ⟨⟨_, h.cell 5 rfl rfl, rfl⟩, ?_⟩
          refine ⟨?_, trivial⟩
          refine h.put 2 rfl rfl rfl (fun v183 h nv183 => ?_)
          exact ⟨_, _, tv182, _, rfl, ((((((h.dropAt 3).dropAt 1).front (n := 0) rfl).front (n := 1) rfl)).nil (some ⟨w2.drew.heap.size, 0, none⟩) 4).nil (some ⟨v172.heap.size, 0, none⟩) 2⟩
    · skip
      refine h.alloc (fun v184 h ev184 nv184 => ?_)
      refine ⟨⟨sc, h.cell 2 rfl rfl, rfl⟩, ⟨_, h.cell 2 rfl rfl, rfl⟩, ?_⟩
      refine ⟨?_, ?_, ?_, trivial⟩
      · skip
        refine h.alloc (fun v185 h ev185 nv185 => ?_)
        refine ⟨⟨sc, h.cell 3 rfl rfl, rfl⟩, ⟨_, h.cell 3 rfl rfl, rfl⟩, ?_⟩
        refine ⟨?_, ?_, ?_, trivial⟩
        · skip
          refine SH.appendR (f := DCap.cells) (l := []) (us := d.Caps) ((h.dropAt 0).nil (some ⟨v184.heap.size, 0, none⟩) 5) (hd.ext h.ext).at_.caps.row hcl.symm (fun _ => rfl) rfl rfl (by decide) (by show (_ + _) * 40 ≤ _; simp; omega) plain_cap' (fun tv186 v186 h hv186 nv186 => ?_)
          refine ⟨⟨_, h.cell 3 rfl rfl, rfl⟩, ?_⟩
          refine ⟨?_, ?_, trivial⟩
          · skip
            refine h.alloc (fun v187 h ev187 nv187 => ?_)
            refine ⟨⟨sc, h.cell 4 rfl rfl, rfl⟩, ⟨_, h.cell 4 rfl rfl, rfl⟩, ?_⟩
            refine ⟨?_, trivial⟩
            refine h.alloc (fun v188 h ev188 nv188 => ?_)
            refine ⟨⟨sc, h.cell 5 rfl rfl, rfl⟩, ⟨_, h.cell 5 rfl rfl, rfl⟩, ?_⟩
            refine ⟨?_, trivial⟩
            refine h.put 3 rfl rfl rfl (fun v189 h nv189 => ?_)
            exact ⟨_, _, tv186, _, rfl, ((((((h.dropAt 1).dropAt 0).front (n := 0) rfl).front (n := 1) rfl)).nil (some ⟨v187.heap.size, 0, none⟩) 4).nil (some ⟨v186.heap.size, 0, none⟩) 2⟩
          · skip
            refine h.alloc (fun v190 h ev190 nv190 => ?_)
            refine ⟨⟨sc, h.cell 4 rfl rfl, rfl⟩, ⟨_, h.cell 4 rfl rfl, rfl⟩, ?_⟩
            refine ⟨?_, trivial⟩
            refine h.alloc (fun v191 h ev191 nv191 => ?_)
            refine ⟨⟨sc, h.cell 5 rfl rfl, rfl⟩, ⟨_, h.cell 5 rfl rfl, rfl⟩, ?_⟩
            refine ⟨?_, trivial⟩
            refine h.put 3 rfl rfl rfl (fun v192 h nv192 => ?_)
            exact ⟨_, _, tv186, _, rfl, ((((((h.dropAt 1).dropAt 0).front (n := 0) rfl).front (n := 1) rfl)).nil (some ⟨v186.heap.size, 0, none⟩) 4).nil (some ⟨v190.heap.size, 0, none⟩) 2⟩
        · skip
          refine h.alloc (fun v193 h ev193 nv193 => ?_)
          refine ⟨⟨sc, h.cell 4 rfl rfl, rfl⟩, ⟨_, h.cell 4 rfl rfl, rfl⟩, ?_⟩
          refine ⟨?_, ?_, trivial⟩
          · skip
            refine SH.appendR (f := DCap.cells) (l := []) (us := d.Caps) ((h.dropAt 1).nil (some ⟨v184.heap.size, 0, none⟩) 5) (hd.ext h.ext).at_.caps.row hcl.symm (fun _ => rfl) rfl rfl (by decide) (by show (_ + _) * 40 ≤ _; simp; omega) plain_cap' (fun tv194 v194 h hv194 nv194 => ?_)
            refine ⟨⟨_, h.cell 4 rfl rfl, rfl⟩, ?_⟩
            refine ⟨?_, trivial⟩
            refine h.alloc (fun v195 h ev195 nv195 => ?_)
            refine ⟨⟨sc, h.cell 5 rfl rfl, rfl⟩, ⟨_, h.cell 5 rfl rfl, rfl⟩, ?_⟩
            refine ⟨?_, trivial⟩
            refine h.put 3 rfl rfl rfl (fun v196 h nv196 => ?_)
            exact ⟨_, _, tv194, _, rfl, ((((((h.dropAt 2).dropAt 0).front (n := 0) rfl).front (n := 1) rfl)).nil (some ⟨v194.heap.size, 0, none⟩) 4).nil (some ⟨v185.heap.size, 0, none⟩) 2⟩
          · skip
            refine h.alloc (fun v197 h ev197 nv197 => ?_)
            refine ⟨⟨sc, h.cell 5 rfl rfl, rfl⟩, ⟨_, h.cell 5 rfl rfl, rfl⟩, ?_⟩
            refine ⟨?_, trivial⟩
            refine SH.appendR (f := DCap.cells) (l := []) (us := d.Caps) ((h.dropAt 2).nil (some ⟨v184.heap.size, 0, none⟩) 5) (hd.ext h.ext).at_.caps.row hcl.symm (fun _ => rfl) rfl rfl (by decide) (by show (_ + _) * 40 ≤ _; simp; omega) plain_cap' (fun tv198 v198 h hv198 nv198 => ?_)
            refine ⟨⟨_, h.cell 5 rfl rfl, rfl⟩, ?_⟩
            refine ⟨?_, trivial⟩
            refine h.put 3 rfl rfl rfl (fun v199 h nv199 => ?_)
            exact ⟨_, _, tv198, _, rfl, ((((((h.dropAt 2).dropAt 1).front (n := 0) rfl).front (n := 1) rfl)).nil (some ⟨v193.heap.size, 0, none⟩) 4).nil (some ⟨v185.heap.size, 0, none⟩) 2⟩
        · skip
          refine h.alloc (fun v200 h ev200 nv200 => ?_)
          refine ⟨⟨sc, h.cell 4 rfl rfl, rfl⟩, ⟨_, h.cell 4 rfl rfl, rfl⟩, ?_⟩
          refine ⟨?_, ?_, trivial⟩
          · skip
            refine SH.appendR (f := DCap.cells) (l := []) (us := d.Caps) ((h.dropAt 1).nil (some ⟨v184.heap.size, 0, none⟩) 5) (hd.ext h.ext).at_.caps.row hcl.symm (fun _ => rfl) rfl rfl (by decide) (by show (_ + _) * 40 ≤ _; simp; omega) plain_cap' (fun tv201 v201 h hv201 nv201 => ?_)
            refine ⟨⟨_, h.cell 4 rfl rfl, rfl⟩, ?_⟩
            refine ⟨?_, trivial⟩
            refine h.alloc (fun v202 h ev202 nv202 => ?_)
            refine ⟨⟨sc, h.cell 5 rfl rfl, rfl⟩, ⟨_, h.cell 5 rfl rfl, rfl⟩, ?_⟩
            refine ⟨?_, trivial⟩
            refine h.put 3 rfl rfl rfl (fun v203 h nv203 => ?_)
            exact ⟨_, _, tv201, _, rfl, ((((((h.dropAt 2).dropAt 0).front (n := 0) rfl).front (n := 1) rfl)).nil (some ⟨v185.heap.size, 0, none⟩) 4).nil (some ⟨v201.heap.size, 0, none⟩) 2⟩
          · skip
            refine h.alloc (fun v204 h ev204 nv204 => ?_)
            refine ⟨⟨sc, h.cell 5 rfl rfl, rfl⟩, ⟨_, h.cell 5 rfl rfl, rfl⟩, ?_⟩
            refine ⟨?_, trivial⟩
            refine SH.appendR (f := DCap.cells) (l := []) (us := d.Caps) ((h.dropAt 2).nil (some ⟨v184.heap.size, 0, none⟩) 5) (hd.ext h.ext).at_.caps.row hcl.symm (fun _ => rfl) rfl rfl (by decide) (by show (_ + _) * 40 ≤ _; simp; omega) plain_cap' (fun tv205 v205 h hv205 nv205 => ?_)
            refine ⟨⟨_, h.cell 5 rfl rfl, rfl⟩, ?_⟩
            refine ⟨?_, trivial⟩
            refine h.put 3 rfl rfl rfl (fun v206 h nv206 => ?_)
            exact ⟨_, _, tv205, _, rfl, ((((((h.dropAt 2).dropAt 1).front (n := 0) rfl).front (n := 1) rfl)).nil (some ⟨v185.heap.size, 0, none⟩) 4).nil (some ⟨v200.heap.size, 0, none⟩) 2⟩
      · skip
        refine h.alloc (fun v207 h ev207 nv207 => ?_)
        refine ⟨⟨sc, h.cell 3 rfl rfl, rfl⟩, ⟨_, h.cell 3 rfl rfl, rfl⟩, ?_⟩
        refine ⟨?_, ?_, trivial⟩
        · skip
          refine h.alloc (fun v208 h ev208 nv208 => ?_)
          refine ⟨⟨sc, h.cell 4 rfl rfl, rfl⟩, ⟨_, h.cell 4 rfl rfl, rfl⟩, ?_⟩
          refine ⟨?_, ?_, trivial⟩
          · skip
            refine SH.appendR (f := DCap.cells) (l := []) (us := d.Caps) ((h.dropAt 0).nil (some ⟨v207.heap.size, 0, none⟩) 5) (hd.ext h.ext).at_.caps.row hcl.symm (fun _ => rfl) rfl rfl (by decide) (by show (_ + _) * 40 ≤ _; simp; omega) plain_cap' (fun tv209 v209 h hv209 nv209 => ?_)
            refine ⟨⟨_, h.cell 4 rfl rfl, rfl⟩, ?_⟩
            refine ⟨?_, trivial⟩
            refine h.alloc (fun v210 h ev210 nv210 => ?_)
            refine ⟨⟨sc, h.cell 5 rfl rfl, rfl⟩, ⟨_, h.cell 5 rfl rfl, rfl⟩, ?_⟩
            refine ⟨?_, trivial⟩
            refine h.put 3 rfl rfl rfl (fun v211 h nv211 => ?_)
            exact ⟨_, _, tv209, _, rfl, ((((((h.dropAt 2).dropAt 0).front (n := 0) rfl).front (n := 1) rfl)).nil (some ⟨v209.heap.size, 0, none⟩) 4).nil (some ⟨v184.heap.size, 0, none⟩) 2⟩
          · skip
            refine h.alloc (fun v212 h ev212 nv212 => ?_)
            refine ⟨⟨sc, h.cell 5 rfl rfl, rfl⟩, ⟨_, h.cell 5 rfl rfl, rfl⟩, ?_⟩
            refine ⟨?_, trivial⟩
            refine SH.appendR (f := DCap.cells) (l := []) (us := d.Caps) ((h.dropAt 1).nil (some ⟨v207.heap.size, 0, none⟩) 5) (hd.ext h.ext).at_.caps.row hcl.symm (fun _ => rfl) rfl rfl (by decide) (by show (_ + _) * 40 ≤ _; simp; omega) plain_cap' (fun tv213 v213 h hv213 nv213 => ?_)
            refine ⟨⟨_, h.cell 5 rfl rfl, rfl⟩, ?_⟩
            refine ⟨?_, trivial⟩
            refine h.put 3 rfl rfl rfl (fun v214 h nv214 => ?_)
            exact ⟨_, _, tv213, _, rfl, ((((((h.dropAt 2).dropAt 1).front (n := 0) rfl).front (n := 1) rfl)).nil (some ⟨v208.heap.size, 0, none⟩) 4).nil (some ⟨v184.heap.size, 0, none⟩) 2⟩
        · skip
          refine h.alloc (fun v215 h ev215 nv215 => ?_)
          refine ⟨⟨sc, h.cell 4 rfl rfl, rfl⟩, ⟨_, h.cell 4 rfl rfl, rfl⟩, ?_⟩
          refine ⟨?_, trivial⟩
          refine h.alloc (fun v216 h ev216 nv216 => ?_)
          refine ⟨⟨sc, h.cell 5 rfl rfl, rfl⟩, ⟨_, h.cell 5 rfl rfl, rfl⟩, ?_⟩
          refine ⟨?_, trivial⟩
          refine SH.appendR (f := DCap.cells) (l := []) (us := d.Caps) ((h.dropAt 0).nil (some ⟨v215.heap.size, 0, none⟩) 5) (hd.ext h.ext).at_.caps.row hcl.symm (fun _ => rfl) rfl rfl (by decide) (by show (_ + _) * 40 ≤ _; simp; omega) plain_cap' (fun tv217 v217 h hv217 nv217 => ?_)
          refine ⟨⟨_, h.cell 5 rfl rfl, rfl⟩, ?_⟩
          refine ⟨?_, trivial⟩
          refine h.put 3 rfl rfl rfl (fun v218 h nv218 => ?_)
          exact ⟨_, _, tv217, _, rfl, ((((((h.dropAt 2).dropAt 1).front (n := 0) rfl).front (n := 1) rfl)).nil (some ⟨v207.heap.size, 0, none⟩) 4).nil (some ⟨v184.heap.size, 0, none⟩) 2⟩
      · skip
        refine h.alloc (fun v219 h ev219 nv219 => ?_)
        refine ⟨⟨sc, h.cell 3 rfl rfl, rfl⟩, ⟨_, h.cell 3 rfl rfl, rfl⟩, ?_⟩
        refine ⟨?_, ?_, trivial⟩
        · skip
          refine h.alloc (fun v220 h ev220 nv220 => ?_)
          refine ⟨⟨sc, h.cell 4 rfl rfl, rfl⟩, ⟨_, h.cell 4 rfl rfl, rfl⟩, ?_⟩
          refine ⟨?_, ?_, trivial⟩
          · skip
            refine SH.appendR (f := DCap.cells) (l := []) (us := d.Caps) ((h.dropAt 0).nil (some ⟨v219.heap.size, 0, none⟩) 5) (hd.ext h.ext).at_.caps.row hcl.symm (fun _ => rfl) rfl rfl (by decide) (by show (_ + _) * 40 ≤ _; simp; omega) plain_cap' (fun tv221 v221 h hv221 nv221 => ?_)
            refine ⟨⟨_, h.cell 4 rfl rfl, rfl⟩, ?_⟩
            refine ⟨?_, trivial⟩
            refine h.alloc (fun v222 h ev222 nv222 => ?_)
            refine ⟨⟨sc, h.cell 5 rfl rfl, rfl⟩, ⟨_, h.cell 5 rfl rfl, rfl⟩, ?_⟩
            refine ⟨?_, trivial⟩
            refine h.put 3 rfl rfl rfl (fun v223 h nv223 => ?_)
            exact ⟨_, _, tv221, _, rfl, ((((((h.dropAt 2).dropAt 0).front (n := 0) rfl).front (n := 1) rfl)).nil (some ⟨v184.heap.size, 0, none⟩) 4).nil (some ⟨v221.heap.size, 0, none⟩) 2⟩
          · skip
            refine h.alloc (fun v224 h ev224 nv224 => ?_)
            refine ⟨⟨sc, h.cell 5 rfl rfl, rfl⟩, ⟨_, h.cell 5 rfl rfl, rfl⟩, ?_⟩
            refine ⟨?_, trivial⟩
            refine SH.appendR (f := DCap.cells) (l := []) (us := d.Caps) ((h.dropAt 1).nil (some ⟨v219.heap.size, 0, none⟩) 5) (hd.ext h.ext).at_.caps.row hcl.symm (fun _ => rfl) rfl rfl (by decide) (by show (_ + _) * 40 ≤ _; simp; omega) plain_cap' (fun tv225 v225 h hv225 nv225 => ?_)
            refine ⟨⟨_, h.cell 5 rfl rfl, rfl⟩, ?_⟩
            refine ⟨?_, trivial⟩
            refine h.put 3 rfl rfl rfl (fun v226 h nv226 => ?_)
            exact ⟨_, _, tv225, _, rfl, ((((((h.dropAt 2).dropAt 1).front (n := 0) rfl).front (n := 1) rfl)).nil (some ⟨v184.heap.size, 0, none⟩) 4).nil (some ⟨v220.heap.size, 0, none⟩) 2⟩
        · skip
          refine h.alloc (fun v227 h ev227 nv227 => ?_)
          refine ⟨⟨sc, h.cell 4 rfl rfl, rfl⟩, ⟨_, h.cell 4 rfl rfl, rfl⟩, ?_⟩
          refine ⟨?_, trivial⟩
          refine h.alloc (fun v228 h ev228 nv228 => ?_)
          refine ⟨⟨sc, h.cell 5 rfl rfl, rfl⟩, ⟨_, h.cell 5 rfl rfl, rfl⟩, ?_⟩
          refine ⟨?_, trivial⟩
          refine SH.appendR (f := DCap.cells) (l := []) (us := d.Caps) ((h.dropAt 0).nil (some ⟨v227.heap.size, 0, none⟩) 5) (hd.ext h.ext).at_.caps.row hcl.symm (fun _ => rfl) rfl rfl (by decide) (by show (_ + _) * 40 ≤ _; simp; omega) plain_cap' (fun tv229 v229 h hv229 nv229 => ?_)
          refine ⟨⟨_, h.cell 5 rfl rfl, rfl⟩, ?_⟩
          refine ⟨?_, trivial⟩
          refine h.put 3 rfl rfl rfl (fun v230 h nv230 => ?_)
          exact ⟨_, _, tv229, _, rfl, ((((((h.dropAt 2).dropAt 1).front (n := 0) rfl).front (n := 1) rfl)).nil (some ⟨v184.heap.size, 0, none⟩) 4).nil (some ⟨v219.heap.size, 0, none⟩) 2⟩
  clear h
  rintro (p3 : Option Addr) w5 ⟨a, tp0, tc, tq0, rfl, h⟩
  have h := (((((((h.front (n := 1) rfl).front (n := 5) rfl).front (n := 5) rfl).front (n := 4) rfl).front (n := 5) rfl).front (n := 5) rfl)).p1
  have h := SH.bagNil portA h
  have h : SH w w5 (rP tp0 [] :: bP [] :: rC tc d.Caps :: BI a d.Next tp0 tc tq0 :: BI b1 0 N0 N0 N0 :: BI b d.Next sp sc sq :: rQ tq0 [] :: []) := (((h.front (n := 1) rfl).front (n := 1) rfl).front (n := 2) rfl)
  refine LoopW.m1 (fun (i : Int) w' => ∃ (k : Nat) (ps : List RPort) (tp : Sl), i = k ∧ k ≤ d.Ports.length ∧ ps.map RPort.abs = d.Ports.take k ∧ SH w w' (rP tp ps :: bP ps :: rC tc d.Caps :: BI a d.Next tp tc tq0 :: BI b1 0 N0 N0 N0 :: BI b d.Next sp sc sq :: rQ tq0 [] :: [])) (fun (i : Int) _ => (d.Ports.length - i).toNat) ⟨0, [], tp0, rfl, by omega, rfl, h⟩ ?_
  clear h
  rintro (i : Int) w8 ⟨k, ps, tp, rfl, hk, hps, h⟩ J hJ
  have hpsl : ps.length = k := by have := congrArg List.length hps; rw [List.length_map, List.length_take] at this; omega
  refine ⟨sp, h.cell 5 rfl rfl, BIf.dec (fun hlt => ?_) (fun hge => ?_)⟩
  · have hget : d.Ports[k]? = some d.Ports[k] := List.getElem?_eq_getElem (by omega)
    have hmsgs := hd.wf.msgs _ (List.mem_of_getElem? hget)
    have hqf := hd.wf.queues _ (List.mem_of_getElem? hget)
    generalize d.Ports[k] = x at *
    obtain ⟨q, t, hq, c0, c1, hm⟩ := hd.at_.ports.get k x hget
    have hml := hm.len
    simp only [Int.toNat_natCast]
    rw [w64 (n := (k : Int) + 1) (by omega) (by omega)]
    refine ⟨sp, h.cell 5 rfl rfl, by omega, by omega, q, hq, _, h.ext.cell c0, ?_⟩
    refine h.alloc (fun w13 h e13 n13 => ?_)
    refine h.alloc (fun w14 h e14 n14 => ?_)
    refine h.put 0 rfl rfl rfl (fun w15 h n15 => ?_)
    have h := (SH.bagNil msgA (h.dropAt 1)).nil (some ⟨w8.heap.size, 0, none⟩) 3
    have h : SH w w15 (rM ⟨some ⟨w8.heap.size, 0, none⟩, 0, 0⟩ [] :: bM [] :: aB w13.heap.size (([.int .i64 x.Id, .slice (⟨some ⟨w8.heap.size, 0, none⟩, 0, 0⟩ : Sl).a (⟨some ⟨w8.heap.size, 0, none⟩, 0, 0⟩ : Sl).len (⟨some ⟨w8.heap.size, 0, none⟩, 0, 0⟩ : Sl).cap] : List Value).map Ce.v) :: rP tp ps :: bP ps :: rC tc d.Caps :: BI a d.Next tp tc tq0 :: BI b1 0 N0 N0 N0 :: BI b d.Next sp sc sq :: rQ tq0 [] :: []) := h
    generalize w13.heap.size = pb at *
    refine LoopW.m1 (fun (j : Int) w' => ∃ (m : Nat) (ms : List RMsg) (tm : Sl), j = m ∧ m ≤ x.Queue.length ∧ ms.map RMsg.abs = x.Queue.take m ∧ SH w w' (rM tm ms :: bM ms :: aB pb (([.int .i64 x.Id, .slice tm.a tm.len tm.cap] : List Value).map Ce.v) :: rP tp ps :: bP ps :: rC tc d.Caps :: BI a d.Next tp tc tq0 :: BI b1 0 N0 N0 N0 :: BI b d.Next sp sc sq :: rQ tq0 [] :: [])) (fun (j : Int) _ => (x.Queue.length - j).toNat) ⟨0, [], _, rfl, by omega, rfl, h⟩ ?_
    clear h
    rintro (j : Int) w18 ⟨m, ms, tm, rfl, hm1, hms, h⟩ J2 hJ2
    have hmsl : ms.length = m := by have := congrArg List.length hms; rw [List.length_map, List.length_take] at this; omega
    refine ⟨sp, h.cell 8 rfl rfl, by omega, by omega, q, hq, t, h.ext.cell c1, BIf.dec (fun hlt2 => ?_) (fun hge2 => ?_)⟩
    · have hget2 : x.Queue[m]? = some x.Queue[m] := List.getElem?_eq_getElem (by omega)
      generalize x.Queue[m] = y at *
      have hby0 := hmsgs y (List.mem_of_getElem? hget2)
      have hbl := hby0.few
      obtain ⟨q2, td, hq2, d0, d1, d2, hby⟩ := hm.get m y hget2
      have hyl := hby.len
      simp only [Int.toNat_natCast]
      rw [w64 (n := (m : Int) + 1) (by omega) (by omega)]
      refine ⟨sp, h.cell 8 rfl rfl, by omega, by omega, q, hq, t, h.ext.cell c1, by omega, by omega, q2, hq2, _, h.ext.cell d0, td, h.ext.cell d1, _, h.ext.cell d2, ?_⟩
      refine h.alloc (fun w29 h e29 n29 => ?_)
      refine h.put 0 rfl rfl rfl (fun w30 h n30 => ?_)
      refine h.alloc (fun w31 h e31 n31 => ?_)
      refine ⟨td, h.cell 1 rfl rfl, ?_⟩
      refine SH.appendN (k := .u8) (m := []) (us := y.Data) (h.drop.nil (some ⟨w30.heap.size, 0, none⟩) 1) (hby.ext h.ext).row rfl rfl (by decide) (by show (_ + _) * 1 ≤ _; simp; omega) (fun t33 w34 h ht33 _ => ?_)
      refine h.setV 1 rfl rfl (fun w35 h n35 => ?_)
      refine ⟨tm, h.cell 4 rfl rfl, _, h.cell 1 rfl rfl, t33, h.cell 1 rfl rfl, _, h.cell 1 rfl rfl, ?_⟩
      have h := (((h.dropAt 1).front (n := 0) rfl).front (n := 1) rfl)
      refine LetW_iff.2 (SH.appendR1 (f := RMsg.cells) (x := ⟨y.From, t33, y.Cap, y.Data⟩) h rfl rfl rfl (by decide) (by show (_ + _) * 40 ≤ _; omega) (plain_msg _) (fun tm2 w42 h htm2 _ => ?_))
      refine h.setV 3 rfl rfl (fun w43 h n43 => ?_)
      have h := SH.bagSnoc (f := msgA) (x := (⟨y.From, t33, y.Cap, y.Data⟩ : RMsg)) (((h.front (n := 0) rfl).front (n := 2) rfl).front (n := 2) rfl)
      refine hJ2 _ _ ⟨m + 1, ms ++ [⟨y.From, t33, y.Cap, y.Data⟩], tm2, by omega, by omega, ?_, h.p1⟩ (by omega)
      rw [List.map_append, hms, take_snoc' hget2]
      rfl
    · have hme : m = x.Queue.length := by omega
      rw [hme, List.take_length] at hms
      refine ⟨tp, h.cellP 6 rfl rfl, _, h.cell 2 rfl rfl, tm, h.cell 2 rfl rfl, ?_⟩
      have h : SH w w18 (portA ⟨x.Id, tm, ms⟩ :: _) := SH.allIn (As := [rM tm ms, bM ms]) h
      have h := ((((h.dropAt 1).front (n := 0) rfl).front (n := 1) rfl))
      refine LetW_iff.2 (SH.appendR1 (f := RPort.cells) (x := ⟨x.Id, tm, ms⟩) h rfl rfl rfl (by decide) (by show (_ + _) * 32 ≤ _; omega) (plain_port _) (fun tp2 w50 h htp2 _ => ?_))
      refine h.setVP (b := a) 4 rfl rfl (fun w52 h n52 => ?_)
      have h := SH.bagSnoc (f := portA) (x := (⟨x.Id, tm, ms⟩ : RPort)) (((h.front (n := 0) rfl).front (n := 2) rfl).front (n := 2) rfl)
      refine hJ _ _ ⟨k + 1, ps ++ [⟨x.Id, tm, ms⟩], tp2, by omega, by omega, ?_, h.p1⟩ (by omega)
      rw [List.map_append, hps, take_snoc' hget]
      show _ ++ [(⟨x.Id, ms.map RMsg.abs⟩ : DPort)] = _
      rw [hms]
  · have hke : k = d.Ports.length := by omega
    rw [hke, List.take_length] at hps
    have h := SH.bagNil pipeA (((((((h.front (n := 5) rfl).front (n := 5) rfl).front (n := 5) rfl).front (n := 5) rfl).front (n := 5) rfl).front (n := 5) rfl).front (n := 6) rfl)
    have h : SH w w8 (rQ tq0 [] :: bQ [] :: rP tp ps :: bP ps :: rC tc d.Caps :: BI a d.Next tp tc tq0 :: BI b1 0 N0 N0 N0 :: BI b d.Next sp sc sq :: []) := h.p1
    refine LoopW.m1 (fun (i : Int) w' => ∃ (k : Nat) (qs : List RPipe) (tq : Sl), i = k ∧ k ≤ d.Pipes.length ∧ qs.map RPipe.abs = d.Pipes.take k ∧ SH w w' (rQ tq qs :: bQ qs :: rP tp ps :: bP ps :: rC tc d.Caps :: BI a d.Next tp tc tq :: BI b1 0 N0 N0 N0 :: BI b d.Next sp sc sq :: [])) (fun (i : Int) _ => (d.Pipes.length - i).toNat) ⟨0, [], tq0, rfl, by omega, rfl, h⟩ ?_
    clear h hJ
    rintro (i : Int) w55 ⟨m, qs, tq, rfl, hm, hqs, h⟩ J hJ
    have hqsl : qs.length = m := by have := congrArg List.length hqs; rw [List.length_map, List.length_take] at this; omega
    refine ⟨sq, h.cell 7 rfl rfl, BIf.dec (fun hlt => ?_) (fun hge => ?_)⟩
    · have hget : d.Pipes[m]? = some d.Pipes[m] := List.getElem?_eq_getElem (by omega)
      have hby0 := hd.wf.pipes _ (List.mem_of_getElem? hget)
      have hbl := hby0.few
      generalize d.Pipes[m] = x at *
      obtain ⟨q, t, hq, c0, c1, c2, c3, hby⟩ := hd.at_.pipes.get m x hget
      have hyl := hby.len
      simp only [Int.toNat_natCast]
      rw [w64 (n := (m : Int) + 1) (by omega) (by omega)]
      refine ⟨sq, h.cell 7 rfl rfl, by omega, by omega, q, hq, _, h.ext.cell c0, _, h.ext.cell c1, _, h.ext.cell c2, t, h.ext.cell c3, ?_⟩
      refine h.alloc (fun w63 h e63 n63 => ?_)
      refine h.put 0 rfl rfl rfl (fun wb h nb => ?_)
      refine h.alloc (fun w65 h e65 n65 => ?_)
      refine ⟨t, h.cell 1 rfl rfl, ?_⟩
      refine SH.appendN (k := .u8) (m := []) (us := x.Data) (h.drop.nil (some ⟨wb.heap.size, 0, none⟩) 1) (hby.ext h.ext).row rfl rfl (by decide) (by show (_ + _) * 1 ≤ _; simp; omega) (fun t67 w68 h ht67 _ => ?_)
      refine h.setV 1 rfl rfl (fun w69 h n69 => ?_)
      refine ⟨tq, h.cellP 7 rfl rfl, _, h.cell 1 rfl rfl, _, h.cell 1 rfl rfl, _, h.cell 1 rfl rfl, t67, h.cell 1 rfl rfl, ?_⟩
      have h := (((h.dropAt 1).front (n := 0) rfl).front (n := 1) rfl)
      refine LetW_iff.2 (SH.appendR1 (f := RPipe.cells) (x := ⟨x.Id, x.Readers, x.Writers, t67, x.Data⟩) h rfl rfl rfl (by decide) (by show (_ + _) * 48 ≤ _; omega) (plain_pipe _) (fun tq2 w78 h htq2 _ => ?_))
      refine h.setVP (b := a) 6 rfl rfl (fun w80 h n80 => ?_)
      have h := SH.bagSnoc (f := pipeA) (x := (⟨x.Id, x.Readers, x.Writers, t67, x.Data⟩ : RPipe)) (((h.front (n := 0) rfl).front (n := 2) rfl).front (n := 2) rfl)
      refine hJ _ _ ⟨m + 1, qs ++ [⟨x.Id, x.Readers, x.Writers, t67, x.Data⟩], tq2, by omega, by omega, ?_, h.p1⟩ (by omega)
      rw [List.map_append, hqs, take_snoc' hget]
      rfl
    · have hme : m = d.Pipes.length := by omega
      rw [hme, List.take_length] at hqs
      refine ⟨_, h.cellP 5 rfl rfl, tp, h.cellP 5 rfl rfl, tc, h.cellP 5 rfl rfl, tq, h.cellP 5 rfl rfl, ?_⟩
      refine h.put 6 rfl rfl rfl (fun w86 h n86 => ?_)
      refine ⟨_, h.cell 6 rfl rfl, tp, h.cell 6 rfl rfl, tc, h.cell 6 rfl rfl, tq, h.cell 6 rfl rfl, ?_⟩
      refine ⟨tp, tc, tq, ⟨d.Next, ps, d.Caps, qs⟩, rfl, ?_, ((((((((h.dropAt 7).dropAt 6).dropAt 5).front (n := 1) rfl).front (n := 1) rfl).front (n := 4) rfl).front (n := 4) rfl).front (n := 4) rfl)⟩
      unfold RIpc.abs
      rw [hps, hqs]
set_option maxHeartbeats 2000000 in
theorem s37 {w : World} {sp sc sq td : Sl} {d : DIpc} {o : DIpcOp} (hd : ILent w sp sc sq d) (hb : ByAt w td o.Data) (hbs : o.Data.length ≤ 1048576) :
    CallW Try.prog 37 #[iV d.Next sp sc sq, .agg ⟨opV o td⟩] w (KSR w (stepA d o)) := by
  refine go37 (a0_0 := d.Next) (a0_1 := sp) (a0_2 := sc) (a0_3 := sq) (a1_0 := o.Kind) (a1_1 := o.Holder) (a1_2 := o.Id) (a1_3 := o.To) (a1_4 := o.Rights) (a1_5 := o.Cap) (a1_6 := o.N) (a1_7 := td) ?_
  unfold W37
  have h := SH.start w
  refine h.alloc (fun w1 h e1 n1 => ?_)
  refine h.alloc (fun w2 h e2 n2 => ?_)
  refine h.alloc (fun w3 h e3 n3 => ?_)
  refine h.alloc (fun w4 h e4 n4 => ?_)
  have h : SH w w4 [BR w3.heap.size 0 0 N0 0, BI w2.heap.size 0 N0 N0 N0, BO w1.heap.size o td, BI w.heap.size d.Next sp sc sq] := h
  refine ⟨_, h.cell 3 rfl rfl, sp, h.cell 3 rfl rfl, sc, h.cell 3 rfl rfl, sq, h.cell 3 rfl rfl, (c10 (hd.ext h.ext).at_ hd.wf.pw.pipes).mono ?_⟩
  rintro _ w10 ⟨b11, rfl, hb11, e10⟩
  have h := h.to e10
  refine ⟨b11, rfl, ?_⟩
  by_cases hok : IOk d
  rotate_left
  · have hbf : b11 = false := by cases b11 with | false => rfl | true => exact absurd (hb11.1 rfl) hok
    have hres : stepA d o = (⟨0, [], [], []⟩, ⟨0, 0, [], 0⟩) := if_neg hok
    rw [hres]
    refine BIf.t (by rw [hbf]; rfl) ?_
    refine h.put 1 rfl rfl rfl (fun w12 h n12 => ?_)
    refine h.put 0 rfl rfl rfl (fun w13 h n13 => ?_)
    refine ⟨_, h.cell 1 rfl rfl, N0, h.cell 1 rfl rfl, N0, h.cell 1 rfl rfl, N0, h.cell 1 rfl rfl, _, h.cell 0 rfl rfl, _, h.cell 0 rfl rfl, N0, h.cell 0 rfl rfl, _, h.cell 0 rfl rfl, ?_⟩
    have h := (emptyS h.drop.drop.drop.drop).nil none 1
    exact ⟨N0, N0, N0, N0, ⟨0, [], [], []⟩, rfl, rfl, h⟩
  have hbt : b11 = true := hb11.2 hok
  have hres : stepA d o = stepI d o := if_pos hok
  rw [hres]
  refine BIf.f (by rw [hbt]; rfl) ?_
  have h := h.drew
  refine ⟨_, h.cell 3 rfl rfl, sp, h.cell 3 rfl rfl, sc, h.cell 3 rfl rfl, sq, h.cell 3 rfl rfl, _, h.cell 2 rfl rfl, _, h.cell 2 rfl rfl, _, h.cell 2 rfl rfl, _, h.cell 2 rfl rfl, _, h.cell 2 rfl rfl, _, h.cell 2 rfl rfl, _, h.cell 2 rfl rfl, td, h.cell 2 rfl rfl, (c76 (hd.ext h.ext)).mono ?_⟩
  rintro _ w35 ⟨tp, tc, tq, r, rfl, hr, g⟩
  have h := h.seq g
  have h : SH w w35 (rP tp r.Ports :: bP r.Ports :: rC tc r.Caps :: rQ tq r.Pipes :: bQ r.Pipes :: [BR w3.heap.size 0 0 N0 0, BI w2.heap.size 0 N0 N0 N0, BO w1.heap.size o td, BI w.heap.size d.Next sp sc sq]) := h
  refine ⟨_, tp, tc, tq, rfl, ⟨_, h.cell 7 rfl rfl, _, h.cell 7 rfl rfl, _, h.cell 7 rfl rfl, _, h.cell 7 rfl rfl, _, h.cell 7 rfl rfl, _, h.cell 7 rfl rfl, _, h.cell 7 rfl rfl, td, h.cell 7 rfl rfl, rfl⟩, ?_⟩
  have hs := s67 (F := [BR w3.heap.size 0 0 N0 0, BI w2.heap.size 0 N0 N0 N0, BO w1.heap.size o td, BI w.heap.size d.Next sp sc sq]) (r := r) (o := o) h (by rw [hr]; exact hd.wf) (by rw [hr]; exact hok) (LentB.of hb) hbs
  rw [hr] at hs
  exact retS (F := []) (X := [BO w1.heap.size o td, BI w.heap.size d.Next sp sc sq]) hs
end Go.Proofs.Ytbimoajgofcmbaa

/- Ports, capabilities, pipes: IpcStep as the law asks. Conditions: none. -/
set_option linter.unusedVariables false
set_option linter.unusedSimpArgs false
namespace Go.Proofs.Ytbimoajgofcmbaa
open Go Go.Den
/-! ## Two results, apart -/
/-! ## Trees -/
/-! ## A state that can be, by its members -/
/-! ## The arguments -/
/-! ## Both sides -/
end Go.Proofs.Ytbimoajgofcmbaa

/- Capabilities that go (plain): what a revoking leaves. Conditions: none. -/
set_option linter.unusedVariables false
set_option linter.unusedSimpArgs false
namespace Go.Proofs.Ytbimoajgofcmbaa
open Go Go.Den
def ErrQ (d : DIpc) (r : IRes) : Prop := r.2.Code ≠ 0 → r.1 = d
theorem eq_same {d : DIpc} {r : DIpcRes} : ErrQ d (d, r) := fun _ => rfl
theorem eq_ok {d e : DIpc} {r : DIpcRes} (h : r.Code = 0) : ErrQ d (e, r) := fun hn => absurd h hn
theorem eq_give {d : DIpc} {o : DIpcOp} {c : DCap} : ErrQ d (giveI d o c) := by
  unfold giveI
  split
  · exact eq_same
  split
  · exact eq_same
  split
  · exact eq_same
  · exact eq_ok rfl
theorem eq_push {d : DIpc} {o : DIpcOp} {c : DCap} : ErrQ d (pushI d o c) := by
  unfold pushI
  split
  · exact eq_same
  split
  · exact eq_same
  split
  · exact eq_same
  · exact eq_ok rfl
theorem eq_send {d : DIpc} {o : DIpcOp} {c : DCap} : ErrQ d (sendI d o c) := by
  unfold sendI
  split
  · exact eq_same
  split
  · exact eq_same
  split
  · split
    · exact eq_same
    split
    · exact eq_same
    split
    · exact eq_same
    · exact eq_push
  · exact eq_push
theorem eq_recv {d : DIpc} {o : DIpcOp} {c : DCap} : ErrQ d (recvI d o c) := by
  unfold recvI
  split
  · exact eq_same
  split
  · exact eq_same
  split
  · exact eq_same
  split
  · exact eq_ok rfl
  split
  · exact eq_ok rfl
  · exact eq_ok rfl
theorem eq_cap {d : DIpc} {o : DIpcOp} {c : DCap} : ErrQ d (capI d o c) := by
  unfold capI
  split
  · exact eq_give
  split
  · exact eq_ok rfl
  split
  · exact eq_ok rfl
  split
  · exact eq_send
  · exact eq_recv
theorem eq_pipe {d : DIpc} {o : DIpcOp} {k : Nat} {p : DPipe} : ErrQ d (pipeI d o k p) := by
  unfold pipeI
  split
  · unfold endsI
    split
    · exact eq_same
    split
    · exact eq_ok rfl
    · exact eq_ok rfl
  split
  · unfold writeI
    split
    · exact eq_same
    split
    · exact eq_same
    · exact eq_ok rfl
  · unfold readI
    split
    · exact eq_same
    split
    · exact eq_same
    · exact eq_ok rfl
theorem eq_step {d : DIpc} {o : DIpcOp} : ErrQ d (stepI d o) := by
  unfold stepI
  split
  · exact eq_same
  split
  · unfold newPort
    split
    · exact eq_same
    · exact eq_ok rfl
  split
  · exact eq_ok rfl
  split
  · unfold newPipe
    split
    · exact eq_same
    · exact eq_ok rfl
  split
  · split
    · exact eq_same
    · exact eq_pipe
  split
  · exact eq_same
  split
  · exact eq_same
  · exact eq_cap
theorem rev_step {d : DIpc} {o : DIpcOp} (hk : o.Kind = 3) (hc : (stepI d o).2.Code = 0) : stepI d o = revF d o.Id := by
  unfold stepI at hc ⊢
  split at hc
  · exact absurd (show (1 : Int) = 0 from hc) (by decide)
  rename_i hb
  rw [if_neg hb]
  rw [if_neg (by omega), if_neg (by omega), if_neg (by omega), if_neg (by omega)] at hc ⊢
  split at hc
  · exact absurd (show (5 : Int) = 0 from hc) (by decide)
  rename_i c hcc
  split at hc
  · exact absurd (show (5 : Int) = 0 from hc) (by decide)
  rename_i hh
  rw [if_neg hh]
  unfold capI
  rw [if_neg (by omega), if_pos hk]
theorem filter_not_len {α : Type} (p : α → Bool) : ∀ l : List α, (l.filter p).length + (l.filter (fun x => !p x)).length = l.length
  | [] => rfl
  | x :: l => by
    have ih := filter_not_len p l
    cases h : p x
    · rw [List.filter_cons_of_neg (by simp [h]), List.filter_cons_of_pos (by simp [h])]; simp only [List.length_cons]; omega
    · rw [List.filter_cons_of_pos h, List.filter_cons_of_neg (by simp [h])]; simp only [List.length_cons]; omega
theorem filter_at {α : Type} {p : α → Bool} {l : List α} {j : Nat} {x : α} (hx : l[j]? = some x) (hp : p x = true) : (l.filter p)[((l.take j).filter p).length]? = some x := by
  obtain ⟨hj, e⟩ := List.getElem?_eq_some_iff.1 hx
  have h1 : l.filter p = (l.take j).filter p ++ x :: (l.drop (j + 1)).filter p := by
    conv => lhs; rw [← List.take_append_drop j l, List.filter_append, List.drop_eq_getElem_cons hj, e, List.filter_cons_of_pos hp]
  rw [h1, List.getElem?_append_right (Nat.le_refl _), Nat.sub_self]
  rfl
open Classical in
theorem belowC_len {d : DIpc} {top : Int} (hi : IOk d) : ((belowF d top).length : Int) = (revF d top).2.N ∧ (belowF d top).length ≤ d.Caps.length := by
  have h1 : belowF d top = (d.Caps.filter (fun c => decide (Und d top c.Id))).map DCap.Id := by unfold belowF; rw [if_pos hi]
  have h2 := filter_not_len (fun c : DCap => decide (Und d top c.Id)) d.Caps
  rw [h1, List.length_map]
  refine ⟨?_, by omega⟩
  show _ = (d.Caps.length : Int) - ((revC d top).length : Int)
  unfold revC
  have h3 : ∀ a b c : Nat, a + b = c → (a : Int) = (c : Int) - (b : Int) := fun a b c h => by omega
  exact h3 _ _ _ h2
theorem rev_len {d : DIpc} {top : Int} (hi : IOk d) : ((revC d top).length : Int) = (d.Caps.length : Int) - ((belowF d top).length : Int) := by
  have h := (belowC_len (top := top) hi).1
  have h2 : (revF d top).2.N = (d.Caps.length : Int) - ((revC d top).length : Int) := rfl
  omega
theorem und_rev {d t : DIpc} {top x : Int} (ht : t.Caps = revC d top) (hu : Und t top x) : Und d top x ∧ ∃ c, c ∈ t.Caps ∧ c.Id = x := by
  induction hu with
  | base hk h0 hp =>
    have hm := List.mem_of_getElem? hk
    refine ⟨?_, _, hm, rfl⟩
    have hm2 := hm
    rw [ht] at hm2
    obtain ⟨i, hi⟩ := List.getElem?_of_mem (List.mem_filter.1 hm2).1
    exact .base hi h0 hp
  | step hk h0 _ ih =>
    have hm := List.mem_of_getElem? hk
    refine ⟨?_, _, hm, rfl⟩
    have hm2 := hm
    rw [ht] at hm2
    obtain ⟨i, hi⟩ := List.getElem?_of_mem (List.mem_filter.1 hm2).1
    exact .step hi h0 ih.1
open Classical in
theorem below_rev {d t : DIpc} {top : Int} (ht : t.Caps = revC d top) : belowF t top = [] := by
  unfold belowF
  split
  · rw [List.filter_eq_nil_iff.2 (fun c hc hd => ?_)]
    · rfl
    · have hu := (und_rev ht (of_decide_eq_true hd)).1
      rw [ht] at hc
      have := (List.mem_filter.1 hc).2
      rw [decide_eq_true hu] at this
      cases this
  · rfl
open Classical in
theorem mem_below {d : DIpc} {top : Int} {c : DCap} (hi : IOk d) (hc : c ∈ d.Caps) : c.Id ∈ belowF d top ↔ Und d top c.Id := by
  unfold belowF
  rw [if_pos hi]
  constructor
  · intro h
    obtain ⟨y, hy, he⟩ := List.mem_map.1 h
    have := of_decide_eq_true (List.mem_filter.1 hy).2
    rw [he] at this
    exact this
  · intro h
    exact List.mem_map.2 ⟨c, List.mem_filter.2 ⟨hc, decide_eq_true h⟩, rfl⟩
open Classical in
theorem keep_at {d : DIpc} {top : Int} {j : Nat} {c : DCap} (hc : d.Caps[j]? = some c) (hn : ¬ Und d top c.Id) : (revC d top)[((d.Caps.take j).filter (fun c => !decide (Und d top c.Id))).length]? = some c :=
  filter_at hc (by rw [decide_eq_false hn]; rfl)
end Go.Proofs.Ytbimoajgofcmbaa

/- Draws: the cursor (ports). Conditions: none. -/
set_option linter.unusedVariables false
set_option linter.unusedSimpArgs false
namespace Go.Proofs.Ytbimoajgofcmbaa
open Go Go.Den
theorem s102 {w0 w : World} {As : List Asr} (h : SH w0 w As) (n : Nat) {cb : Nat} {s : Sl} (hA : As[n]? = some (aC cb s)) (hb : CurB w0 s) :
    CallW Try.prog 102 #[.pointer (some ⟨cb, 0, none⟩)] w (KD w0 As (fun x => 0 ≤ x ∧ x ≤ 255)) := by
  refine go102 ?_
  unfold W102
  have hn := (List.getElem?_eq_some_iff.1 hA).1
  obtain ⟨i, x, hi, h2⟩ := h.openC n hA
  have g : ∀ {A : Asr}, (As.set n A)[n]? = some A := List.getElem?_set_self hn
  refine ⟨_, rfl, _, h2.cellP n g rfl, _, rfl, ?_⟩
  refine h2.setVP n g rfl (fun w4 h4 _ => ?_)
  rw [List.set_set] at h4
  have h5 := h4.drew
  refine ⟨_, rfl, _, h5.cellP n g rfl, by decide, _, rfl, _, h5.cellP n g rfl, by decide, _, rfl, _, h5.drew.cellP n g rfl, _, rfl, s, h5.drew.cellP n g rfl, ?_⟩
  refine BIf.dec (fun hlt => ?_) (fun hge => ?_)
  · have h6 := h5.drew.drew
    obtain ⟨q, m, hq, hc, hm⟩ := hb.at_ i.toNat (by omega)
    have hfew := hb.few
    refine ⟨_, rfl, s, h6.cellP n g rfl, _, rfl, _, h6.cellP n g rfl, hi.1, hlt, q, hq, m, h6.ext.cell hc, _, rfl, _, h6.cellP n g rfl, _, rfl, ?_⟩
    refine h6.setVP n g rfl (fun w22 h7 _ => ?_)
    rw [List.set_set] at h7
    refine ⟨_, rfl, andI_255 _, h7.closeC n hA rfl ?_⟩
    rw [w64 (by omega) (by omega)]; omega
  · exact ⟨_, rfl, andI_255 _, h5.drew.closeC n hA rfl hi⟩
theorem s72 {w0 w : World} {As : List Asr} {k : Int} (h : SH w0 w As) (n : Nat) {cb : Nat} {s : Sl} (hA : As[n]? = some (aC cb s)) (hb : CurB w0 s) :
    CallW Try.prog 72 #[.pointer (some ⟨cb, 0, none⟩), .int .i64 k] w (KD w0 As (below k)) := by
  refine go72 ?_
  unfold W72
  refine BIf.dec (fun h0 => ⟨0, rfl, ⟨Int.le_refl 0, .inr ⟨h0, rfl⟩⟩, h⟩) (fun h0 => ?_)
  have hmod : ∀ x : Int, 0 ≤ x → below k (Int.tmod x k) := fun x hx => by
    have h1 : 0 ≤ x % k := Int.emod_nonneg x (by omega)
    have h2 : x % k < k := Int.emod_lt_of_pos x (by omega)
    rw [Int.tmod_eq_emod_of_nonneg hx]
    exact ⟨h1, .inl h2⟩
  refine BIf.dec (fun h1 => ?_) (fun h1 => ?_)
  · refine (s102 h n hA hb).mono ?_
    rintro _ w2 ⟨x, rfl, hx, h⟩
    exact ⟨x, rfl, by omega, _, rfl, hmod _ hx.1, h⟩
  · refine (s102 h n hA hb).mono ?_
    rintro _ w5 ⟨x, rfl, hx, h⟩
    refine ⟨x, rfl, (s102 h n hA hb).mono ?_⟩
    rintro _ w8 ⟨y, rfl, hy, h⟩
    refine ⟨y, rfl, (s102 h n hA hb).mono ?_⟩
    rintro _ w11 ⟨z, rfl, hz, h⟩
    refine ⟨z, rfl, by omega, _, rfl, ?_, h⟩
    rw [w64 (n := x * 65536) (by omega) (by omega), w64 (n := y * 256) (by omega) (by omega), w64 (n := x * 65536 + y * 256) (by omega) (by omega), w64 (by omega) (by omega)]
    exact hmod _ (by omega)
theorem s73 {w0 w : World} {As : List Asr} {k : Int} (h : SH w0 w As) (n : Nat) {cb : Nat} {s : Sl} (hA : As[n]? = some (aC cb s)) (hb : CurB w0 s) :
    CallW Try.prog 73 #[.pointer (some ⟨cb, 0, none⟩), .int .i64 k] w (KDb w0 As) := by
  refine go73 ?_
  unfold W73
  refine (s72 h n hA hb).mono ?_
  rintro _ w2 ⟨x, rfl, hx, h⟩
  exact ⟨x, rfl, _, rfl, h⟩
theorem s70 {w0 w : World} {F : List Asr} {s : Sl} (h : SH w0 w F) (hb : CurB w0 s) :
    CallW Try.prog 70 #[.slice s.a s.len s.cap] w (fun v w' => ∃ cb, v = .pointer (some ⟨cb, 0, none⟩) ∧ SH w0 w' (aC cb s :: F)) := by
  refine go70 ?_
  unfold W70
  have hfew := hb.few
  refine LoopW.m2 (fun (x i : Int) w' => ∃ m : Nat, i = m ∧ m ≤ s.len ∧ w' = w) (fun _ (i : Int) _ => (s.len - i).toNat) ⟨0, rfl, by omega, rfl⟩ ?_
  rintro (x : Int) (i : Int) w ⟨m, rfl, hm, rfl⟩ J hJ
  refine BIf.dec (fun hlt => ?_) (fun hge => ?_)
  · obtain ⟨q, y, hq, hc, hy⟩ := hb.at_ m (by omega)
    simp only [Int.toNat_natCast]
    refine ⟨by omega, hlt, q, hq, y, h.ext.cell hc, ?_⟩
    rw [w64 (n := (m : Int) + 1) (by omega) (by omega)]
    exact hJ _ _ _ ⟨m + 1, by omega, by omega, rfl⟩ (by omega)
  · refine h.alloc (fun w7 h e7 n7 => ?_)
    exact ⟨w.heap.size, rfl, SH.closeC (As := aC w.heap.size s :: _) 0 rfl h rfl (by omega)⟩
theorem c34 {s : Sl} {w : World} : CallW Try.prog 34 #[.slice s.a s.len s.cap] w (fun v w' => v = .bool (decide ((s.len : Int) > 1048576)) ∧ w' = w) := by
  refine go34 ?_
  unfold W34
  exact ⟨rfl, rfl⟩
end Go.Proofs.Ytbimoajgofcmbaa

/- Draws of ports: an operation whose numbers are not told; some bytes. Conditions: none. -/
set_option linter.unusedVariables false
set_option linter.unusedSimpArgs false
namespace Go.Proofs.Ytbimoajgofcmbaa
open Go Go.Den
abbrev inR (x : Int) : Prop := -9223372036854775808 ≤ x ∧ x ≤ 9223372036854775807
theorem wrapR (x : Int) : inR (IntKind.i64.wrap x) := by rw [IntKind.wrap_i64]; constructor <;> omega
abbrev slV (t : Sl) : Value := .slice t.a t.len t.cap
structure ByR (l : List Int) : Prop where
  rng : ∀ x, x ∈ l → 0 ≤ x ∧ x ≤ 255
  few : l.length ≤ 2000
structure OpG (y : List Int × Sl × List Int) : Prop where
  len : y.1.length = 7
  ints : ∀ x, x ∈ y.1 → inR x
  by_ : ByR y.2.2
abbrev opL (xs : List Int) (t : Sl) : List Value := xs.map vInt ++ [slV t]
/-- An operation in a block of its own, with its bytes. -/
def aOp (b : Nat) : Asr := fun H => ∃ y : List Int × Sl × List Int, OpG y ∧ All [aB b ((opL y.1 y.2.1).map Ce.v), rD y.2.1 y.2.2] H
theorem SH.openO {w0 w : World} {As : List Asr} (h : SH w0 w As) (n : Nat) {b : Nat} (hA : As[n]? = some (aOp b)) : ∃ (xs : List Int) (t : Sl) (l : List Int), OpG (xs, t, l) ∧ SH w0 w (aB b ((opL xs t).map Ce.v) :: rD t l :: As.eraseIdx n) := by
  have h := h.front hA
  obtain ⟨⟨y, hy⟩, h⟩ := h.exAt (α := { y : List Int × Sl × List Int // OpG y }) (B := fun y => All [aB b ((opL y.1.1 y.1.2.1).map Ce.v), rD y.1.2.1 y.1.2.2]) 0 rfl (fun H ⟨y, hy, hH⟩ => ⟨⟨y, hy⟩, hH⟩)
  have h : SH w0 w (All [aB b ((opL y.1 y.2.1).map Ce.v), rD y.2.1 y.2.2] :: As.eraseIdx n) := h
  exact ⟨y.1, y.2.1, y.2.2, hy, h.allOut⟩
theorem SH.closeO {w0 w : World} {F : List Asr} {b : Nat} {xs : List Int} {t : Sl} {l : List Int} (h : SH w0 w (aB b ((opL xs t).map Ce.v) :: rD t l :: F)) (hy : OpG (xs, t, l)) : SH w0 w (aOp b :: F) :=
  (SH.allIn (As := [aB b ((opL xs t).map Ce.v), rD t l]) h).weak 0 rfl (fun H hH => ⟨(xs, t, l), hy, hH⟩)
theorem SH.backO {w0 w : World} {As : List Asr} {n : Nat} {A : Asr} (hA : As[n]? = some A) (h : SH w0 w (A :: As.eraseIdx n)) : SH w0 w As := h.perm (perm_front hA).symm
theorem SH.rO {w0 w : World} {As : List Asr} (h : SH w0 w As) (n : Nat) {b i : Nat} {G : Int → Prop} (hA : As[n]? = some (aOp b)) (hi : i < 7) (hk : ∀ x, inR x → G x) : ∃ x : Int, w.cell? ⟨b, i, none⟩ = some (.int .i64 x) ∧ G x := by
  obtain ⟨xs, t, l, hy, h⟩ := SH.openO h n hA
  have hl : xs.length = 7 := hy.len
  have hx : xs[i]? = some xs[i] := List.getElem?_eq_getElem (by omega)
  refine ⟨xs[i], h.cell 0 rfl ?_, hk _ (hy.ints _ (List.mem_of_getElem? hx))⟩
  rw [List.getElem?_map, List.getElem?_append_left (by rw [List.length_map]; omega), List.getElem?_map, hx]; rfl
theorem SH.sO {w0 w : World} {As : List Asr} (h : SH w0 w As) (n : Nat) {b i : Nat} {y : Int} {K : World → Prop} (hA : As[n]? = some (aOp b)) (hi : i < 7) (hy : inR y) (hk : ∀ w2, SH w0 w2 As → K w2) : May w ⟨b, i, none⟩ ∧ LetW (w.setCell ⟨b, i, none⟩ (.int .i64 y)) K := by
  obtain ⟨xs, t, l, hg, h⟩ := SH.openO h n hA
  have hl : xs.length = 7 := hg.len
  have hx : xs[i]? = some xs[i] := List.getElem?_eq_getElem (by omega)
  refine h.setV 0 (vs := opL xs t) (x := vInt xs[i]) rfl (by rw [List.getElem?_append_left (by rw [List.length_map]; omega), List.getElem?_map, hx]; rfl) (fun w2 h2 _ => hk w2 (SH.backO hA ?_))
  have h3 : SH w0 w2 (aB b (((opL xs t).set i (vInt y)).map Ce.v) :: rD t l :: As.eraseIdx n) := h2
  have e : (opL xs t).set i (vInt y) = opL (xs.set i y) t := by
    unfold opL
    rw [List.set_append_left _ _ (by rw [List.length_map]; omega), List.map_set]
  rw [e] at h3
  exact SH.closeO h3 ⟨by rw [List.length_set]; exact hl, fun z hz => by
    rcases List.mem_or_eq_of_mem_set hz with h4 | rfl
    · exact hg.ints z h4
    · exact hy, hg.by_⟩
theorem SH.dO {w0 w : World} {As : List Asr} {t : Sl} {l : List Int} (h : SH w0 w (rD t l :: As)) (n : Nat) {b : Nat} {K : World → Prop} (hA : As[n]? = some (aOp b)) (hy : ByR l) (hk : ∀ w2, SH w0 w2 As → K w2) : May w ⟨b, 7, none⟩ ∧ LetW (w.setCell ⟨b, 7, none⟩ (.slice t.a t.len t.cap)) K := by
  have h1 : SH w0 w (aOp b :: rD t l :: As.eraseIdx n) := by
    have := h.front (n := n + 1) (A := aOp b) (by simpa using hA)
    simpa using this
  obtain ⟨xs, t0, l0, hg, h⟩ := SH.openO h1 0 rfl
  have hl : xs.length = 7 := hg.len
  refine h.setV 0 (vs := opL xs t0) (x := slV t0) rfl (by rw [List.getElem?_append_right (by rw [List.length_map]; omega), List.length_map, hl]; rfl) (fun w2 h2 _ => hk w2 (SH.backO hA ?_))
  have h3 : SH w0 w2 (aB b (((opL xs t0).set 7 (slV t)).map Ce.v) :: rD t0 l0 :: rD t l :: As.eraseIdx n) := h2
  have e : (opL xs t0).set 7 (slV t) = opL xs t := by
    unfold opL
    rw [List.set_append_right _ _ (by rw [List.length_map]; omega), List.length_map, hl]; rfl
  rw [e] at h3
  exact SH.closeO (h3.dropAt 1) ⟨hl, hg.ints, hy⟩
theorem SH.newO {w0 w : World} {F : List Asr} {b : Nat} {vs : List Value} (xs : List Int) (h : SH w0 w (aB b (vs.map Ce.v) :: F)) (hv : vs = opL xs ⟨none, 0, 0⟩) (hl : xs.length = 7) (hx : ∀ x, x ∈ xs → inR x) : SH w0 w (aOp b :: F) := by
  subst hv
  have h1 : SH w0 w (aB b ((opL xs ⟨none, 0, 0⟩).map Ce.v) :: rD ⟨none, 0, 0⟩ [] :: F) := (h.nil none 1).p1
  exact SH.closeO h1 ⟨hl, hx, ⟨fun x hx => by simp at hx, by show 0 ≤ _; omega⟩⟩
structure OpR (o : DIpcOp) : Prop where
  wf : (inR o.Kind ∧ inR o.Holder ∧ inR o.Id ∧ inR o.To) ∧ inR o.Rights ∧ inR o.Cap ∧ inR o.N
  by_ : ByR o.Data
/-- It is opened for good. -/
theorem SH.opnO {w0 w : World} {As : List Asr} (h : SH w0 w As) (n : Nat) {b : Nat} (hA : As[n]? = some (aOp b)) : ∃ (o : DIpcOp) (t : Sl), OpR o ∧ SH w0 w (BO b o t :: rD t o.Data :: As.eraseIdx n) := by
  obtain ⟨xs, t, l, hy, h⟩ := SH.openO h n hA
  have hl : xs.length = 7 := hy.len
  have hi := hy.ints
  match xs, hl, hi, h with
  | [a, b, c, d, e, f, g], _, hi, h =>
    exact ⟨⟨a, b, c, d, e, f, g, l⟩, t, ⟨⟨⟨hi a (by simp), hi b (by simp), hi c (by simp), hi d (by simp)⟩, hi e (by simp), hi f (by simp), hi g (by simp)⟩, hy.by_⟩, h⟩
theorem zeroD (n : Nat) : List.replicate n (([Value.int .u8 0] : List Value).map Ce.v) = nums .u8 (List.replicate n 0) := by
  unfold nums
  rw [List.map_replicate]; rfl
theorem byR_zero {n : Nat} (h : n ≤ 2000) : ByR (List.replicate n 0) := ⟨fun x hx => by rw [(List.mem_replicate.1 hx).2]; omega, by rw [List.length_replicate]; exact h⟩
theorem wu8q {n : Int} (h0 : 0 ≤ n) (h1 : n ≤ 255) : IntKind.u8.wrap n = n := by
  show n % 256 = n
  omega
theorem s119 {w0 w : World} {As : List Asr} {n : Int} (h : SH w0 w As) (k : Nat) {cb : Nat} {s : Sl} (hA : As[k]? = some (aC cb s)) (hb : CurB w0 s) (hn : n ≤ 100) :
    CallW Try.prog 119 #[.pointer (some ⟨cb, 0, none⟩), .int .i64 n] w (fun v w' => ∃ (t : Sl) (l : List Int), v = .slice t.a t.len t.cap ∧ ByR l ∧ SH w0 w' (rD t l :: As)) := by
  refine go119 ?_
  unfold W119
  refine h.alloc (fun w1 h e1 n1 => ?_)
  have h := h.drop
  refine LoopW.m2 (fun (t : Sl) (i : Int) w' => ∃ (m : Nat) (l : List Int), i = m ∧ m ≤ 100 ∧ l.length = m ∧ (∀ x, x ∈ l → 0 ≤ x ∧ x ≤ 255) ∧ SH w0 w' (rD t l :: As)) (fun _ (i : Int) _ => (n - i).toNat) ⟨0, [], rfl, by omega, rfl, fun x hx => by simp at hx, h.nil _ 1⟩ ?_
  clear h
  rintro (t : Sl) (i : Int) w5 ⟨m, l, rfl, hm, hl, hr, h⟩ J hJ
  refine BIf.dec (fun hlt => ?_) (fun hge => ?_)
  · refine (s102 h (k + 1) (by simpa using hA) hb).mono ?_
    rintro _ w7 ⟨x, rfl, hx, h⟩
    refine ⟨x, rfl, ?_⟩
    rw [wu8q (n := x) hx.1 hx.2, w64 (n := (m : Int) + 1) (by omega) (by omega)]
    refine LetW_iff.2 (SH.appendN1 h rfl rfl (by decide) (by rw [hl]; show _ * 1 ≤ _; omega) (fun t2 w11 h hl2 _ => ?_))
    exact hJ _ _ _ ⟨m + 1, l ++ [x], by omega, by omega, by rw [List.length_append, hl]; rfl, fun z hz => by
      rcases List.mem_append.1 hz with hz | hz
      · exact hr z hz
      · rw [List.mem_singleton.1 hz]; exact hx, h⟩ (by omega)
  · exact ⟨t, l, rfl, ⟨hr, by omega⟩, h⟩
end Go.Proofs.Ytbimoajgofcmbaa

/- Draws of ports: an operation (printed). Conditions: none. -/
set_option linter.unusedVariables false
set_option linter.unusedSimpArgs false
set_option maxRecDepth 4000
namespace Go.Proofs.Ytbimoajgofcmbaa
open Go Go.Den
theorem capR {d : RIpc} (h : J0 d.abs) (hn : d.abs.Next ≤ 1099511627776) {c : DCap} (hc : c ∈ d.Caps) : inR c.Id ∧ inR c.Holder ∧ inR c.Port ∧ inR c.Rights ∧ inR c.Parent := by
  have hj := h.cap c hc
  have g1 := hj.id1
  have g2 := hj.idN
  have g3 := hj.hold
  have g4 := hj.r1
  have g5 := hj.r7
  obtain ⟨p, hp, hpe⟩ := hj.port
  have g6 := (h.port p hp).id1
  have g7 := (h.port p hp).idN
  have g8 : 0 ≤ c.Parent ∧ c.Parent ≤ d.abs.Next := by
    rcases hj.par with h0 | ⟨q, hq, h1, h2, _⟩
    · have := h.nx; omega
    · have := (h.cap q hq).id1; have := (h.cap q hq).idN; omega
  refine ⟨⟨?_, ?_⟩, ⟨?_, ?_⟩, ⟨?_, ?_⟩, ⟨?_, ?_⟩, ⟨?_, ?_⟩⟩ <;> omega
theorem pipeR {d : RIpc} (h : J0 d.abs) (hn : d.abs.Next ≤ 1099511627776) {c : RPipe} (hc : c ∈ d.Pipes) : inR c.Id := by
  have hj := h.pipe c.abs (List.mem_map.2 ⟨c, hc, rfl⟩)
  have g1 : 1 ≤ c.Id := hj.id1
  have g2 : c.Id ≤ d.abs.Next := hj.idN
  constructor <;> omega
theorem ownR {d : RIpc} (h : J0 d.abs) (hn : d.abs.Next ≤ 1099511627776) {hl : Int} {c : DCap} (hc : c ∈ capsOfF d.abs hl) : inR c.Id ∧ inR c.Holder ∧ inR c.Port ∧ inR c.Rights ∧ inR c.Parent := capR h hn (capsOf_sub.1 c hc)
set_option maxHeartbeats 8000000 in
theorem s101 {w0 w : World} {F : List Asr} {cb : Nat} {s tp tc tq : Sl} {r : RIpc} (h : SH w0 w (aC cb s :: rP tp r.Ports :: bP r.Ports :: rC tc r.Caps :: rQ tq r.Pipes :: bQ r.Pipes :: F)) (hb : CurB w0 s) (hj : J0 r.abs) (hn : r.abs.Next ≤ 1099511627776) :
    CallW Try.prog 101 #[.pointer (some ⟨cb, 0, none⟩), iV r.Next tp tc tq] w (fun v w' => ∃ (o : DIpcOp) (td : Sl), v = .agg ⟨opV o td⟩ ∧ OpR o ∧ SH w0 w' (rD td o.Data :: aC cb s :: rP tp r.Ports :: bP r.Ports :: rC tc r.Caps :: rQ tq r.Pipes :: bQ r.Pipes :: F)) := by
  refine go101 (a1_0 := r.Next) (a1_1 := tp) (a1_2 := tc) (a1_3 := tq) ?_
  unfold W101
  have hiw := hj.wf
  have hnx : 0 ≤ r.Next ∧ r.Next ≤ 1099511627776 := ⟨hj.nx, hn⟩
  have htc : tc.len = r.Caps.length := by have := h.len 3 rfl; rw [recs_len] at this; exact this
  have htq : tq.len = r.Pipes.length := by have := h.len 4 rfl; rw [recs_len] at this; exact this
  refine h.alloc (fun w1 h ew1 nw1 => ?_)
  refine h.alloc (fun w2 h ew2 nw2 => ?_)
  refine h.alloc (fun w3 h ew3 nw3 => ?_)
  have h : SH w0 w3 (aI w2.heap.size 22 inR :: aB w1.heap.size ([.int .i64 0, .int .i64 0, .int .i64 0, .int .i64 0, .int .i64 0, .int .i64 0, .int .i64 0, .slice none 0 0].map Ce.v) :: aB w.heap.size ([.int .i64 r.Next, .slice tp.a tp.len tp.cap, .slice tc.a tc.len tc.cap, .slice tq.a tq.len tq.cap].map Ce.v) :: aC cb s :: rP tp r.Ports :: bP r.Ports :: rC tc r.Caps :: rQ tq r.Pipes :: bQ r.Pipes :: F) := h.toI 0 [1, 2, 2, 2, 2, 3, 4, 5, 5, 5, 5, 6, 6, 6, 7, 8, 9, 10, 10, 10, 11, 11] rfl rfl (by intro x hx; simp only [List.mem_cons, List.not_mem_nil, or_false] at hx; rcases hx with rfl | rfl | rfl | rfl | rfl | rfl | rfl | rfl | rfl | rfl | rfl | rfl | rfl | rfl | rfl | rfl | rfl | rfl | rfl | rfl | rfl | rfl <;> first | assumption | exact wrapR _ | (constructor <;> omega))
  refine (s72 h 3 rfl hb).mono ?_
  rintro _ w5 ⟨n6, rfl, ⟨pn6a, pn6b⟩, h⟩
  refine ⟨n6, rfl, ?_⟩
  refine ⟨by omega, ?_⟩
  refine ⟨by omega, ?_⟩
  refine ⟨_, rfl, ?_⟩
  obtain ⟨k1, rfl⟩ := Int.eq_ofNat_of_zero_le pn6a
  rw [Int.toNat_natCast]
  refine h.rIx 0 rfl (by omega) (fun n8 pn8 => ?_)
  refine h.alloc (fun w9 h ew9 nw9 => ?_)
  refine h.put 0 rfl rfl rfl (fun w10 h nw10 => ?_)
  have h := SH.newO [n8, 0, 0, 0, 0, 0, 0] h rfl rfl (by intro x hx; simp only [List.mem_cons, List.not_mem_nil, or_false] at hx; rcases hx with rfl | rfl | rfl | rfl | rfl | rfl | rfl <;> first | assumption | exact wrapR _ | (constructor <;> omega))
  refine (s72 h 4 rfl hb).mono ?_
  rintro _ w12 ⟨n13, rfl, ⟨pn13a, pn13b⟩, h⟩
  refine ⟨n13, rfl, ?_⟩
  refine SH.sO h 0 rfl (by decide) (by first | assumption | exact wrapR _ | (constructor <;> omega) | decide) (fun w14 h => ?_)
  refine (s72 h 4 rfl hb).mono ?_
  rintro _ w16 ⟨n17, rfl, ⟨pn17a, pn17b⟩, h⟩
  refine ⟨n17, rfl, ?_⟩
  refine SH.sO h 0 rfl (by decide) (by first | assumption | exact wrapR _ | (constructor <;> omega) | decide) (fun w18 h => ?_)
  refine (s72 h 4 rfl hb).mono ?_
  rintro _ w20 ⟨n21, rfl, ⟨pn21a, pn21b⟩, h⟩
  refine ⟨n21, rfl, ?_⟩
  refine SH.sO h 0 rfl (by decide) (by first | assumption | exact wrapR _ | (constructor <;> omega) | decide) (fun w22 h => ?_)
  refine JoinW.cut0 (fun w' => SH w0 w' (aOp w5.heap.size :: aI w2.heap.size 22 inR :: aB w1.heap.size ([.int .i64 0, .int .i64 0, .int .i64 0, .int .i64 0, .int .i64 0, .int .i64 0, .int .i64 0, .slice none 0 0].map Ce.v) :: aB w.heap.size ([.int .i64 r.Next, .slice tp.a tp.len tp.cap, .slice tc.a tc.len tc.cap, .slice tq.a tq.len tq.cap].map Ce.v) :: aC cb s :: rP tp r.Ports :: bP r.Ports :: rC tc r.Caps :: rQ tq r.Pipes :: bQ r.Pipes :: F)) ?_ ?_
  · skip
    refine (s72 h 4 rfl hb).mono ?_
    rintro _ w261 ⟨n262, rfl, ⟨pn262a, pn262b⟩, h⟩
    refine ⟨n262, rfl, ?_⟩
    refine JoinW.cut1 (fun (b263 : Bool) w' => SH w0 w' (aOp w5.heap.size :: aI w2.heap.size 22 inR :: aB w1.heap.size ([.int .i64 0, .int .i64 0, .int .i64 0, .int .i64 0, .int .i64 0, .int .i64 0, .int .i64 0, .slice none 0 0].map Ce.v) :: aB w.heap.size ([.int .i64 r.Next, .slice tp.a tp.len tp.cap, .slice tc.a tc.len tc.cap, .slice tq.a tq.len tq.cap].map Ce.v) :: aC cb s :: rP tp r.Ports :: bP r.Ports :: rC tc r.Caps :: rQ tq r.Pipes :: bQ r.Pipes :: F)) ?_ ?_
    · skip
      refine BIf.of (fun c2 => ?_) (fun c2 => ?_)
      · skip
        try have hcap := hcap c2
        try have hpip := hpip c2
        try have hown := hown c2
        try simp only [Bool.or_eq_true, Bool.and_eq_true, Bool.or_eq_false_iff, Bool.not_eq_true', Bool.not_eq_false', decide_eq_true_eq, decide_eq_false_iff_not, beq_iff_eq, beq_eq_false_iff_ne, bne_iff_ne, bne_eq_false_iff_eq, ne_eq] at c2
        exact h
      · skip
        try have hcap := hcap c2
        try have hpip := hpip c2
        try have hown := hown c2
        try simp only [Bool.or_eq_true, Bool.and_eq_true, Bool.or_eq_false_iff, Bool.not_eq_true', Bool.not_eq_false', decide_eq_true_eq, decide_eq_false_iff_not, beq_iff_eq, beq_eq_false_iff_ne, bne_iff_ne, bne_eq_false_iff_eq, ne_eq] at c2
        exact h
    · clear h
      rintro (b263 : Bool) w265 h
      refine BIf.of (fun c3 => ?_) (fun c3 => ?_)
      · skip
        try have hcap := hcap c3
        try have hpip := hpip c3
        try have hown := hown c3
        try simp only [Bool.or_eq_true, Bool.and_eq_true, Bool.or_eq_false_iff, Bool.not_eq_true', Bool.not_eq_false', decide_eq_true_eq, decide_eq_false_iff_not, beq_iff_eq, beq_eq_false_iff_ne, bne_iff_ne, bne_eq_false_iff_eq, ne_eq] at c3
        refine SH.sO h 0 rfl (by decide) (by first | assumption | exact wrapR _ | (constructor <;> omega) | decide) (fun w266 h => ?_)
        exact h
      · skip
        try have hcap := hcap c3
        try have hpip := hpip c3
        try have hown := hown c3
        try simp only [Bool.or_eq_true, Bool.and_eq_true, Bool.or_eq_false_iff, Bool.not_eq_true', Bool.not_eq_false', decide_eq_true_eq, decide_eq_false_iff_not, beq_iff_eq, beq_eq_false_iff_ne, bne_iff_ne, bne_eq_false_iff_eq, ne_eq] at c3
        refine BIf.of (fun c4 => ?_) (fun c4 => ?_)
        · skip
          try have hcap := hcap c4
          try have hpip := hpip c4
          try have hown := hown c4
          try simp only [Bool.or_eq_true, Bool.and_eq_true, Bool.or_eq_false_iff, Bool.not_eq_true', Bool.not_eq_false', decide_eq_true_eq, decide_eq_false_iff_not, beq_iff_eq, beq_eq_false_iff_ne, bne_iff_ne, bne_eq_false_iff_eq, ne_eq] at c4
          refine h.alloc (fun w267 h ew267 nw267 => ?_)
          have h : SH w0 w267 (aI w265.heap.size 3 inR :: aOp w5.heap.size :: aI w2.heap.size 22 inR :: aB w1.heap.size ([.int .i64 0, .int .i64 0, .int .i64 0, .int .i64 0, .int .i64 0, .int .i64 0, .int .i64 0, .slice none 0 0].map Ce.v) :: aB w.heap.size ([.int .i64 r.Next, .slice tp.a tp.len tp.cap, .slice tc.a tc.len tc.cap, .slice tq.a tq.len tq.cap].map Ce.v) :: aC cb s :: rP tp r.Ports :: bP r.Ports :: rC tc r.Caps :: rQ tq r.Pipes :: bQ r.Pipes :: F) := h.toI 0 [4, 6, 5] rfl rfl (by intro x hx; simp only [List.mem_cons, List.not_mem_nil, or_false] at hx; rcases hx with rfl | rfl | rfl <;> first | assumption | exact wrapR _ | (constructor <;> omega))
          refine (s72 h 5 rfl hb).mono ?_
          rintro _ w269 ⟨n270, rfl, ⟨pn270a, pn270b⟩, h⟩
          refine ⟨n270, rfl, ?_⟩
          refine ⟨by omega, ?_⟩
          refine ⟨by omega, ?_⟩
          refine ⟨_, rfl, ?_⟩
          obtain ⟨k5, rfl⟩ := Int.eq_ofNat_of_zero_le pn270a
          rw [Int.toNat_natCast]
          refine h.rIx 0 rfl (by omega) (fun n272 pn272 => ?_)
          refine SH.sO h 1 rfl (by decide) (by first | assumption | exact wrapR _ | (constructor <;> omega) | decide) (fun w273 h => ?_)
          exact h.drop
        · skip
          try have hcap := hcap c4
          try have hpip := hpip c4
          try have hown := hown c4
          try simp only [Bool.or_eq_true, Bool.and_eq_true, Bool.or_eq_false_iff, Bool.not_eq_true', Bool.not_eq_false', decide_eq_true_eq, decide_eq_false_iff_not, beq_iff_eq, beq_eq_false_iff_ne, bne_iff_ne, bne_eq_false_iff_eq, ne_eq] at c4
          exact h
  · clear h
    intro w24 h
    refine (s72 h 4 rfl hb).mono ?_
    rintro _ w26 ⟨n27, rfl, ⟨pn27a, pn27b⟩, h⟩
    refine ⟨n27, rfl, ?_⟩
    refine SH.sO h 0 rfl (by decide) (by first | assumption | exact wrapR _ | (constructor <;> omega) | decide) (fun w28 h => ?_)
    refine (s72 h 4 rfl hb).mono ?_
    rintro _ w30 ⟨n31, rfl, ⟨pn31a, pn31b⟩, h⟩
    refine ⟨n31, rfl, ?_⟩
    refine (s119 h 4 rfl hb (by omega)).mono ?_
    rintro _ w33 ⟨l34, dl34, rfl, hdl34, h⟩
    refine ⟨l34, rfl, ?_⟩
    refine SH.dO h 0 rfl hdl34 (fun w35 h => ?_)
    refine JoinW.cut0 (fun w' => SH w0 w' (aOp w5.heap.size :: aI w2.heap.size 22 inR :: aB w1.heap.size ([.int .i64 0, .int .i64 0, .int .i64 0, .int .i64 0, .int .i64 0, .int .i64 0, .int .i64 0, .slice none 0 0].map Ce.v) :: aB w.heap.size ([.int .i64 r.Next, .slice tp.a tp.len tp.cap, .slice tc.a tc.len tc.cap, .slice tq.a tq.len tq.cap].map Ce.v) :: aC cb s :: rP tp r.Ports :: bP r.Ports :: rC tc r.Caps :: rQ tq r.Pipes :: bQ r.Pipes :: F)) ?_ ?_
    · skip
      refine ⟨tc, h.cell 3 rfl rfl, ?_⟩
      refine JoinW.cut1 (fun (b175 : Bool) w' => (b175 = true → 0 < tc.len) ∧ SH w0 w' (aOp w5.heap.size :: aI w2.heap.size 22 inR :: aB w1.heap.size ([.int .i64 0, .int .i64 0, .int .i64 0, .int .i64 0, .int .i64 0, .int .i64 0, .int .i64 0, .slice none 0 0].map Ce.v) :: aB w.heap.size ([.int .i64 r.Next, .slice tp.a tp.len tp.cap, .slice tc.a tc.len tc.cap, .slice tq.a tq.len tq.cap].map Ce.v) :: aC cb s :: rP tp r.Ports :: bP r.Ports :: rC tc r.Caps :: rQ tq r.Pipes :: bQ r.Pipes :: F)) ?_ ?_
      · skip
        refine BIf.of (fun c6 => ?_) (fun c6 => ?_)
        · skip
          try have hcap := hcap c6
          try have hpip := hpip c6
          try have hown := hown c6
          try simp only [Bool.or_eq_true, Bool.and_eq_true, Bool.or_eq_false_iff, Bool.not_eq_true', Bool.not_eq_false', decide_eq_true_eq, decide_eq_false_iff_not, beq_iff_eq, beq_eq_false_iff_ne, bne_iff_ne, bne_eq_false_iff_eq, ne_eq] at c6
          refine SH.rO h 0 rfl (by decide) (fun n259 pn259 => ?_)
          exact ⟨(by first | (intro hx; cases hx; done) | (intro hx; have hx2 := of_decide_eq_true hx; omega) | (intro hx; omega) | (intro hx; simp at hx)), h⟩
        · skip
          try have hcap := hcap c6
          try have hpip := hpip c6
          try have hown := hown c6
          try simp only [Bool.or_eq_true, Bool.and_eq_true, Bool.or_eq_false_iff, Bool.not_eq_true', Bool.not_eq_false', decide_eq_true_eq, decide_eq_false_iff_not, beq_iff_eq, beq_eq_false_iff_ne, bne_iff_ne, bne_eq_false_iff_eq, ne_eq] at c6
          exact ⟨(by first | (intro hx; cases hx; done) | (intro hx; have hx2 := of_decide_eq_true hx; omega) | (intro hx; omega) | (intro hx; simp at hx)), h⟩
      · clear h
        rintro (b175 : Bool) w177 ⟨hcap, h⟩
        refine BIf.of (fun c7 => ?_) (fun c7 => ?_)
        · skip
          try have hcap := hcap c7
          try have hpip := hpip c7
          try have hown := hown c7
          try simp only [Bool.or_eq_true, Bool.and_eq_true, Bool.or_eq_false_iff, Bool.not_eq_true', Bool.not_eq_false', decide_eq_true_eq, decide_eq_false_iff_not, beq_iff_eq, beq_eq_false_iff_ne, bne_iff_ne, bne_eq_false_iff_eq, ne_eq] at c7
          refine JoinW.cut1 (fun (p178 : Option Addr) w' => ∃ b8,  p178 = some ⟨b8, 0, none⟩ ∧ SH w0 w' (aI b8 5 inR :: aOp w5.heap.size :: aI w2.heap.size 22 inR :: aB w1.heap.size ([.int .i64 0, .int .i64 0, .int .i64 0, .int .i64 0, .int .i64 0, .int .i64 0, .int .i64 0, .slice none 0 0].map Ce.v) :: aB w.heap.size ([.int .i64 r.Next, .slice tp.a tp.len tp.cap, .slice tc.a tc.len tc.cap, .slice tq.a tq.len tq.cap].map Ce.v) :: aC cb s :: rP tp r.Ports :: bP r.Ports :: rC tc r.Caps :: rQ tq r.Pipes :: bQ r.Pipes :: F)) ?_ ?_
          · skip
            refine ⟨tc, h.cell 3 rfl rfl, ?_⟩
            refine ⟨tc, h.cell 3 rfl rfl, ?_⟩
            refine ⟨?_, ?_⟩
            · skip
              have h := h.drew
              refine (s72 h 4 rfl hb).mono ?_
              rintro _ w241 ⟨n242, rfl, ⟨pn242a, pn242b⟩, h⟩
              refine ⟨n242, rfl, ?_⟩
              refine ⟨⟨tc, h.cell 3 rfl rfl, (by first | rfl | trivial)⟩, ?_⟩
              refine ⟨by omega, ?_⟩
              refine ⟨by omega, ?_⟩
              obtain ⟨k9, rfl⟩ := Int.eq_ofNat_of_zero_le pn242a
              simp only [Int.toNat_natCast]
              have hgq244 : r.Caps[k9]? = some r.Caps[k9] := List.getElem?_eq_getElem (by omega)
              obtain ⟨q244, hqq244⟩ := h.rowQ 7 rfl hgq244
              obtain ⟨q244_0, q244_1, q244_2, q244_3, q244_4⟩ := capR hj hn (List.mem_of_getElem? hgq244)
              refine ⟨q244, hqq244, ?_⟩
              refine ⟨_, h.rdR 7 rfl hqq244 hgq244 rfl, ?_⟩
              refine ⟨_, h.rdR 7 rfl hqq244 hgq244 rfl, ?_⟩
              refine ⟨_, h.rdR 7 rfl hqq244 hgq244 rfl, ?_⟩
              refine ⟨_, h.rdR 7 rfl hqq244 hgq244 rfl, ?_⟩
              refine ⟨_, h.rdR 7 rfl hqq244 hgq244 rfl, ?_⟩
              refine ⟨?_, trivial⟩
              refine h.alloc (fun w250 h ew250 nw250 => ?_)
              have h : SH w0 w250 (aI w241.heap.size 5 inR :: aOp w5.heap.size :: aI w2.heap.size 22 inR :: aB w1.heap.size ([.int .i64 0, .int .i64 0, .int .i64 0, .int .i64 0, .int .i64 0, .int .i64 0, .int .i64 0, .slice none 0 0].map Ce.v) :: aB w.heap.size ([.int .i64 r.Next, .slice tp.a tp.len tp.cap, .slice tc.a tc.len tc.cap, .slice tq.a tq.len tq.cap].map Ce.v) :: aC cb s :: rP tp r.Ports :: bP r.Ports :: rC tc r.Caps :: rQ tq r.Pipes :: bQ r.Pipes :: F) := h.toI 0 [0, 0, 0, 0, 0] rfl rfl (by intro x hx; simp only [List.mem_cons, List.not_mem_nil, or_false] at hx; rcases hx with rfl | rfl | rfl | rfl | rfl <;> first | assumption | exact wrapR _ | (constructor <;> omega))
              refine ⟨⟨_, h.rdR 8 rfl hqq244 hgq244 rfl, _, h.rdR 8 rfl hqq244 hgq244 rfl, _, h.rdR 8 rfl hqq244 hgq244 rfl, _, h.rdR 8 rfl hqq244 hgq244 rfl, _, h.rdR 8 rfl hqq244 hgq244 rfl, (by first | rfl | trivial)⟩, ?_⟩
              refine ⟨(by first | rfl | trivial), ?_⟩
              refine ⟨⟨tc, h.cell 4 rfl rfl, (by first | rfl | trivial)⟩, ?_⟩
              refine ⟨⟨tc, h.cell 4 rfl rfl, (by first | rfl | trivial)⟩, ?_⟩
              refine ⟨?_, trivial⟩
              refine h.pI 0 [(r.Caps[k9].Id), (r.Caps[k9].Holder), (r.Caps[k9].Port), (r.Caps[k9].Rights), (r.Caps[k9].Parent)] rfl rfl rfl (by intro x hx; simp only [List.mem_cons, List.not_mem_nil, or_false] at hx; rcases hx with rfl | rfl | rfl | rfl | rfl <;> first | assumption | exact wrapR _ | (constructor <;> omega)) (fun w258 h => ?_)
              exact ⟨_, rfl, (h.front (n := 0) rfl)⟩
            · skip
              refine ⟨?_, trivial⟩
              have h := h.drew
              refine h.alloc (fun w226 h ew226 nw226 => ?_)
              have h : SH w0 w226 (aI w177.drew.heap.size 5 inR :: aOp w5.heap.size :: aI w2.heap.size 22 inR :: aB w1.heap.size ([.int .i64 0, .int .i64 0, .int .i64 0, .int .i64 0, .int .i64 0, .int .i64 0, .int .i64 0, .slice none 0 0].map Ce.v) :: aB w.heap.size ([.int .i64 r.Next, .slice tp.a tp.len tp.cap, .slice tc.a tc.len tc.cap, .slice tq.a tq.len tq.cap].map Ce.v) :: aC cb s :: rP tp r.Ports :: bP r.Ports :: rC tc r.Caps :: rQ tq r.Pipes :: bQ r.Pipes :: F) := h.toI 0 [0, 0, 0, 0, 0] rfl rfl (by intro x hx; simp only [List.mem_cons, List.not_mem_nil, or_false] at hx; rcases hx with rfl | rfl | rfl | rfl | rfl <;> first | assumption | exact wrapR _ | (constructor <;> omega))
              refine ⟨(by first | rfl | trivial), ?_⟩
              refine ⟨⟨tc, h.cell 4 rfl rfl, (by first | rfl | trivial)⟩, ?_⟩
              refine ⟨⟨tc, h.cell 4 rfl rfl, (by first | rfl | trivial)⟩, ?_⟩
              refine ⟨?_, trivial⟩
              refine (s72 h 5 rfl hb).mono ?_
              rintro _ w230 ⟨n231, rfl, ⟨pn231a, pn231b⟩, h⟩
              refine ⟨n231, rfl, ?_⟩
              refine ⟨⟨tc, h.cell 4 rfl rfl, (by first | rfl | trivial)⟩, ?_⟩
              refine ⟨by omega, ?_⟩
              refine ⟨by omega, ?_⟩
              obtain ⟨k10, rfl⟩ := Int.eq_ofNat_of_zero_le pn231a
              simp only [Int.toNat_natCast]
              have hgq233 : r.Caps[k10]? = some r.Caps[k10] := List.getElem?_eq_getElem (by omega)
              obtain ⟨q233, hqq233⟩ := h.rowQ 8 rfl hgq233
              obtain ⟨q233_0, q233_1, q233_2, q233_3, q233_4⟩ := capR hj hn (List.mem_of_getElem? hgq233)
              refine ⟨q233, hqq233, ?_⟩
              refine ⟨_, h.rdR 8 rfl hqq233 hgq233 rfl, ?_⟩
              refine ⟨_, h.rdR 8 rfl hqq233 hgq233 rfl, ?_⟩
              refine ⟨_, h.rdR 8 rfl hqq233 hgq233 rfl, ?_⟩
              refine ⟨_, h.rdR 8 rfl hqq233 hgq233 rfl, ?_⟩
              refine ⟨_, h.rdR 8 rfl hqq233 hgq233 rfl, ?_⟩
              refine ⟨?_, trivial⟩
              refine h.pI 0 [(r.Caps[k10].Id), (r.Caps[k10].Holder), (r.Caps[k10].Port), (r.Caps[k10].Rights), (r.Caps[k10].Parent)] rfl rfl rfl (by intro x hx; simp only [List.mem_cons, List.not_mem_nil, or_false] at hx; rcases hx with rfl | rfl | rfl | rfl | rfl <;> first | assumption | exact wrapR _ | (constructor <;> omega)) (fun w239 h => ?_)
              exact ⟨_, rfl, (h.front (n := 0) rfl)⟩
          · clear h
            rintro (p178 : Option Addr) w180 ⟨b8, rfl, h⟩
            refine addrOf_mk ?_
            refine h.rIP 0 rfl (by decide) (fun n182 pn182 => ?_)
            refine SH.sO h 1 rfl (by decide) (by first | assumption | exact wrapR _ | (constructor <;> omega) | decide) (fun w183 h => ?_)
            refine JoinW.cut0 (fun w' => SH w0 w' (aI b8 5 inR :: aOp w5.heap.size :: aI w2.heap.size 22 inR :: aB w1.heap.size ([.int .i64 0, .int .i64 0, .int .i64 0, .int .i64 0, .int .i64 0, .int .i64 0, .int .i64 0, .slice none 0 0].map Ce.v) :: aB w.heap.size ([.int .i64 r.Next, .slice tp.a tp.len tp.cap, .slice tc.a tc.len tc.cap, .slice tq.a tq.len tq.cap].map Ce.v) :: aC cb s :: rP tp r.Ports :: bP r.Ports :: rC tc r.Caps :: rQ tq r.Pipes :: bQ r.Pipes :: F)) ?_ ?_
            · skip
              refine (s73 h 5 rfl hb).mono ?_
              rintro _ w219 ⟨b220, rfl, h⟩
              refine ⟨b220, rfl, ?_⟩
              refine BIf.of (fun c11 => ?_) (fun c11 => ?_)
              · skip
                try have hcap := hcap c11
                try have hpip := hpip c11
                try have hown := hown c11
                try simp only [Bool.or_eq_true, Bool.and_eq_true, Bool.or_eq_false_iff, Bool.not_eq_true', Bool.not_eq_false', decide_eq_true_eq, decide_eq_false_iff_not, beq_iff_eq, beq_eq_false_iff_ne, bne_iff_ne, bne_eq_false_iff_eq, ne_eq] at c11
                refine addrOf_mk ?_
                refine h.rIP 0 rfl (by decide) (fun n222 pn222 => ?_)
                refine SH.sO h 1 rfl (by decide) (by first | assumption | exact wrapR _ | (constructor <;> omega) | decide) (fun w223 h => ?_)
                exact h
              · skip
                try have hcap := hcap c11
                try have hpip := hpip c11
                try have hown := hown c11
                try simp only [Bool.or_eq_true, Bool.and_eq_true, Bool.or_eq_false_iff, Bool.not_eq_true', Bool.not_eq_false', decide_eq_true_eq, decide_eq_false_iff_not, beq_iff_eq, beq_eq_false_iff_ne, bne_iff_ne, bne_eq_false_iff_eq, ne_eq] at c11
                exact h
            · clear h
              intro w185 h
              refine (s73 h 5 rfl hb).mono ?_
              rintro _ w187 ⟨b188, rfl, h⟩
              refine ⟨b188, rfl, ?_⟩
              refine BIf.of (fun c12 => ?_) (fun c12 => ?_)
              · skip
                try have hcap := hcap c12
                try have hpip := hpip c12
                try have hown := hown c12
                try simp only [Bool.or_eq_true, Bool.and_eq_true, Bool.or_eq_false_iff, Bool.not_eq_true', Bool.not_eq_false', decide_eq_true_eq, decide_eq_false_iff_not, beq_iff_eq, beq_eq_false_iff_ne, bne_iff_ne, bne_eq_false_iff_eq, ne_eq] at c12
                refine ⟨tc, h.cell 4 rfl rfl, ?_⟩
                refine ⟨tc, h.cell 4 rfl rfl, ?_⟩
                have h := h.drew
                refine (s72 h 5 rfl hb).mono ?_
                rintro _ w192 ⟨n193, rfl, ⟨pn193a, pn193b⟩, h⟩
                refine ⟨n193, rfl, ?_⟩
                refine ⟨⟨tc, h.cell 4 rfl rfl, (by first | rfl | trivial)⟩, ?_⟩
                refine ⟨by omega, ?_⟩
                refine ⟨by omega, ?_⟩
                obtain ⟨k13, rfl⟩ := Int.eq_ofNat_of_zero_le pn193a
                simp only [Int.toNat_natCast]
                have hgq195 : r.Caps[k13]? = some r.Caps[k13] := List.getElem?_eq_getElem (by omega)
                obtain ⟨q195, hqq195⟩ := h.rowQ 8 rfl hgq195
                obtain ⟨q195_0, q195_1, q195_2, q195_3, q195_4⟩ := capR hj hn (List.mem_of_getElem? hgq195)
                refine ⟨q195, hqq195, ?_⟩
                refine ⟨_, h.rdR 8 rfl hqq195 hgq195 rfl, ?_⟩
                refine SH.sO h 1 rfl (by decide) (by first | assumption | exact wrapR _ | (constructor <;> omega) | decide) (fun w197 h => ?_)
                refine ⟨_, h.cell 4 rfl rfl, ?_⟩
                refine ⟨tp, h.cell 4 rfl rfl, ?_⟩
                refine ⟨tc, h.cell 4 rfl rfl, ?_⟩
                refine ⟨tq, h.cell 4 rfl rfl, ?_⟩
                refine SH.rO h 1 rfl (by decide) (fun n202 pn202 => ?_)
                have hd14 : IpcAt _ tp tc tq r.abs := ipc_at (F := F) ((((((h.dropAt 5).dropAt 4).dropAt 3).dropAt 2).dropAt 1).dropAt 0) hiw
                refine (c14 (hl := n202) hd14 hiw.pw).mono ?_
                rintro _ w204 ⟨l205, rfl, g⟩
                have h : SH w0 w204 (rC l205 (capsOfF r.abs n202) :: aI b8 5 inR :: aOp w5.heap.size :: aI w2.heap.size 22 inR :: aB w1.heap.size ([.int .i64 0, .int .i64 0, .int .i64 0, .int .i64 0, .int .i64 0, .int .i64 0, .int .i64 0, .slice none 0 0].map Ce.v) :: aB w.heap.size ([.int .i64 r.Next, .slice tp.a tp.len tp.cap, .slice tc.a tc.len tc.cap, .slice tq.a tq.len tq.cap].map Ce.v) :: aC cb s :: rP tp r.Ports :: bP r.Ports :: rC tc r.Caps :: rQ tq r.Pipes :: bQ r.Pipes :: F) := h.seq g
                have hl205 : l205.len = (capsOfF r.abs n202).length := by have := h.len 0 rfl; rw [recs_len] at this; exact this
                refine ⟨l205, rfl, ?_⟩
                refine JoinW.cut1 (fun (b206 : Bool) w' => (b206 = true → 0 < l205.len) ∧ SH w0 w' (rC l205 (capsOfF r.abs n202) :: aI b8 5 inR :: aOp w5.heap.size :: aI w2.heap.size 22 inR :: aB w1.heap.size ([.int .i64 0, .int .i64 0, .int .i64 0, .int .i64 0, .int .i64 0, .int .i64 0, .int .i64 0, .slice none 0 0].map Ce.v) :: aB w.heap.size ([.int .i64 r.Next, .slice tp.a tp.len tp.cap, .slice tc.a tc.len tc.cap, .slice tq.a tq.len tq.cap].map Ce.v) :: aC cb s :: rP tp r.Ports :: bP r.Ports :: rC tc r.Caps :: rQ tq r.Pipes :: bQ r.Pipes :: F)) ?_ ?_
                · skip
                  refine BIf.of (fun c14 => ?_) (fun c14 => ?_)
                  · skip
                    try have hcap := hcap c14
                    try have hpip := hpip c14
                    try have hown := hown c14
                    try simp only [Bool.or_eq_true, Bool.and_eq_true, Bool.or_eq_false_iff, Bool.not_eq_true', Bool.not_eq_false', decide_eq_true_eq, decide_eq_false_iff_not, beq_iff_eq, beq_eq_false_iff_ne, bne_iff_ne, bne_eq_false_iff_eq, ne_eq] at c14
                    refine (s73 h 6 rfl hb).mono ?_
                    rintro _ w216 ⟨b217, rfl, h⟩
                    refine ⟨b217, rfl, ?_⟩
                    exact ⟨(by first | (intro hx; cases hx; done) | (intro hx; have hx2 := of_decide_eq_true hx; omega) | (intro hx; omega) | (intro hx; simp at hx)), h⟩
                  · skip
                    try have hcap := hcap c14
                    try have hpip := hpip c14
                    try have hown := hown c14
                    try simp only [Bool.or_eq_true, Bool.and_eq_true, Bool.or_eq_false_iff, Bool.not_eq_true', Bool.not_eq_false', decide_eq_true_eq, decide_eq_false_iff_not, beq_iff_eq, beq_eq_false_iff_ne, bne_iff_ne, bne_eq_false_iff_eq, ne_eq] at c14
                    exact ⟨(by first | (intro hx; cases hx; done) | (intro hx; have hx2 := of_decide_eq_true hx; omega) | (intro hx; omega) | (intro hx; simp at hx)), h⟩
                · clear h
                  rintro (b206 : Bool) w208 ⟨hown, h⟩
                  refine BIf.of (fun c15 => ?_) (fun c15 => ?_)
                  · skip
                    try have hcap := hcap c15
                    try have hpip := hpip c15
                    try have hown := hown c15
                    try simp only [Bool.or_eq_true, Bool.and_eq_true, Bool.or_eq_false_iff, Bool.not_eq_true', Bool.not_eq_false', decide_eq_true_eq, decide_eq_false_iff_not, beq_iff_eq, beq_eq_false_iff_ne, bne_iff_ne, bne_eq_false_iff_eq, ne_eq] at c15
                    refine (s72 h 6 rfl hb).mono ?_
                    rintro _ w210 ⟨n211, rfl, ⟨pn211a, pn211b⟩, h⟩
                    refine ⟨n211, rfl, ?_⟩
                    refine ⟨by omega, ?_⟩
                    refine ⟨by omega, ?_⟩
                    obtain ⟨k16, rfl⟩ := Int.eq_ofNat_of_zero_le pn211a
                    simp only [Int.toNat_natCast]
                    have hgq212 : (capsOfF r.abs n202)[k16]? = some (capsOfF r.abs n202)[k16] := List.getElem?_eq_getElem (by omega)
                    obtain ⟨q212, hqq212⟩ := h.rowQ 0 rfl hgq212
                    obtain ⟨q212_0, q212_1, q212_2, q212_3, q212_4⟩ := ownR hj hn (List.mem_of_getElem? hgq212)
                    refine ⟨q212, hqq212, ?_⟩
                    refine ⟨_, h.rdR 0 rfl hqq212 hgq212 rfl, ?_⟩
                    refine SH.sO h 2 rfl (by decide) (by first | assumption | exact wrapR _ | (constructor <;> omega) | decide) (fun w214 h => ?_)
                    exact h.drop.drop
                  · skip
                    try have hcap := hcap c15
                    try have hpip := hpip c15
                    try have hown := hown c15
                    try simp only [Bool.or_eq_true, Bool.and_eq_true, Bool.or_eq_false_iff, Bool.not_eq_true', Bool.not_eq_false', decide_eq_true_eq, decide_eq_false_iff_not, beq_iff_eq, beq_eq_false_iff_ne, bne_iff_ne, bne_eq_false_iff_eq, ne_eq] at c15
                    exact h.drop.drop
              · skip
                try have hcap := hcap c12
                try have hpip := hpip c12
                try have hown := hown c12
                try simp only [Bool.or_eq_true, Bool.and_eq_true, Bool.or_eq_false_iff, Bool.not_eq_true', Bool.not_eq_false', decide_eq_true_eq, decide_eq_false_iff_not, beq_iff_eq, beq_eq_false_iff_ne, bne_iff_ne, bne_eq_false_iff_eq, ne_eq] at c12
                exact h.drop
        · skip
          try have hcap := hcap c7
          try have hpip := hpip c7
          try have hown := hown c7
          try simp only [Bool.or_eq_true, Bool.and_eq_true, Bool.or_eq_false_iff, Bool.not_eq_true', Bool.not_eq_false', decide_eq_true_eq, decide_eq_false_iff_not, beq_iff_eq, beq_eq_false_iff_ne, bne_iff_ne, bne_eq_false_iff_eq, ne_eq] at c7
          exact h
    · clear h
      intro w37 h
      refine JoinW.cut0 (fun w' => SH w0 w' (aOp w5.heap.size :: aI w2.heap.size 22 inR :: aB w1.heap.size ([.int .i64 0, .int .i64 0, .int .i64 0, .int .i64 0, .int .i64 0, .int .i64 0, .int .i64 0, .slice none 0 0].map Ce.v) :: aB w.heap.size ([.int .i64 r.Next, .slice tp.a tp.len tp.cap, .slice tc.a tc.len tc.cap, .slice tq.a tq.len tq.cap].map Ce.v) :: aC cb s :: rP tp r.Ports :: bP r.Ports :: rC tc r.Caps :: rQ tq r.Pipes :: bQ r.Pipes :: F)) ?_ ?_
      · skip
        refine SH.rO h 0 rfl (by decide) (fun n137 pn137 => ?_)
        refine JoinW.cut1 (fun (b138 : Bool) w' => (b138 = true → 0 < tq.len) ∧ SH w0 w' (aOp w5.heap.size :: aI w2.heap.size 22 inR :: aB w1.heap.size ([.int .i64 0, .int .i64 0, .int .i64 0, .int .i64 0, .int .i64 0, .int .i64 0, .int .i64 0, .slice none 0 0].map Ce.v) :: aB w.heap.size ([.int .i64 r.Next, .slice tp.a tp.len tp.cap, .slice tc.a tc.len tc.cap, .slice tq.a tq.len tq.cap].map Ce.v) :: aC cb s :: rP tp r.Ports :: bP r.Ports :: rC tc r.Caps :: rQ tq r.Pipes :: bQ r.Pipes :: F)) ?_ ?_
        · skip
          refine BIf.of (fun c17 => ?_) (fun c17 => ?_)
          · skip
            try have hcap := hcap c17
            try have hpip := hpip c17
            try have hown := hown c17
            try simp only [Bool.or_eq_true, Bool.and_eq_true, Bool.or_eq_false_iff, Bool.not_eq_true', Bool.not_eq_false', decide_eq_true_eq, decide_eq_false_iff_not, beq_iff_eq, beq_eq_false_iff_ne, bne_iff_ne, bne_eq_false_iff_eq, ne_eq] at c17
            refine ⟨tq, h.cell 3 rfl rfl, ?_⟩
            exact ⟨(by first | (intro hx; cases hx; done) | (intro hx; have hx2 := of_decide_eq_true hx; omega) | (intro hx; omega) | (intro hx; simp at hx)), h⟩
          · skip
            try have hcap := hcap c17
            try have hpip := hpip c17
            try have hown := hown c17
            try simp only [Bool.or_eq_true, Bool.and_eq_true, Bool.or_eq_false_iff, Bool.not_eq_true', Bool.not_eq_false', decide_eq_true_eq, decide_eq_false_iff_not, beq_iff_eq, beq_eq_false_iff_ne, bne_iff_ne, bne_eq_false_iff_eq, ne_eq] at c17
            exact ⟨(by first | (intro hx; cases hx; done) | (intro hx; have hx2 := of_decide_eq_true hx; omega) | (intro hx; omega) | (intro hx; simp at hx)), h⟩
        · clear h
          rintro (b138 : Bool) w140 ⟨hpip, h⟩
          refine BIf.of (fun c18 => ?_) (fun c18 => ?_)
          · skip
            try have hcap := hcap c18
            try have hpip := hpip c18
            try have hown := hown c18
            try simp only [Bool.or_eq_true, Bool.and_eq_true, Bool.or_eq_false_iff, Bool.not_eq_true', Bool.not_eq_false', decide_eq_true_eq, decide_eq_false_iff_not, beq_iff_eq, beq_eq_false_iff_ne, bne_iff_ne, bne_eq_false_iff_eq, ne_eq] at c18
            refine ⟨tq, h.cell 3 rfl rfl, ?_⟩
            refine ⟨tq, h.cell 3 rfl rfl, ?_⟩
            have h := h.drew
            refine (s72 h 4 rfl hb).mono ?_
            rintro _ w144 ⟨n145, rfl, ⟨pn145a, pn145b⟩, h⟩
            refine ⟨n145, rfl, ?_⟩
            refine ⟨⟨tq, h.cell 3 rfl rfl, (by first | rfl | trivial)⟩, ?_⟩
            refine ⟨by omega, ?_⟩
            refine ⟨by omega, ?_⟩
            obtain ⟨k19, rfl⟩ := Int.eq_ofNat_of_zero_le pn145a
            simp only [Int.toNat_natCast]
            have hgq147 : r.Pipes[k19]? = some r.Pipes[k19] := List.getElem?_eq_getElem (by omega)
            obtain ⟨q147, hqq147⟩ := h.rowQ 8 rfl hgq147
            have piq147 := pipeR hj hn (List.mem_of_getElem? hgq147)
            refine ⟨q147, hqq147, ?_⟩
            refine ⟨_, h.rdR 8 rfl hqq147 hgq147 rfl, ?_⟩
            refine SH.sO h 0 rfl (by decide) (by first | assumption | exact wrapR _ | (constructor <;> omega) | decide) (fun w149 h => ?_)
            refine JoinW.cut0 (fun w' => SH w0 w' (aOp w5.heap.size :: aI w2.heap.size 22 inR :: aB w1.heap.size ([.int .i64 0, .int .i64 0, .int .i64 0, .int .i64 0, .int .i64 0, .int .i64 0, .int .i64 0, .slice none 0 0].map Ce.v) :: aB w.heap.size ([.int .i64 r.Next, .slice tp.a tp.len tp.cap, .slice tc.a tc.len tc.cap, .slice tq.a tq.len tq.cap].map Ce.v) :: aC cb s :: rP tp r.Ports :: bP r.Ports :: rC tc r.Caps :: rQ tq r.Pipes :: bQ r.Pipes :: F)) ?_ ?_
            · skip
              refine SH.rO h 0 rfl (by decide) (fun n164 pn164 => ?_)
              refine BIf.of (fun c20 => ?_) (fun c20 => ?_)
              · skip
                try have hcap := hcap c20
                try have hpip := hpip c20
                try have hown := hown c20
                try simp only [Bool.or_eq_true, Bool.and_eq_true, Bool.or_eq_false_iff, Bool.not_eq_true', Bool.not_eq_false', decide_eq_true_eq, decide_eq_false_iff_not, beq_iff_eq, beq_eq_false_iff_ne, bne_iff_ne, bne_eq_false_iff_eq, ne_eq] at c20
                refine (s72 h 4 rfl hb).mono ?_
                rintro _ w166 ⟨n167, rfl, ⟨pn167a, pn167b⟩, h⟩
                refine ⟨n167, rfl, ?_⟩
                refine SH.sO h 0 rfl (by decide) (by first | assumption | exact wrapR _ | (constructor <;> omega) | decide) (fun w168 h => ?_)
                refine (s72 h 4 rfl hb).mono ?_
                rintro _ w170 ⟨n171, rfl, ⟨pn171a, pn171b⟩, h⟩
                refine ⟨n171, rfl, ?_⟩
                refine SH.sO h 0 rfl (by decide) (by first | assumption | exact wrapR _ | (constructor <;> omega) | decide) (fun w172 h => ?_)
                exact h
              · skip
                try have hcap := hcap c20
                try have hpip := hpip c20
                try have hown := hown c20
                try simp only [Bool.or_eq_true, Bool.and_eq_true, Bool.or_eq_false_iff, Bool.not_eq_true', Bool.not_eq_false', decide_eq_true_eq, decide_eq_false_iff_not, beq_iff_eq, beq_eq_false_iff_ne, bne_iff_ne, bne_eq_false_iff_eq, ne_eq] at c20
                exact h
            · clear h
              intro w151 h
              refine (s73 h 4 rfl hb).mono ?_
              rintro _ w153 ⟨b154, rfl, h⟩
              refine ⟨b154, rfl, ?_⟩
              refine BIf.of (fun c21 => ?_) (fun c21 => ?_)
              · skip
                try have hcap := hcap c21
                try have hpip := hpip c21
                try have hown := hown c21
                try simp only [Bool.or_eq_true, Bool.and_eq_true, Bool.or_eq_false_iff, Bool.not_eq_true', Bool.not_eq_false', decide_eq_true_eq, decide_eq_false_iff_not, beq_iff_eq, beq_eq_false_iff_ne, bne_iff_ne, bne_eq_false_iff_eq, ne_eq] at c21
                refine (s72 h 4 rfl hb).mono ?_
                rintro _ w156 ⟨n157, rfl, ⟨pn157a, pn157b⟩, h⟩
                refine ⟨n157, rfl, ?_⟩
                rw [w64 (n := 200 + n157) (by omega) (by omega)]
                refine ⟨by omega, ?_⟩
                refine ⟨by omega, ?_⟩
                refine ⟨by omega, ?_⟩
                refine ⟨by omega, ?_⟩
                refine SH.zeros h rfl (fun w158 h nw158 => ?_)
                have hzw158 : List.replicate (Int.toNat (200 + n157)) (ti5.zero.map Ce.v) = nums .u8 (List.replicate (Int.toNat (200 + n157)) 0) := zeroD (Int.toNat (200 + n157))
                rw [hzw158] at h
                refine SH.dO h 0 rfl (byR_zero (by omega)) (fun w159 h => ?_)
                refine (s72 h 4 rfl hb).mono ?_
                rintro _ w161 ⟨n162, rfl, ⟨pn162a, pn162b⟩, h⟩
                refine ⟨n162, rfl, ?_⟩
                refine SH.sO h 0 rfl (by decide) (by first | assumption | exact wrapR _ | (constructor <;> omega) | decide) (fun w163 h => ?_)
                exact h
              · skip
                try have hcap := hcap c21
                try have hpip := hpip c21
                try have hown := hown c21
                try simp only [Bool.or_eq_true, Bool.and_eq_true, Bool.or_eq_false_iff, Bool.not_eq_true', Bool.not_eq_false', decide_eq_true_eq, decide_eq_false_iff_not, beq_iff_eq, beq_eq_false_iff_ne, bne_iff_ne, bne_eq_false_iff_eq, ne_eq] at c21
                exact h
          · skip
            try have hcap := hcap c18
            try have hpip := hpip c18
            try have hown := hown c18
            try simp only [Bool.or_eq_true, Bool.and_eq_true, Bool.or_eq_false_iff, Bool.not_eq_true', Bool.not_eq_false', decide_eq_true_eq, decide_eq_false_iff_not, beq_iff_eq, beq_eq_false_iff_ne, bne_iff_ne, bne_eq_false_iff_eq, ne_eq] at c18
            exact h
      · clear h
        intro w39 h
        refine JoinW.cut0 (fun w' => SH w0 w' (aOp w5.heap.size :: aI w2.heap.size 22 inR :: aB w1.heap.size ([.int .i64 0, .int .i64 0, .int .i64 0, .int .i64 0, .int .i64 0, .int .i64 0, .int .i64 0, .slice none 0 0].map Ce.v) :: aB w.heap.size ([.int .i64 r.Next, .slice tp.a tp.len tp.cap, .slice tc.a tc.len tc.cap, .slice tq.a tq.len tq.cap].map Ce.v) :: aC cb s :: rP tp r.Ports :: bP r.Ports :: rC tc r.Caps :: rQ tq r.Pipes :: bQ r.Pipes :: F)) ?_ ?_
        · skip
          refine (s73 h 4 rfl hb).mono ?_
          rintro _ w130 ⟨b131, rfl, h⟩
          refine ⟨b131, rfl, ?_⟩
          refine BIf.of (fun c22 => ?_) (fun c22 => ?_)
          · skip
            try have hcap := hcap c22
            try have hpip := hpip c22
            try have hown := hown c22
            try simp only [Bool.or_eq_true, Bool.and_eq_true, Bool.or_eq_false_iff, Bool.not_eq_true', Bool.not_eq_false', decide_eq_true_eq, decide_eq_false_iff_not, beq_iff_eq, beq_eq_false_iff_ne, bne_iff_ne, bne_eq_false_iff_eq, ne_eq] at c22
            refine (s72 h 4 rfl hb).mono ?_
            rintro _ w133 ⟨n134, rfl, ⟨pn134a, pn134b⟩, h⟩
            refine ⟨n134, rfl, ?_⟩
            rw [w64 (n := 63 + n134) (by omega) (by omega)]
            refine ⟨by omega, ?_⟩
            refine ⟨by omega, ?_⟩
            refine ⟨by omega, ?_⟩
            refine ⟨by omega, ?_⟩
            refine SH.zeros h rfl (fun w135 h nw135 => ?_)
            have hzw135 : List.replicate (Int.toNat (63 + n134)) (ti5.zero.map Ce.v) = nums .u8 (List.replicate (Int.toNat (63 + n134)) 0) := zeroD (Int.toNat (63 + n134))
            rw [hzw135] at h
            refine SH.dO h 0 rfl (byR_zero (by omega)) (fun w136 h => ?_)
            exact h
          · skip
            try have hcap := hcap c22
            try have hpip := hpip c22
            try have hown := hown c22
            try simp only [Bool.or_eq_true, Bool.and_eq_true, Bool.or_eq_false_iff, Bool.not_eq_true', Bool.not_eq_false', decide_eq_true_eq, decide_eq_false_iff_not, beq_iff_eq, beq_eq_false_iff_ne, bne_iff_ne, bne_eq_false_iff_eq, ne_eq] at c22
            exact h
        · clear h
          intro w41 h
          refine JoinW.cut0 (fun w' => SH w0 w' (aOp w5.heap.size :: aI w2.heap.size 22 inR :: aB w1.heap.size ([.int .i64 0, .int .i64 0, .int .i64 0, .int .i64 0, .int .i64 0, .int .i64 0, .int .i64 0, .slice none 0 0].map Ce.v) :: aB w.heap.size ([.int .i64 r.Next, .slice tp.a tp.len tp.cap, .slice tc.a tc.len tc.cap, .slice tq.a tq.len tq.cap].map Ce.v) :: aC cb s :: rP tp r.Ports :: bP r.Ports :: rC tc r.Caps :: rQ tq r.Pipes :: bQ r.Pipes :: F)) ?_ ?_
          · skip
            refine (s73 h 4 rfl hb).mono ?_
            rintro _ w120 ⟨b121, rfl, h⟩
            refine ⟨b121, rfl, ?_⟩
            refine BIf.of (fun c23 => ?_) (fun c23 => ?_)
            · skip
              try have hcap := hcap c23
              try have hpip := hpip c23
              try have hown := hown c23
              try simp only [Bool.or_eq_true, Bool.and_eq_true, Bool.or_eq_false_iff, Bool.not_eq_true', Bool.not_eq_false', decide_eq_true_eq, decide_eq_false_iff_not, beq_iff_eq, beq_eq_false_iff_ne, bne_iff_ne, bne_eq_false_iff_eq, ne_eq] at c23
              refine h.alloc (fun w122 h ew122 nw122 => ?_)
              have h : SH w0 w122 (aI w120.heap.size 4 inR :: aOp w5.heap.size :: aI w2.heap.size 22 inR :: aB w1.heap.size ([.int .i64 0, .int .i64 0, .int .i64 0, .int .i64 0, .int .i64 0, .int .i64 0, .int .i64 0, .slice none 0 0].map Ce.v) :: aB w.heap.size ([.int .i64 r.Next, .slice tp.a tp.len tp.cap, .slice tc.a tc.len tc.cap, .slice tq.a tq.len tq.cap].map Ce.v) :: aC cb s :: rP tp r.Ports :: bP r.Ports :: rC tc r.Caps :: rQ tq r.Pipes :: bQ r.Pipes :: F) := h.toI 0 [(-1), 63, 64, 4611686018427387904] rfl rfl (by intro x hx; simp only [List.mem_cons, List.not_mem_nil, or_false] at hx; rcases hx with rfl | rfl | rfl | rfl <;> first | assumption | exact wrapR _ | (constructor <;> omega))
              refine (s72 h 5 rfl hb).mono ?_
              rintro _ w124 ⟨n125, rfl, ⟨pn125a, pn125b⟩, h⟩
              refine ⟨n125, rfl, ?_⟩
              refine ⟨by omega, ?_⟩
              refine ⟨by omega, ?_⟩
              refine ⟨_, rfl, ?_⟩
              obtain ⟨k24, rfl⟩ := Int.eq_ofNat_of_zero_le pn125a
              rw [Int.toNat_natCast]
              refine h.rIx 0 rfl (by omega) (fun n127 pn127 => ?_)
              refine SH.sO h 1 rfl (by decide) (by first | assumption | exact wrapR _ | (constructor <;> omega) | decide) (fun w128 h => ?_)
              exact h.drop
            · skip
              try have hcap := hcap c23
              try have hpip := hpip c23
              try have hown := hown c23
              try simp only [Bool.or_eq_true, Bool.and_eq_true, Bool.or_eq_false_iff, Bool.not_eq_true', Bool.not_eq_false', decide_eq_true_eq, decide_eq_false_iff_not, beq_iff_eq, beq_eq_false_iff_ne, bne_iff_ne, bne_eq_false_iff_eq, ne_eq] at c23
              exact h
          · clear h
            intro w43 h
            refine JoinW.cut0 (fun w' => SH w0 w' (aOp w5.heap.size :: aI w2.heap.size 22 inR :: aB w1.heap.size ([.int .i64 0, .int .i64 0, .int .i64 0, .int .i64 0, .int .i64 0, .int .i64 0, .int .i64 0, .slice none 0 0].map Ce.v) :: aB w.heap.size ([.int .i64 r.Next, .slice tp.a tp.len tp.cap, .slice tc.a tc.len tc.cap, .slice tq.a tq.len tq.cap].map Ce.v) :: aC cb s :: rP tp r.Ports :: bP r.Ports :: rC tc r.Caps :: rQ tq r.Pipes :: bQ r.Pipes :: F)) ?_ ?_
            · skip
              refine (s73 h 4 rfl hb).mono ?_
              rintro _ w110 ⟨b111, rfl, h⟩
              refine ⟨b111, rfl, ?_⟩
              refine BIf.of (fun c25 => ?_) (fun c25 => ?_)
              · skip
                try have hcap := hcap c25
                try have hpip := hpip c25
                try have hown := hown c25
                try simp only [Bool.or_eq_true, Bool.and_eq_true, Bool.or_eq_false_iff, Bool.not_eq_true', Bool.not_eq_false', decide_eq_true_eq, decide_eq_false_iff_not, beq_iff_eq, beq_eq_false_iff_ne, bne_iff_ne, bne_eq_false_iff_eq, ne_eq] at c25
                refine h.alloc (fun w112 h ew112 nw112 => ?_)
                have h : SH w0 w112 (aI w110.heap.size 5 inR :: aOp w5.heap.size :: aI w2.heap.size 22 inR :: aB w1.heap.size ([.int .i64 0, .int .i64 0, .int .i64 0, .int .i64 0, .int .i64 0, .int .i64 0, .int .i64 0, .slice none 0 0].map Ce.v) :: aB w.heap.size ([.int .i64 r.Next, .slice tp.a tp.len tp.cap, .slice tc.a tc.len tc.cap, .slice tq.a tq.len tq.cap].map Ce.v) :: aC cb s :: rP tp r.Ports :: bP r.Ports :: rC tc r.Caps :: rQ tq r.Pipes :: bQ r.Pipes :: F) := h.toI 0 [(-1), 63, 64, (-64), (-4611686018427387904)] rfl rfl (by intro x hx; simp only [List.mem_cons, List.not_mem_nil, or_false] at hx; rcases hx with rfl | rfl | rfl | rfl | rfl <;> first | assumption | exact wrapR _ | (constructor <;> omega))
                refine (s72 h 5 rfl hb).mono ?_
                rintro _ w114 ⟨n115, rfl, ⟨pn115a, pn115b⟩, h⟩
                refine ⟨n115, rfl, ?_⟩
                refine ⟨by omega, ?_⟩
                refine ⟨by omega, ?_⟩
                refine ⟨_, rfl, ?_⟩
                obtain ⟨k26, rfl⟩ := Int.eq_ofNat_of_zero_le pn115a
                rw [Int.toNat_natCast]
                refine h.rIx 0 rfl (by omega) (fun n117 pn117 => ?_)
                refine SH.sO h 1 rfl (by decide) (by first | assumption | exact wrapR _ | (constructor <;> omega) | decide) (fun w118 h => ?_)
                exact h.drop
              · skip
                try have hcap := hcap c25
                try have hpip := hpip c25
                try have hown := hown c25
                try simp only [Bool.or_eq_true, Bool.and_eq_true, Bool.or_eq_false_iff, Bool.not_eq_true', Bool.not_eq_false', decide_eq_true_eq, decide_eq_false_iff_not, beq_iff_eq, beq_eq_false_iff_ne, bne_iff_ne, bne_eq_false_iff_eq, ne_eq] at c25
                exact h
            · clear h
              intro w45 h
              refine JoinW.cut0 (fun w' => SH w0 w' (aOp w5.heap.size :: aI w2.heap.size 22 inR :: aB w1.heap.size ([.int .i64 0, .int .i64 0, .int .i64 0, .int .i64 0, .int .i64 0, .int .i64 0, .int .i64 0, .slice none 0 0].map Ce.v) :: aB w.heap.size ([.int .i64 r.Next, .slice tp.a tp.len tp.cap, .slice tc.a tc.len tc.cap, .slice tq.a tq.len tq.cap].map Ce.v) :: aC cb s :: rP tp r.Ports :: bP r.Ports :: rC tc r.Caps :: rQ tq r.Pipes :: bQ r.Pipes :: F)) ?_ ?_
              · skip
                refine (s73 h 4 rfl hb).mono ?_
                rintro _ w100 ⟨b101, rfl, h⟩
                refine ⟨b101, rfl, ?_⟩
                refine BIf.of (fun c27 => ?_) (fun c27 => ?_)
                · skip
                  try have hcap := hcap c27
                  try have hpip := hpip c27
                  try have hown := hown c27
                  try simp only [Bool.or_eq_true, Bool.and_eq_true, Bool.or_eq_false_iff, Bool.not_eq_true', Bool.not_eq_false', decide_eq_true_eq, decide_eq_false_iff_not, beq_iff_eq, beq_eq_false_iff_ne, bne_iff_ne, bne_eq_false_iff_eq, ne_eq] at c27
                  refine h.alloc (fun w102 h ew102 nw102 => ?_)
                  have h : SH w0 w102 (aI w100.heap.size 5 inR :: aOp w5.heap.size :: aI w2.heap.size 22 inR :: aB w1.heap.size ([.int .i64 0, .int .i64 0, .int .i64 0, .int .i64 0, .int .i64 0, .int .i64 0, .int .i64 0, .slice none 0 0].map Ce.v) :: aB w.heap.size ([.int .i64 r.Next, .slice tp.a tp.len tp.cap, .slice tc.a tc.len tc.cap, .slice tq.a tq.len tq.cap].map Ce.v) :: aC cb s :: rP tp r.Ports :: bP r.Ports :: rC tc r.Caps :: rQ tq r.Pipes :: bQ r.Pipes :: F) := h.toI 0 [(-1), 1024, 1025, 64, (-65)] rfl rfl (by intro x hx; simp only [List.mem_cons, List.not_mem_nil, or_false] at hx; rcases hx with rfl | rfl | rfl | rfl | rfl <;> first | assumption | exact wrapR _ | (constructor <;> omega))
                  refine (s72 h 5 rfl hb).mono ?_
                  rintro _ w104 ⟨n105, rfl, ⟨pn105a, pn105b⟩, h⟩
                  refine ⟨n105, rfl, ?_⟩
                  refine ⟨by omega, ?_⟩
                  refine ⟨by omega, ?_⟩
                  refine ⟨_, rfl, ?_⟩
                  obtain ⟨k28, rfl⟩ := Int.eq_ofNat_of_zero_le pn105a
                  rw [Int.toNat_natCast]
                  refine h.rIx 0 rfl (by omega) (fun n107 pn107 => ?_)
                  refine SH.sO h 1 rfl (by decide) (by first | assumption | exact wrapR _ | (constructor <;> omega) | decide) (fun w108 h => ?_)
                  exact h.drop
                · skip
                  try have hcap := hcap c27
                  try have hpip := hpip c27
                  try have hown := hown c27
                  try simp only [Bool.or_eq_true, Bool.and_eq_true, Bool.or_eq_false_iff, Bool.not_eq_true', Bool.not_eq_false', decide_eq_true_eq, decide_eq_false_iff_not, beq_iff_eq, beq_eq_false_iff_ne, bne_iff_ne, bne_eq_false_iff_eq, ne_eq] at c27
                  exact h
              · clear h
                intro w47 h
                refine JoinW.cut0 (fun w' => SH w0 w' (aOp w5.heap.size :: aI w2.heap.size 22 inR :: aB w1.heap.size ([.int .i64 0, .int .i64 0, .int .i64 0, .int .i64 0, .int .i64 0, .int .i64 0, .int .i64 0, .slice none 0 0].map Ce.v) :: aB w.heap.size ([.int .i64 r.Next, .slice tp.a tp.len tp.cap, .slice tc.a tc.len tc.cap, .slice tq.a tq.len tq.cap].map Ce.v) :: aC cb s :: rP tp r.Ports :: bP r.Ports :: rC tc r.Caps :: rQ tq r.Pipes :: bQ r.Pipes :: F)) ?_ ?_
                · skip
                  refine (s73 h 4 rfl hb).mono ?_
                  rintro _ w90 ⟨b91, rfl, h⟩
                  refine ⟨b91, rfl, ?_⟩
                  refine BIf.of (fun c29 => ?_) (fun c29 => ?_)
                  · skip
                    try have hcap := hcap c29
                    try have hpip := hpip c29
                    try have hown := hown c29
                    try simp only [Bool.or_eq_true, Bool.and_eq_true, Bool.or_eq_false_iff, Bool.not_eq_true', Bool.not_eq_false', decide_eq_true_eq, decide_eq_false_iff_not, beq_iff_eq, beq_eq_false_iff_ne, bne_iff_ne, bne_eq_false_iff_eq, ne_eq] at c29
                    refine h.alloc (fun w92 h ew92 nw92 => ?_)
                    have h : SH w0 w92 (aI w90.heap.size 3 inR :: aOp w5.heap.size :: aI w2.heap.size 22 inR :: aB w1.heap.size ([.int .i64 0, .int .i64 0, .int .i64 0, .int .i64 0, .int .i64 0, .int .i64 0, .int .i64 0, .slice none 0 0].map Ce.v) :: aB w.heap.size ([.int .i64 r.Next, .slice tp.a tp.len tp.cap, .slice tc.a tc.len tc.cap, .slice tq.a tq.len tq.cap].map Ce.v) :: aC cb s :: rP tp r.Ports :: bP r.Ports :: rC tc r.Caps :: rQ tq r.Pipes :: bQ r.Pipes :: F) := h.toI 0 [0, 8, (-1)] rfl rfl (by intro x hx; simp only [List.mem_cons, List.not_mem_nil, or_false] at hx; rcases hx with rfl | rfl | rfl <;> first | assumption | exact wrapR _ | (constructor <;> omega))
                    refine (s72 h 5 rfl hb).mono ?_
                    rintro _ w94 ⟨n95, rfl, ⟨pn95a, pn95b⟩, h⟩
                    refine ⟨n95, rfl, ?_⟩
                    refine ⟨by omega, ?_⟩
                    refine ⟨by omega, ?_⟩
                    refine ⟨_, rfl, ?_⟩
                    obtain ⟨k30, rfl⟩ := Int.eq_ofNat_of_zero_le pn95a
                    rw [Int.toNat_natCast]
                    refine h.rIx 0 rfl (by omega) (fun n97 pn97 => ?_)
                    refine SH.sO h 1 rfl (by decide) (by first | assumption | exact wrapR _ | (constructor <;> omega) | decide) (fun w98 h => ?_)
                    exact h.drop
                  · skip
                    try have hcap := hcap c29
                    try have hpip := hpip c29
                    try have hown := hown c29
                    try simp only [Bool.or_eq_true, Bool.and_eq_true, Bool.or_eq_false_iff, Bool.not_eq_true', Bool.not_eq_false', decide_eq_true_eq, decide_eq_false_iff_not, beq_iff_eq, beq_eq_false_iff_ne, bne_iff_ne, bne_eq_false_iff_eq, ne_eq] at c29
                    exact h
                · clear h
                  intro w49 h
                  refine JoinW.cut0 (fun w' => SH w0 w' (aOp w5.heap.size :: aI w2.heap.size 22 inR :: aB w1.heap.size ([.int .i64 0, .int .i64 0, .int .i64 0, .int .i64 0, .int .i64 0, .int .i64 0, .int .i64 0, .slice none 0 0].map Ce.v) :: aB w.heap.size ([.int .i64 r.Next, .slice tp.a tp.len tp.cap, .slice tc.a tc.len tc.cap, .slice tq.a tq.len tq.cap].map Ce.v) :: aC cb s :: rP tp r.Ports :: bP r.Ports :: rC tc r.Caps :: rQ tq r.Pipes :: bQ r.Pipes :: F)) ?_ ?_
                  · skip
                    refine (s73 h 4 rfl hb).mono ?_
                    rintro _ w82 ⟨b83, rfl, h⟩
                    refine ⟨b83, rfl, ?_⟩
                    refine BIf.of (fun c31 => ?_) (fun c31 => ?_)
                    · skip
                      try have hcap := hcap c31
                      try have hpip := hpip c31
                      try have hown := hown c31
                      try simp only [Bool.or_eq_true, Bool.and_eq_true, Bool.or_eq_false_iff, Bool.not_eq_true', Bool.not_eq_false', decide_eq_true_eq, decide_eq_false_iff_not, beq_iff_eq, beq_eq_false_iff_ne, bne_iff_ne, bne_eq_false_iff_eq, ne_eq] at c31
                      refine ⟨_, h.cell 3 rfl rfl, ?_⟩
                      rw [w64 (n := r.Next + 2) (by omega) (by omega)]
                      refine (s72 h 4 rfl hb).mono ?_
                      rintro _ w86 ⟨n87, rfl, ⟨pn87a, pn87b⟩, h⟩
                      refine ⟨n87, rfl, ?_⟩
                      refine SH.sO h 0 rfl (by decide) (by first | assumption | exact wrapR _ | (constructor <;> omega) | decide) (fun w88 h => ?_)
                      exact h
                    · skip
                      try have hcap := hcap c31
                      try have hpip := hpip c31
                      try have hown := hown c31
                      try simp only [Bool.or_eq_true, Bool.and_eq_true, Bool.or_eq_false_iff, Bool.not_eq_true', Bool.not_eq_false', decide_eq_true_eq, decide_eq_false_iff_not, beq_iff_eq, beq_eq_false_iff_ne, bne_iff_ne, bne_eq_false_iff_eq, ne_eq] at c31
                      exact h
                  · clear h
                    intro w51 h
                    refine JoinW.cut0 (fun w' => SH w0 w' (aOp w5.heap.size :: aI w2.heap.size 22 inR :: aB w1.heap.size ([.int .i64 0, .int .i64 0, .int .i64 0, .int .i64 0, .int .i64 0, .int .i64 0, .int .i64 0, .slice none 0 0].map Ce.v) :: aB w.heap.size ([.int .i64 r.Next, .slice tp.a tp.len tp.cap, .slice tc.a tc.len tc.cap, .slice tq.a tq.len tq.cap].map Ce.v) :: aC cb s :: rP tp r.Ports :: bP r.Ports :: rC tc r.Caps :: rQ tq r.Pipes :: bQ r.Pipes :: F)) ?_ ?_
                    · skip
                      refine (s73 h 4 rfl hb).mono ?_
                      rintro _ w72 ⟨b73, rfl, h⟩
                      refine ⟨b73, rfl, ?_⟩
                      refine BIf.of (fun c32 => ?_) (fun c32 => ?_)
                      · skip
                        try have hcap := hcap c32
                        try have hpip := hpip c32
                        try have hown := hown c32
                        try simp only [Bool.or_eq_true, Bool.and_eq_true, Bool.or_eq_false_iff, Bool.not_eq_true', Bool.not_eq_false', decide_eq_true_eq, decide_eq_false_iff_not, beq_iff_eq, beq_eq_false_iff_ne, bne_iff_ne, bne_eq_false_iff_eq, ne_eq] at c32
                        refine h.alloc (fun w74 h ew74 nw74 => ?_)
                        have h : SH w0 w74 (aI w72.heap.size 3 inR :: aOp w5.heap.size :: aI w2.heap.size 22 inR :: aB w1.heap.size ([.int .i64 0, .int .i64 0, .int .i64 0, .int .i64 0, .int .i64 0, .int .i64 0, .int .i64 0, .slice none 0 0].map Ce.v) :: aB w.heap.size ([.int .i64 r.Next, .slice tp.a tp.len tp.cap, .slice tc.a tc.len tc.cap, .slice tq.a tq.len tq.cap].map Ce.v) :: aC cb s :: rP tp r.Ports :: bP r.Ports :: rC tc r.Caps :: rQ tq r.Pipes :: bQ r.Pipes :: F) := h.toI 0 [0, 12, (-1)] rfl rfl (by intro x hx; simp only [List.mem_cons, List.not_mem_nil, or_false] at hx; rcases hx with rfl | rfl | rfl <;> first | assumption | exact wrapR _ | (constructor <;> omega))
                        refine (s72 h 5 rfl hb).mono ?_
                        rintro _ w76 ⟨n77, rfl, ⟨pn77a, pn77b⟩, h⟩
                        refine ⟨n77, rfl, ?_⟩
                        refine ⟨by omega, ?_⟩
                        refine ⟨by omega, ?_⟩
                        refine ⟨_, rfl, ?_⟩
                        obtain ⟨k33, rfl⟩ := Int.eq_ofNat_of_zero_le pn77a
                        rw [Int.toNat_natCast]
                        refine h.rIx 0 rfl (by omega) (fun n79 pn79 => ?_)
                        refine SH.sO h 1 rfl (by decide) (by first | assumption | exact wrapR _ | (constructor <;> omega) | decide) (fun w80 h => ?_)
                        exact h.drop
                      · skip
                        try have hcap := hcap c32
                        try have hpip := hpip c32
                        try have hown := hown c32
                        try simp only [Bool.or_eq_true, Bool.and_eq_true, Bool.or_eq_false_iff, Bool.not_eq_true', Bool.not_eq_false', decide_eq_true_eq, decide_eq_false_iff_not, beq_iff_eq, beq_eq_false_iff_ne, bne_iff_ne, bne_eq_false_iff_eq, ne_eq] at c32
                        exact h
                    · clear h
                      intro w53 h
                      obtain ⟨o_, td_, ho_, h⟩ := SH.opnO h 0 rfl
                      refine ⟨_, h.cell 0 rfl rfl, ?_⟩
                      refine ⟨_, h.cell 0 rfl rfl, ?_⟩
                      refine ⟨_, h.cell 0 rfl rfl, ?_⟩
                      refine ⟨_, h.cell 0 rfl rfl, ?_⟩
                      refine ⟨_, h.cell 0 rfl rfl, ?_⟩
                      refine ⟨_, h.cell 0 rfl rfl, ?_⟩
                      refine ⟨_, h.cell 0 rfl rfl, ?_⟩
                      refine ⟨td_, h.cell 0 rfl rfl, ?_⟩
                      refine h.put 3 rfl rfl rfl (fun w62 h nw62 => ?_)
                      refine ⟨_, h.cell 3 rfl rfl, ?_⟩
                      refine ⟨_, h.cell 3 rfl rfl, ?_⟩
                      refine ⟨_, h.cell 3 rfl rfl, ?_⟩
                      refine ⟨_, h.cell 3 rfl rfl, ?_⟩
                      refine ⟨_, h.cell 3 rfl rfl, ?_⟩
                      refine ⟨_, h.cell 3 rfl rfl, ?_⟩
                      refine ⟨_, h.cell 3 rfl rfl, ?_⟩
                      refine ⟨td_, h.cell 3 rfl rfl, ?_⟩
                      exact ⟨o_, td_, rfl, ho_, ((((h.dropAt 4).dropAt 3).dropAt 2).dropAt 0)⟩
end Go.Proofs.Ytbimoajgofcmbaa

/- Draws of ports: a run of operations. Conditions: none. -/
set_option linter.unusedVariables false
set_option linter.unusedSimpArgs false
set_option maxRecDepth 4000
namespace Go.Proofs.Ytbimoajgofcmbaa
open Go Go.Den
theorem LentB.own {w0 : World} {F : List Asr} {t : Sl} {l : List Int} (i : Nat) (hF : F[i]? = some (rD t l)) {w : World} {As : List Asr} (g : SH w0 w As) (hA : ∃ P, As = P ++ F) : LentB w0 F t l := by
  have at_ : ∀ {As : List Asr}, (∃ P, As = P ++ F) → ∃ n, As[n]? = some (rD t l) := fun ⟨P, hP⟩ => ⟨P.length + i, by rw [hP, List.getElem?_append_right (by omega), Nat.add_sub_cancel_left]; exact hF⟩
  obtain ⟨n, hn⟩ := at_ hA
  exact ⟨by rw [g.len n hn, nums_len], g.lenCap n hn, fun g2 h2 => by obtain ⟨m, hm⟩ := at_ h2; exact g2.rowN m hm⟩
structure ROp where
  o : DIpcOp
  t : Sl
def ROp.cells (x : ROp) : List Value := opV x.o x.t
def opA (x : ROp) : Asr := rD x.t x.o.Data
abbrev rO (t : Sl) (l : List ROp) : Asr := aRow t 8 (recs ROp.cells l)
abbrev bO (l : List ROp) : Asr := aBag opA l
theorem plain_op (x : ROp) : ∀ v, v ∈ x.cells → plainB v = true := fun v hv => by
  simp only [ROp.cells, opV, List.mem_cons, List.not_mem_nil, or_false] at hv
  rcases hv with rfl | rfl | rfl | rfl | rfl | rfl | rfl | rfl <;> rfl
structure OpsG (rs : List ROp) : Prop where
  wf : ∀ x, x ∈ rs → OpR x.o
theorem OpsG.snoc {rs : List ROp} {x : ROp} (h : OpsG rs) (hx : OpR x.o) : OpsG (rs ++ [x]) := ⟨fun y hy => by
  rcases List.mem_append.1 hy with hy | hy
  · exact h.wf y hy
  · rw [List.mem_singleton.1 hy]; exact hx⟩
set_option maxHeartbeats 2000000 in
theorem s71 {w0 w : World} {F : List Asr} {cb : Nat} {s : Sl} {n : Int} (h : SH w0 w (aC cb s :: F)) (hb : CurB w0 s) (hn : n ≤ 60) :
    CallW Try.prog 71 #[.pointer (some ⟨cb, 0, none⟩), .int .i64 n] w (fun v w' => ∃ (tp tc tq l : Sl) (N : Int) (rs : List ROp), v = .tuple #[iV N tp tc tq, .slice l.a l.len l.cap] ∧ rs.length ≤ 60 ∧ OpsG rs ∧ SH w0 w' (aC cb s :: rO l rs :: bO rs :: F)) := by
  refine go71 ?_
  unfold W71
  refine h.alloc (fun w1 h e1 n1 => ?_)
  refine h.alloc (fun w2 h e2 n2 => ?_)
  refine h.put 0 rfl rfl rfl (fun w3 h n3 => ?_)
  refine h.alloc (fun w4 h e4 n4 => ?_)
  have h : SH w0 w4 (aC cb s :: rP N0 [] :: bP [] :: rC N0 [] :: rQ N0 [] :: bQ [] :: BI w1.heap.size 0 N0 N0 N0 :: BI w.heap.size 0 N0 N0 N0 :: rO ⟨some ⟨w3.heap.size, 0, none⟩, 0, 0⟩ [] :: bO [] :: F) := by
    have h := (((emptyS h.drop).bagNil opA).nil (some ⟨w3.heap.size, 0, none⟩) 8)
    exact ((((((((((h.front (n := 1) rfl).front (n := 1) rfl).front (n := 8) rfl).front (n := 8) rfl).front (n := 8) rfl).front (n := 8) rfl).front (n := 8) rfl).front (n := 8) rfl).front (n := 8) rfl).front (n := 9) rfl)
  generalize w1.heap.size = b1 at *
  generalize w.heap.size = b0 at *
  refine LoopW.m2 (fun (l : Sl) (i : Int) w' => ∃ (k : Nat) (rs : List ROp) (r : RIpc) (tp tc tq : Sl), i = k ∧ k ≤ 60 ∧ rs.length = k ∧ OpsG rs ∧ J0 r.abs ∧ HasJ r.abs ∧ r.abs.Next ≤ 2 * (k : Int) ∧ SH w0 w' (aC cb s :: rP tp r.Ports :: bP r.Ports :: rC tc r.Caps :: rQ tq r.Pipes :: bQ r.Pipes :: BI b1 r.Next tp tc tq :: BI b0 0 N0 N0 N0 :: rO l rs :: bO rs :: F)) (fun _ (i : Int) _ => (n - i).toNat) ⟨0, [], ⟨0, [], [], []⟩, N0, N0, N0, rfl, by omega, rfl, ⟨fun x hx => by simp at hx⟩, j_empty.1, j_empty.2, by show (0 : Int) ≤ _; omega, h⟩ ?_
  clear h
  rintro (l : Sl) (i : Int) w8 ⟨k, rs, r, tp, tc, tq, rfl, hk, hrl, hg, hj, hh, hnx, h⟩ J hJ
  have hn0 := hj.nx
  refine BIf.dec (fun hlt => ?_) (fun hge => ?_)
  · refine ⟨_, h.cell 6 rfl rfl, tp, h.cell 6 rfl rfl, tc, h.cell 6 rfl rfl, tq, h.cell 6 rfl rfl, ?_⟩
    refine (s101 h hb hj (by omega)).mono ?_
    rintro _ w14 ⟨o, td, rfl, ho, h⟩
    refine ⟨_, _, _, _, _, _, _, td, rfl, ?_⟩
    refine h.alloc (fun w23 h e23 n23 => ?_)
    refine h.put 0 rfl rfl rfl (fun w24 h n24 => ?_)
    have h : SH w0 w24 (BO w14.heap.size o td :: rD td o.Data :: aC cb s :: rP tp r.Ports :: bP r.Ports :: rC tc r.Caps :: rQ tq r.Pipes :: bQ r.Pipes :: BI b1 r.Next tp tc tq :: BI b0 0 N0 N0 N0 :: rO l rs :: bO rs :: F) := h
    refine ⟨_, h.cell 0 rfl rfl, _, h.cell 0 rfl rfl, _, h.cell 0 rfl rfl, _, h.cell 0 rfl rfl, _, h.cell 0 rfl rfl, _, h.cell 0 rfl rfl, _, h.cell 0 rfl rfl, td, h.cell 0 rfl rfl, ?_⟩
    have h := (((((((((((h.front (n := 9) rfl).front (n := 9) rfl).front (n := 9) rfl).front (n := 9) rfl).front (n := 9) rfl).front (n := 9) rfl).front (n := 9) rfl).front (n := 9) rfl).front (n := 9) rfl).front (n := 9) rfl).front (n := 10) rfl)
    refine LetW_iff.2 (SH.appendR1 (f := ROp.cells) (x := ⟨o, td⟩) h rfl rfl rfl (by decide) (by show (_ + _) * 80 ≤ _; omega) (plain_op _) (fun l2 w35 h hl2 _ => ?_))
    have h : SH w0 w35 (rP tp r.Ports :: bP r.Ports :: rC tc r.Caps :: rQ tq r.Pipes :: bQ r.Pipes :: rD td o.Data :: BO w14.heap.size o td :: aC cb s :: BI b1 r.Next tp tc tq :: BI b0 0 N0 N0 N0 :: rO l2 (rs ++ [⟨o, td⟩]) :: bO rs :: F) := (((((((((((h.front (n := 0) rfl).front (n := 10) rfl).front (n := 10) rfl).front (n := 5) rfl).front (n := 4) rfl).front (n := 5) rfl).front (n := 10) rfl).front (n := 10) rfl).front (n := 10) rfl).front (n := 10) rfl).front (n := 10) rfl)
    refine ⟨_, h.cell 8 rfl rfl, tp, h.cell 8 rfl rfl, tc, h.cell 8 rfl rfl, tq, h.cell 8 rfl rfl, _, h.cell 6 rfl rfl, _, h.cell 6 rfl rfl, _, h.cell 6 rfl rfl, _, h.cell 6 rfl rfl, _, h.cell 6 rfl rfl, _, h.cell 6 rfl rfl, _, h.cell 6 rfl rfl, td, h.cell 6 rfl rfl, ?_⟩
    have hs := step_j (o := o) hj hh (by omega) ho.by_.rng
    refine (s67 (r := r) (o := o) (F := rD td o.Data :: BO w14.heap.size o td :: aC cb s :: BI b1 r.Next tp tc tq :: BI b0 0 N0 N0 N0 :: rO l2 (rs ++ [⟨o, td⟩]) :: bO rs :: F) h hj.wf (hj.iok hh (by omega)) (LentB.own 0 rfl h ⟨[_, _, _, _, _], rfl⟩) (by have := ho.by_.few; omega)).mono ?_
    generalize stepI r.abs o = res at *
    rintro _ w49 ⟨tp2, tc2, tq2, t, r2, rfl, hr2, h⟩
    refine ⟨_, tp2, tc2, tq2, _, _, t, _, rfl, ?_⟩
    refine h.alloc (fun w58 h e58 n58 => ?_)
    refine h.alloc (fun w59 h e59 n59 => ?_)
    refine h.put 1 rfl rfl rfl (fun w60 h n60 => ?_)
    refine h.put 0 rfl rfl rfl (fun w61 h n61 => ?_)
    refine ⟨_, h.cell 1 rfl rfl, tp2, h.cell 1 rfl rfl, tc2, h.cell 1 rfl rfl, tq2, h.cell 1 rfl rfl, ?_⟩
    have h : SH w0 w61 (BR w58.heap.size res.2.Code res.2.N t res.2.From :: BI w49.heap.size r2.Next tp2 tc2 tq2 :: rD t res.2.Data :: rP tp2 r2.Ports :: bP r2.Ports :: rC tc2 r2.Caps :: rQ tq2 r2.Pipes :: bQ r2.Pipes :: rD td o.Data :: BO w14.heap.size o td :: aC cb s :: BI b1 r.Next tp tc tq :: BI b0 0 N0 N0 N0 :: rO l2 (rs ++ [⟨o, td⟩]) :: bO rs :: F) := h
    refine h.put 11 rfl rfl rfl (fun w66 h n66 => ?_)
    rw [w64 (n := (k : Int) + 1) (by omega) (by omega)]
    have h : SH w0 w66 (rD td o.Data :: bO rs :: aC cb s :: rP tp2 r2.Ports :: bP r2.Ports :: rC tc2 r2.Caps :: rQ tq2 r2.Pipes :: bQ r2.Pipes :: BI b1 r2.Next tp2 tc2 tq2 :: BI b0 0 N0 N0 N0 :: rO l2 (rs ++ [⟨o, td⟩]) :: F) := (((((((((((((((h.dropAt 9).dropAt 2).dropAt 1).dropAt 0).front (n := 9) rfl).front (n := 9) rfl).front (n := 9) rfl).front (n := 7) rfl).front (n := 7) rfl).front (n := 7) rfl).front (n := 7) rfl).front (n := 7) rfl).front (n := 9) rfl).front (n := 10) rfl).front (n := 10) rfl)
    have h := SH.bagSnoc (f := opA) (x := (⟨o, td⟩ : ROp)) h
    have hn2 := hs.nx
    refine hJ _ _ _ ⟨k + 1, rs ++ [⟨o, td⟩], r2, tp2, tc2, tq2, by omega, by omega, by rw [List.length_append, hrl]; rfl, hg.snoc ho, by rw [hr2]; exact hs.j, by rw [hr2]; exact hs.has, by rw [hr2]; omega, ?_⟩ (by omega)
    exact ((((((((((h.front (n := 0) rfl).front (n := 9) rfl).front (n := 9) rfl).front (n := 9) rfl).front (n := 9) rfl).front (n := 9) rfl).front (n := 9) rfl).front (n := 9) rfl).front (n := 9) rfl).front (n := 9) rfl)
  · refine ⟨_, h.cell 6 rfl rfl, tp, h.cell 6 rfl rfl, tc, h.cell 6 rfl rfl, tq, h.cell 6 rfl rfl, ?_⟩
    refine h.put 7 rfl rfl rfl (fun w71 h n71 => ?_)
    refine ⟨_, h.cell 7 rfl rfl, tp, h.cell 7 rfl rfl, tc, h.cell 7 rfl rfl, tq, h.cell 7 rfl rfl, ?_⟩
    exact ⟨tp, tc, tq, l, _, rs, rfl, by omega, hg, (((((((h.dropAt 7).dropAt 6).dropAt 5).dropAt 4).dropAt 3).dropAt 2).dropAt 1)⟩
theorem opR_pipe : OpR ⟨8, 0, 0, 0, 0, 0, 0, []⟩ := ⟨⟨⟨by decide, by decide, by decide, by decide⟩, by decide, by decide, by decide⟩, ⟨fun x hx => by simp at hx, by show 0 ≤ _; omega⟩⟩
set_option maxHeartbeats 1000000 in
/-- The drawn run. -/
theorem s35 {w0 w : World} {F : List Asr} {s : Sl} (h : SH w0 w F) (hb : CurB w0 s) :
    CallW Try.prog 35 #[.slice s.a s.len s.cap] w (fun v w' => ∃ (l : Sl) (rs : List ROp), v = .slice l.a l.len l.cap ∧ rs.length ≤ 402 ∧ OpsG rs ∧ SH w0 w' (rO l rs :: bO rs :: F)) := by
  refine go35 ?_
  unfold W35
  refine (s70 h hb).mono ?_
  rintro _ w2 ⟨cb, rfl, h⟩
  refine ⟨_, rfl, ?_⟩
  refine (s72 h 0 rfl hb).mono ?_
  rintro _ w5 ⟨n6, rfl, ⟨pa, pb⟩, h⟩
  refine ⟨_, rfl, ?_⟩
  rw [w64 (n := 4 + n6) (by omega) (by omega)]
  refine (s71 h hb (by omega)).mono ?_
  rintro _ w8 ⟨tp, tc, tq, l, N, rs, rfl, hl, hg, h⟩
  refine ⟨_, tp, tc, tq, l, rfl, ?_⟩
  refine h.alloc (fun w14 h e14 n14 => ?_)
  refine h.put 0 rfl rfl rfl (fun w15 h n15 => ?_)
  have h := h.drop
  refine (s73 h 0 rfl hb).mono ?_
  rintro _ w17 ⟨b18, rfl, h⟩
  refine ⟨_, rfl, BIf.of (fun hb18 => ?_) (fun hb18 => ?_)⟩
  · refine LoopW.m1 (fun (l : Sl) w' => ∃ rs : List ROp, rs.length ≤ 402 ∧ OpsG rs ∧ SH w0 w' (aC cb s :: rO l rs :: bO rs :: F)) (fun (l : Sl) _ => 402 - l.len) ⟨rs, by omega, hg, h⟩ ?_
    clear h
    rintro (l : Sl) w21 ⟨rs, hl, hg, h⟩ J hJ
    refine (s72 h 0 rfl hb).mono ?_
    rintro _ w23 ⟨n24, rfl, ⟨qa, qb⟩, h⟩
    refine ⟨_, rfl, ?_⟩
    have hrl : l.len = rs.length := by have := h.len 1 rfl; rw [recs_len] at this; exact this
    rw [w64 (n := 400 + n24) (by omega) (by omega)]
    refine BIf.dec (fun hlt => ?_) (fun hge => ⟨l, rs, rfl, hl, hg, h.drop⟩)
    have h := h.p1
    refine LetW_iff.2 (SH.appendR1 (f := ROp.cells) (x := ⟨⟨8, 0, 0, 0, 0, 0, 0, []⟩, N0⟩) h rfl rfl rfl (by decide) (by show (_ + _) * 80 ≤ _; omega) (plain_op _) (fun l2 w27 h hl2 _ => ?_))
    have h : SH w0 w27 (bO rs :: rO l2 (rs ++ [⟨⟨8, 0, 0, 0, 0, 0, 0, []⟩, N0⟩]) :: aC cb s :: F) := h.p2
    have h := SH.bagSnoc (f := opA) (x := (⟨⟨8, 0, 0, 0, 0, 0, 0, []⟩, N0⟩ : ROp)) (h.nil none 1)
    refine hJ _ _ ⟨rs ++ [⟨⟨8, 0, 0, 0, 0, 0, 0, []⟩, N0⟩], by rw [List.length_append]; simp only [List.length_singleton]; omega, hg.snoc opR_pipe, ?_⟩ (by omega)
    exact h.p1.p2
  · exact ⟨l, rs, rfl, by omega, hg, h.drop⟩
end Go.Proofs.Ytbimoajgofcmbaa
