/- Part 5 of 7: plain readings of code, rules for them, and a proof over them, joined by a program. Conditions: none. -/
import Derived.Test.YtbimoajgofcmbaaIcStep4
set_option linter.unusedVariables false
set_option linter.unusedSimpArgs false
set_option linter.unusedSectionVars false
namespace Go.Proofs.Ytbimoajgofcmbaa
open Go Go.Den
theorem okId_iff {last id n : Int} {ks : List Int} : okId last id n ks = true ↔ last < id ∧ 1 ≤ id ∧ id ≤ n ∧ id ∉ ks := by
  unfold okId
  simp only [Bool.and_eq_true, Bool.not_eq_true', decide_eq_true_eq, decide_eq_false_iff_not]
  constructor
  · rintro ⟨⟨⟨h1, h2⟩, h3⟩, h4⟩; exact ⟨by omega, by omega, by omega, h4⟩
  · rintro ⟨h1, h2, h3, h4⟩; exact ⟨⟨⟨by omega, by omega⟩, by omega⟩, h4⟩
def SeenC (d : DIpc) (k : Nat) (x : Int) : Prop := ∃ j y, j < k ∧ d.Caps[j]? = some y ∧ y.Id = x
def SeenP (d : DIpc) (k : Nat) (x : Int) : Prop := (∃ c, c ∈ d.Caps ∧ c.Id = x) ∨ ∃ j y, j < k ∧ d.Ports[j]? = some y ∧ y.Id = x
def SeenQ (d : DIpc) (k : Nat) (x : Int) : Prop := (∃ c, c ∈ d.Caps ∧ c.Id = x) ∨ (∃ c, c ∈ d.Ports ∧ c.Id = x) ∨ ∃ j y, j < k ∧ d.Pipes[j]? = some y ∧ y.Id = x
theorem all_snoc {α : Type} {l : List α} {k : Nat} {x : α} {P : Nat → α → Prop} (h : ∀ j y, j < k → l[j]? = some y → P j y) (hx : l[k]? = some x) (hp : P k x) : ∀ j y, j < k + 1 → l[j]? = some y → P j y := fun j y hj hy => by
  by_cases hjk : j = k
  · subst hjk; rw [hx] at hy; cases hy; exact hp
  · exact h j y (by omega) hy
set_option maxRecDepth 2000 in
theorem c12 {sp sc sq : Sl} {d : DIpc} {w : World} (hd : IpcAt w sp sc sq d) (hwf : ∀ x, x ∈ d.Pipes → (Lit.int .i64 x.Readers).wf = true ∧ (Lit.int .i64 x.Writers).wf = true) : CallW Try.prog 12 #[.agg #[.int .i64 d.Next, .slice sp.a sp.len sp.cap, .slice sc.a sc.len sc.cap, .slice sq.a sq.len sq.cap]] w (KB (IOk d) w) := by
  refine go12 ?_
  unfold W12; (try delta qn ql qb qi qS qI qP qQ qR qU qA qC)
  have h := SH.start w
  have hpl := hd.ports.len
  have hcl := hd.caps.len
  have hql := hd.pipes.len
  have hf := hd.few
  have hcf := hd.caps.few
  refine h.alloc (fun w1 h ew1 nw1 => ?_)
  generalize w.heap.size = sb at *
  have h : SH w w1 [aB sb ((ipcV d.Next sp sc sq).map Ce.v)] := h
  refine ⟨_, h.cell 0 rfl rfl, ?_⟩
  refine join_or_ex d.Next (h.cell 0 rfl rfl) ?_
  refine join_or_ex sc (h.cell 0 rfl rfl) ?_
  refine join_or_ex sp (h.cell 0 rfl rfl) ?_
  refine join_or_ex sq (h.cell 0 rfl rfl) ?_
  rw [hpl, hcl, hql]
  refine BIf.of (fun hc => kb_f (fun hok => ?_) h.ext) (fun hc => ?_)
  · have g1 := hok.next; have g2 := hok.caps; have g3 := hok.ports; have g4 := hok.pipes
    simp only [Bool.or_eq_true, decide_eq_true_eq] at hc
    omega
  have hc : (0 ≤ d.Next ∧ d.Next ≤ 1099511627776) ∧ d.Caps.length ≤ 128 ∧ d.Ports.length ≤ 32 ∧ d.Pipes.length ≤ 32 := by
    simp only [Bool.or_eq_false_iff, decide_eq_false_iff_not] at hc
    omega
  obtain ⟨g1, g2, g3, g4⟩ := hc
  refine h.newMap (fun w15 h nw15 => ?_)
  generalize w1.heap.size = mb at *
  refine h.alloc (fun w16 h ew16 nw16 => ?_)
  generalize w15.heap.size = mc at *
  refine h.setV 0 rfl rfl (fun w17 h nw17 => ?_)
  refine h.alloc (fun w18 h ew18 nw18 => ?_)
  generalize w17.heap.size = lb at *
  refine h.setV 0 rfl rfl (fun w19 h nw19 => ?_)
  have h : SH w w19 [aB lb ([.int .i64 0].map Ce.v), aB mc ([.map (some mb)].map Ce.v), aSet mb [], aB sb ((ipcV d.Next sp sc sq).map Ce.v)] := h
  refine ⟨sc, h.cell 3 rfl rfl, ?_⟩
  refine LoopW.m1 (fun (i : Int) w' => ∃ (k : Nat) (last : Int) (ks : List Int), i = k ∧ k ≤ d.Caps.length ∧ LastI DCap.Id d.Caps k last ∧ Seen ks (SeenC d k) ∧ (∀ j y, j < k → d.Caps[j]? = some y → CapI d j y) ∧ SH w w' [aB lb ([.int .i64 last].map Ce.v), aB mc ([.map (some mb)].map Ce.v), aSet mb ks, aB sb ((ipcV d.Next sp sc sq).map Ce.v)]) (fun (i : Int) _ => ((d.Caps.length : Int) - i).toNat) ⟨0, 0, [], rfl, by omega, ⟨fun _ => rfl, (fun y h0 => by omega), (fun j y hj => by omega)⟩, (fun x => ⟨(fun hx => by cases hx), (fun ⟨j, y, hj, _⟩ => by omega)⟩), (fun j y hj => by omega), h⟩ ?_
  rintro (i : Int) w23 ⟨k, last, ks, rfl, hk, hlast, hseen, hall, h⟩ J hJ
  rw [hcl]
  refine BIf.dec (fun hlt => ?_) (fun hge => ?_)
  · obtain ⟨x, hx⟩ : ∃ x, d.Caps[k]? = some x := ⟨_, List.getElem?_eq_getElem (by omega)⟩
    obtain ⟨q, hq, hcc⟩ := hd.caps.get (by omega) hx
    refine ⟨by omega, by omega, q, hq, ?_⟩
    rw [Int.toNat_natCast]
    refine ⟨_, h.ext.cell (hcc 0 _ rfl), _, h.ext.cell (hcc 1 _ rfl), _, h.ext.cell (hcc 2 _ rfl), _, h.ext.cell (hcc 3 _ rfl), _, h.ext.cell (hcc 4 _ rfl), ?_⟩
    refine h.alloc (fun w30 h ew30 nw30 => ?_)
    refine h.put 0 rfl rfl rfl (fun w31 h nw31 => ?_)
    generalize w23.heap.size = cb at *
    refine ⟨_, h.cell 0 rfl rfl, (c56 h (a := 1) (m := 2) (t := 3) (s := 4) rfl rfl rfl rfl (by omega)).mono ?_⟩
    rintro _ w34 ⟨rfl, h⟩
    have h : SH w w34 [aB cb (x.cells.map Ce.v), aB lb ([.int .i64 x.Id].map Ce.v), aB mc ([.map (some mb)].map Ce.v), aSet mb (insK ks x.Id), aB sb ((ipcV d.Next sp sc sq).map Ce.v)] := h
    refine ⟨_, rfl, ?_⟩
    refine join_or_callR x.Holder (h.cell 0 rfl rfl) c57 ?_
    refine join_or_callP x.Port (h.cell 0 rfl rfl) (c58 (h.cell 4 rfl rfl) (hd.ext h.ext)) ?_
    refine join_or_ex x.Rights (h.cell 0 rfl rfl) ?_
    refine join_or_ex x.Rights (h.cell 0 rfl rfl) ?_
    rw [port_some hd.ports]
    have hiff : (((((!okId last x.Id d.Next ks) || !(decide (x.Holder ≥ 0) && decide (x.Holder < 64))) || decide (portIx d x.Port < 0)) || decide (x.Rights < 1)) || decide (x.Rights > 7)) = false ↔ 1 ≤ x.Id ∧ x.Id ≤ d.Next ∧ (∀ z, 0 < k → d.Caps[k - 1]? = some z → z.Id < x.Id) ∧ (0 ≤ x.Holder ∧ x.Holder < 64) ∧ 1 ≤ x.Rights ∧ x.Rights ≤ 7 ∧ 0 ≤ portIx d x.Port := by
      simp only [Bool.or_eq_false_iff, Bool.not_eq_false', Bool.and_eq_true, decide_eq_true_eq, decide_eq_false_iff_not, okId_iff]
      constructor
      · rintro ⟨⟨⟨⟨⟨a1, a2, a3, a4⟩, a5⟩, a6⟩, a7⟩, a8⟩
        exact ⟨a2, a3, (hlast.sorted hk a2).1 a1, by omega, by omega, by omega, by omega⟩
      · rintro ⟨a2, a3, a1, a5, a7, a8, a6⟩
        have hlt := (hlast.sorted hk a2).2 a1
        refine ⟨⟨⟨⟨⟨hlt, a2, a3, fun hm => ?_⟩, by omega⟩, by omega⟩, by omega⟩, by omega⟩
        obtain ⟨j, y, hj, hy, he⟩ := (hseen _).1 hm
        have := hlast.le j y hj hy; omega
    refine BIf.of (fun hb => kb_f (fun hok => ?_) h.ext) (fun hb => ?_)
    · have g := capI_of hok.cap k x hx
      rw [hiff.2 ⟨g.id1, g.idN, g.sorted, g.hold, g.r1, g.r7, g.port⟩] at hb; cases hb
    obtain ⟨a1, a2, a3, a4, a5, a6, a7⟩ := hiff.1 hb
    have hseen' : Seen (insK ks x.Id) (SeenC d (k + 1)) := seen_ins hseen (fun y => by
      constructor
      · rintro ⟨j, z, hj, hz, he⟩
        by_cases hjk : j = k
        · subst hjk; rw [hx] at hz; cases hz; exact .inr he.symm
        · exact .inl ⟨j, z, by omega, hz, he⟩
      · rintro (⟨j, z, hj, hz, he⟩ | rfl)
        · exact ⟨j, z, by omega, hz, he⟩
        · exact ⟨k, x, by omega, hx, rfl⟩)
    have next : ∀ w', CapI d k x → SH w w' [aB cb (x.cells.map Ce.v), aB lb ([.int .i64 x.Id].map Ce.v), aB mc ([.map (some mb)].map Ce.v), aSet mb (insK ks x.Id), aB sb ((ipcV d.Next sp sc sq).map Ce.v)] → J (IntKind.i64.wrap ((k : Int) + 1)) w' := fun w' hci hs => by
      rw [w64 (by omega) (by omega)]
      exact hJ _ _ ⟨k + 1, x.Id, _, by omega, by omega, hlast.step hx ((hlast.sorted hk a1).2 a3), hseen', all_snoc hall hx hci, hs.drop⟩ (by omega)
    refine ⟨_, h.cell 0 rfl rfl, BIf.ne (fun h0 => ?_) (fun h0 => next _ ⟨a1, a2, a3, a4, a5, a6, a7, .inl h0⟩ h)⟩
    refine ⟨_, h.cell 0 rfl rfl, (c59 (h.cell 4 rfl rfl) (hd.ext h.ext)).mono ?_⟩
    rintro _ w51 ⟨rfl, rfl⟩
    refine ⟨_, rfl, ?_⟩
    have h := h.drew
    obtain ⟨J54, hJ54⟩ : ∃ J54 : Bool → World → Prop, J54 = fun b w' => (b = false ↔ ∃ (j : Nat) (p : DCap), capIx d x.Parent = j ∧ d.Caps[j]? = some p ∧ p.Port = x.Port ∧ p.Id < x.Id ∧ andI .i64 p.Rights x.Rights = x.Rights) ∧ w' = w51.drew := ⟨_, rfl⟩
    have mk : ∀ b : Bool, (b = false ↔ ∃ (j : Nat) (p : DCap), capIx d x.Parent = j ∧ d.Caps[j]? = some p ∧ p.Port = x.Port ∧ p.Id < x.Id ∧ andI .i64 p.Rights x.Rights = x.Rights) → J54 b w51.drew := fun b hb => by rw [hJ54]; exact ⟨hb, rfl⟩
    refine JoinW.cut1 J54 ?_ ?_
    · refine BIf.of (fun hn => mk _ ⟨(fun hh => by cases hh), fun ⟨j, p, hj, _⟩ => ?_⟩) (fun hn => ?_)
      · rw [cap_some hd, decide_eq_true_eq] at hn; omega
      rw [cap_some hd, decide_eq_false_iff_not] at hn
      obtain ⟨j, p, hj, hp, _⟩ := idx_get (p := fun c : DCap => c.Id == x.Parent) (l := d.Caps) (show 0 ≤ capIx d x.Parent by omega)
      have hj : capIx d x.Parent = j := hj
      obtain ⟨q', hq', hc'⟩ := hd.caps.get (by omega) hp
      rw [hj, ptrE_at hq']
      have uniq : ∀ {j' : Nat} {p' : DCap}, capIx d x.Parent = j' → d.Caps[j']? = some p' → p' = p := fun {j' p'} h1 h2 => by
        obtain rfl : j = j' := by omega
        rw [hp] at h2; cases h2; rfl
      refine ⟨_, rfl, _, h.ext.cell (hc' 2 _ rfl), _, h.cell 0 rfl rfl, ?_⟩
      refine BIf.ne (fun hne => mk _ ⟨(fun hh => by cases hh), fun ⟨j', p', b1, b2, b3, _⟩ => ?_⟩) (fun he => ?_)
      · rw [uniq b1 b2] at b3; exact (hne b3).elim
      refine ⟨_, rfl, _, h.ext.cell (hc' 0 _ rfl), _, h.cell 0 rfl rfl, ?_⟩
      refine BIf.dec (fun hge => mk _ ⟨(fun hh => by cases hh), fun ⟨j', p', b1, b2, b3, b4, _⟩ => ?_⟩) (fun hlt2 => ?_)
      · rw [uniq b1 b2] at b4; omega
      refine ⟨_, rfl, _, h.ext.cell (hc' 3 _ rfl), _, h.cell 0 rfl rfl, _, h.cell 0 rfl rfl, ?_⟩
      refine mk _ ?_
      simp only [bne_eq_false_iff_eq]
      constructor
      · intro hh; exact ⟨j, p, hj, hp, he, by omega, hh⟩
      · rintro ⟨j', p', b1, b2, b3, b4, b5⟩
        rw [uniq b1 b2] at b5; exact b5
    subst hJ54
    rintro (b53 : Bool) w55 ⟨hpi, rfl⟩
    refine BIf.of (fun hb => kb_f (fun hok => ?_) h.ext) (fun hb => next _ ⟨a1, a2, a3, a4, a5, a6, a7, .inr (hpi.1 hb)⟩ h)
    rcases (capI_of hok.cap k x hx).par with h0' | hpar
    · exact h0 h0'
    · rw [hpi.2 hpar] at hb; cases hb
  have hcaps : ∀ j y, d.Caps[j]? = some y → CapI d j y := fun j y hy => hall j y (by have := (List.getElem?_eq_some_iff.1 hy).1; omega) hy
  have hseenP : Seen ks (SeenP d 0) := fun y => by
    rw [hseen y]
    constructor
    · rintro ⟨j, z, hj, hz, he⟩; exact .inl ⟨z, List.mem_of_getElem? hz, he⟩
    · rintro (⟨c, hc, he⟩ | ⟨j, z, hj, _⟩)
      · obtain ⟨j, hj, rfl⟩ := List.getElem_of_mem hc
        exact ⟨j, _, by omega, List.getElem?_eq_getElem hj, he⟩
      · omega
  clear hJ J hseen hlast
  refine h.setV 0 rfl rfl (fun w76 h nw76 => ?_)
  have h : SH w w76 [aB lb ([.int .i64 0].map Ce.v), aB mc ([.map (some mb)].map Ce.v), aSet mb ks, aB sb ((ipcV d.Next sp sc sq).map Ce.v)] := h
  refine ⟨sp, h.cell 3 rfl rfl, ?_⟩
  refine LoopW.m1 (fun (i : Int) w' => ∃ (k : Nat) (last : Int) (ks : List Int), i = k ∧ k ≤ d.Ports.length ∧ LastI DPort.Id d.Ports k last ∧ Seen ks (SeenP d k) ∧ (∀ j y, j < k → d.Ports[j]? = some y → PortI d j y) ∧ SH w w' [aB lb ([.int .i64 last].map Ce.v), aB mc ([.map (some mb)].map Ce.v), aSet mb ks, aB sb ((ipcV d.Next sp sc sq).map Ce.v)]) (fun (i : Int) _ => ((d.Ports.length : Int) - i).toNat) ⟨0, 0, ks, rfl, by omega, ⟨fun _ => rfl, (fun y h0 => by omega), (fun j y hj => by omega)⟩, hseenP, (fun j y hj => by omega), h⟩ ?_
  clear hseenP h
  rintro (i : Int) w80 ⟨k2, last, ks, rfl, hk2, hlast, hseen, hall2, h⟩ J hJ
  rw [hpl]
  refine BIf.dec (fun hlt => ?_) (fun hge2 => ?_)
  · obtain ⟨x, hx⟩ : ∃ x, d.Ports[k2]? = some x := ⟨_, List.getElem?_eq_getElem (by omega)⟩
    obtain ⟨q, tq, hq, hc0, hc1, hms⟩ := hd.ports.get k2 x hx
    have hml := hms.len
    refine ⟨by omega, by omega, q, hq, ?_⟩
    rw [Int.toNat_natCast]
    refine ⟨_, h.ext.cell hc0, tq, h.ext.cell hc1, ?_⟩
    refine h.alloc (fun w84 h ew84 nw84 => ?_)
    refine h.put 0 rfl rfl rfl (fun w85 h nw85 => ?_)
    generalize w80.heap.size = cb at *
    refine ⟨_, h.cell 0 rfl rfl, (c56 h (a := 1) (m := 2) (t := 3) (s := 4) rfl rfl rfl rfl (by omega)).mono ?_⟩
    rintro _ w88 ⟨rfl, h⟩
    have h : SH w w88 [aB cb ([.int .i64 x.Id, .slice tq.a tq.len tq.cap].map Ce.v), aB lb ([.int .i64 x.Id].map Ce.v), aB mc ([.map (some mb)].map Ce.v), aSet mb (insK ks x.Id), aB sb ((ipcV d.Next sp sc sq).map Ce.v)] := h
    refine ⟨_, rfl, ?_⟩
    refine join_or_ex tq (h.cell 0 rfl rfl) ?_
    rw [hml]
    have hiff : ((!okId last x.Id d.Next ks) || decide (((x.Queue.length : Nat) : Int) > 8)) = false ↔ 1 ≤ x.Id ∧ x.Id ≤ d.Next ∧ (∀ z, 0 < k2 → d.Ports[k2 - 1]? = some z → z.Id < x.Id) ∧ x.Queue.length ≤ 8 ∧ (∀ c, c ∈ d.Caps → c.Id ≠ x.Id) := by
      simp only [Bool.or_eq_false_iff, Bool.not_eq_false', decide_eq_false_iff_not, okId_iff]
      constructor
      · rintro ⟨⟨a1, a2, a3, a4⟩, a5⟩
        exact ⟨a2, a3, (hlast.sorted hk2 a2).1 a1, by omega, fun c hc he => a4 ((hseen _).2 (.inl ⟨c, hc, he⟩))⟩
      · rintro ⟨a2, a3, a1, a5, a6⟩
        have hlt := (hlast.sorted hk2 a2).2 a1
        refine ⟨⟨hlt, a2, a3, fun hm => ?_⟩, by omega⟩
        rcases (hseen _).1 hm with ⟨c, hc, he⟩ | ⟨j, y, hj, hy, he⟩
        · exact a6 c hc he
        · have := hlast.le j y hj hy; omega
    refine BIf.of (fun hb => kb_f (fun hok => ?_) h.ext) (fun hb => ?_)
    · have g := portI_of hok k2 x hx
      rw [hiff.2 ⟨g.id1, g.idN, g.sorted, g.few, g.noCap⟩] at hb; cases hb
    obtain ⟨a1, a2, a3, a4, a5⟩ := hiff.1 hb
    have hseen' : Seen (insK ks x.Id) (SeenP d (k2 + 1)) := seen_ins hseen (fun y => by
      constructor
      · rintro (hh | ⟨j, z, hj, hz, he⟩)
        · exact .inl (.inl hh)
        · by_cases hjk : j = k2
          · subst hjk; rw [hx] at hz; cases hz; exact .inr he.symm
          · exact .inl (.inr ⟨j, z, by omega, hz, he⟩)
      · rintro ((hh | ⟨j, z, hj, hz, he⟩) | rfl)
        · exact .inl hh
        · exact .inr ⟨j, z, by omega, hz, he⟩
        · exact .inr ⟨k2, x, by omega, hx, rfl⟩)
    refine ⟨sc, h.cell 4 rfl rfl, ?_⟩
    refine LoopW.m2 (fun (b : Bool) (i : Int) w' => ∃ j : Nat, i = j ∧ j ≤ d.Caps.length ∧ (b = true ↔ ∃ c, c ∈ d.Caps.take j ∧ c.Port = x.Id) ∧ SH w w' [aB cb ([.int .i64 x.Id, .slice tq.a tq.len tq.cap].map Ce.v), aB lb ([.int .i64 x.Id].map Ce.v), aB mc ([.map (some mb)].map Ce.v), aSet mb (insK ks x.Id), aB sb ((ipcV d.Next sp sc sq).map Ce.v)]) (fun (b : Bool) (i : Int) _ => ((d.Caps.length : Int) - i).toNat) ⟨0, rfl, by omega, ⟨(fun hh => by cases hh), (fun ⟨c, hc, _⟩ => by simp at hc)⟩, h⟩ ?_
    rintro (b94 : Bool) (i : Int) w97 ⟨j, rfl, hj, hb94, h⟩ J96 hJ96
    rw [hcl]
    refine BIf.dec (fun hlt2 => ?_) (fun hge3 => ?_)
    · obtain ⟨y, hy⟩ : ∃ y, d.Caps[j]? = some y := ⟨_, List.getElem?_eq_getElem (by omega)⟩
      obtain ⟨q', hq', hc'⟩ := hd.caps.get (by omega) hy
      refine ⟨by omega, by omega, q', hq', ?_⟩
      rw [Int.toNat_natCast]
      refine ⟨_, h.ext.cell (hc' 0 _ rfl), _, h.ext.cell (hc' 1 _ rfl), _, h.ext.cell (hc' 2 _ rfl), _, h.ext.cell (hc' 3 _ rfl), _, h.ext.cell (hc' 4 _ rfl), ?_⟩
      refine h.alloc (fun w104 h ew104 nw104 => ?_)
      refine h.put 0 rfl rfl rfl (fun w105 h nw105 => ?_)
      refine join_or_ex2 y.Port x.Id (h.cell 0 rfl rfl) (h.cell 1 rfl rfl) ?_
      rw [w64 (by omega) (by omega)]
      refine hJ96 _ _ _ ⟨j + 1, by omega, by omega, ?_, h.drop⟩ (by omega)
      rw [List.take_add_one, hy]
      simp only [Bool.or_eq_true, hb94, beq_iff_eq, List.mem_append, Option.toList, List.mem_singleton]
      constructor
      · rintro (⟨c, hc, he⟩ | he)
        · exact ⟨c, .inl hc, he⟩
        · exact ⟨y, .inr rfl, he⟩
      · rintro ⟨c, hc | rfl, he⟩
        · exact .inl ⟨c, hc, he⟩
        · exact .inr he
    rw [List.take_of_length_le (by omega)] at hb94
    refine BIf.of (fun hb => kb_f (fun hok => ?_) h.ext) (fun hb => ?_)
    · rw [hb94.2 (portI_of hok k2 x hx).some_] at hb; cases hb
    have hsome : ∃ c, c ∈ d.Caps ∧ c.Port = x.Id := hb94.1 (by simpa using hb)
    refine ⟨tq, h.cell 0 rfl rfl, ?_⟩
    refine LoopW.m1 (fun (i : Int) w' => ∃ j : Nat, i = j ∧ j ≤ x.Queue.length ∧ (∀ y, y ∈ x.Queue.take j → MsgOk d y) ∧ SH w w' [aB cb ([.int .i64 x.Id, .slice tq.a tq.len tq.cap].map Ce.v), aB lb ([.int .i64 x.Id].map Ce.v), aB mc ([.map (some mb)].map Ce.v), aSet mb (insK ks x.Id), aB sb ((ipcV d.Next sp sc sq).map Ce.v)]) (fun (i : Int) _ => ((x.Queue.length : Int) - i).toNat) ⟨0, rfl, by omega, (fun y hy => by simp at hy), h⟩ ?_
    rintro (i : Int) w114 ⟨j3, rfl, hj3, hmsg, h⟩ J113 hJ113
    rw [hml]
    refine BIf.dec (fun hlt3 => ?_) (fun hge4 => ?_)
    · obtain ⟨y, hy⟩ : ∃ y, x.Queue[j3]? = some y := ⟨_, List.getElem?_eq_getElem (by omega)⟩
      obtain ⟨r, u, hr, hm0, hm1, hm2, hby⟩ := (hms.ext h.ext).get j3 y hy
      have hbl := hby.len
      refine ⟨by omega, by omega, r, hr, _, hm0, u, hm1, _, hm2, ?_⟩
      refine h.alloc (fun w119 h ew119 nw119 => ?_)
      refine h.put 0 rfl rfl rfl (fun w120 h nw120 => ?_)
      generalize w114.heap.size = yb at *
      refine ⟨_, h.cell 0 rfl rfl, c57.mono ?_⟩
      rintro _ w123 ⟨rfl, rfl⟩
      refine ⟨_, rfl, ?_⟩
      refine join_or_ex u (h.cell 0 rfl rfl) ?_
      refine join_or_ex y.Cap (h.cell 0 rfl rfl) ?_
      refine join_or_ex2 y.Cap d.Next (h.cell 0 rfl rfl) (h.cell 5 rfl rfl) ?_
      rw [hbl]
      have hmi : ((((!(decide (y.From ≥ 0) && decide (y.From < 64))) || decide (((y.Data.length : Nat) : Int) > 64)) || decide (y.Cap < 0)) || decide (y.Cap > d.Next)) = false ↔ MsgOk d y := by
        unfold MsgOk
        simp only [Bool.or_eq_false_iff, Bool.not_eq_false', Bool.and_eq_true, decide_eq_true_eq, decide_eq_false_iff_not]
        omega
      refine BIf.of (fun hb => kb_f (fun hok => ?_) h.ext) (fun hb => ?_)
      · rw [hmi.2 ((portI_of hok k2 x hx).msgs y (List.mem_of_getElem? hy))] at hb; cases hb
      rw [w64 (by omega) (by omega)]
      refine hJ113 _ _ ⟨j3 + 1, by omega, by omega, fun z hz => ?_, h.drop⟩ (by omega)
      rw [List.take_add_one, hy] at hz
      rcases List.mem_append.1 hz with hz | hz
      · exact hmsg z hz
      · simp at hz; subst hz; exact hmi.1 hb
    rw [List.take_of_length_le (by omega)] at hmsg
    rw [w64 (by omega) (by omega)]
    exact hJ _ _ ⟨k2 + 1, x.Id, _, by omega, by omega, hlast.step hx ((hlast.sorted hk2 a1).2 a3), hseen', all_snoc hall2 hx ⟨a1, a2, a3, a4, a5, hmsg, hsome⟩, h.drop⟩ (by omega)
  have hports : ∀ j y, d.Ports[j]? = some y → PortI d j y := fun j y hy => hall2 j y (by have := (List.getElem?_eq_some_iff.1 hy).1; omega) hy
  have hseenQ : Seen ks (SeenQ d 0) := fun y => by
    rw [hseen y]
    constructor
    · rintro (hh | ⟨j, z, hj, hz, he⟩)
      · exact .inl hh
      · exact .inr (.inl ⟨z, List.mem_of_getElem? hz, he⟩)
    · rintro (hh | ⟨c, hc, he⟩ | ⟨j, z, hj, _⟩)
      · exact .inl hh
      · obtain ⟨j, hj, rfl⟩ := List.getElem_of_mem hc
        exact .inr ⟨j, _, by omega, List.getElem?_eq_getElem hj, he⟩
      · omega
  clear hJ J hseen hlast
  refine h.setV 0 rfl rfl (fun w139 h nw139 => ?_)
  have h : SH w w139 [aB lb ([.int .i64 0].map Ce.v), aB mc ([.map (some mb)].map Ce.v), aSet mb ks, aB sb ((ipcV d.Next sp sc sq).map Ce.v)] := h
  refine ⟨sq, h.cell 3 rfl rfl, ?_⟩
  refine LoopW.m1 (fun (i : Int) w' => ∃ (k : Nat) (last : Int) (ks : List Int), i = k ∧ k ≤ d.Pipes.length ∧ LastI DPipe.Id d.Pipes k last ∧ Seen ks (SeenQ d k) ∧ (∀ j y, j < k → d.Pipes[j]? = some y → PipeI d j y) ∧ SH w w' [aB lb ([.int .i64 last].map Ce.v), aB mc ([.map (some mb)].map Ce.v), aSet mb ks, aB sb ((ipcV d.Next sp sc sq).map Ce.v)]) (fun (i : Int) _ => ((d.Pipes.length : Int) - i).toNat) ⟨0, 0, ks, rfl, by omega, ⟨fun _ => rfl, (fun y h0 => by omega), (fun j y hj => by omega)⟩, hseenQ, (fun j y hj => by omega), h⟩ ?_
  clear hseenQ h
  rintro (i : Int) w143 ⟨k3, last, ks, rfl, hk3, hlast, hseen, hall3, h⟩ J hJ
  rw [hql]
  refine BIf.dec (fun hlt => ?_) (fun hge3 => ?_)
  · obtain ⟨x, hx⟩ : ∃ x, d.Pipes[k3]? = some x := ⟨_, List.getElem?_eq_getElem (by omega)⟩
    obtain ⟨q, tq, hq, hc0, hc1, hc2, hc3, hby⟩ := hd.pipes.get k3 x hx
    have hbl := hby.len
    have hw := hwf x (List.mem_of_getElem? hx)
    refine ⟨by omega, by omega, q, hq, ?_⟩
    rw [Int.toNat_natCast]
    refine ⟨_, h.ext.cell hc0, _, h.ext.cell hc1, _, h.ext.cell hc2, tq, h.ext.cell hc3, ?_⟩
    refine h.alloc (fun w149 h ew149 nw149 => ?_)
    refine h.put 0 rfl rfl rfl (fun w150 h nw150 => ?_)
    generalize w143.heap.size = cb at *
    refine ⟨_, h.cell 0 rfl rfl, (c56 h (a := 1) (m := 2) (t := 3) (s := 4) rfl rfl rfl rfl (by omega)).mono ?_⟩
    rintro _ w153 ⟨rfl, h⟩
    have h : SH w w153 [aB cb ([.int .i64 x.Id, .int .i64 x.Readers, .int .i64 x.Writers, .slice tq.a tq.len tq.cap].map Ce.v), aB lb ([.int .i64 x.Id].map Ce.v), aB mc ([.map (some mb)].map Ce.v), aSet mb (insK ks x.Id), aB sb ((ipcV d.Next sp sc sq).map Ce.v)] := h
    refine ⟨_, rfl, ?_⟩
    refine join_or_ex x.Readers (h.cell 0 rfl rfl) ?_
    refine join_or_ex x.Readers (h.cell 0 rfl rfl) ?_
    refine join_or_ex x.Writers (h.cell 0 rfl rfl) ?_
    refine join_or_ex x.Writers (h.cell 0 rfl rfl) ?_
    refine join_or_ex2 x.Readers x.Writers (h.cell 0 rfl rfl) (h.cell 0 rfl rfl) ?_
    refine join_or_ex tq (h.cell 0 rfl rfl) ?_
    rw [hbl]
    have hiff : (((((((!okId last x.Id d.Next ks) || decide (x.Readers < 0)) || decide (x.Readers > 64)) || decide (x.Writers < 0)) || decide (x.Writers > 64)) || (IntKind.i64.wrap (x.Readers + x.Writers) == 0)) || decide (((x.Data.length : Nat) : Int) > 512)) = false ↔ PipeI d k3 x := by
      simp only [Bool.or_eq_false_iff, Bool.not_eq_false', decide_eq_false_iff_not, okId_iff, beq_eq_false_iff_ne]
      constructor
      · rintro ⟨⟨⟨⟨⟨⟨⟨a1, a2, a3, a4⟩, b1⟩, b2⟩, b3⟩, b4⟩, b5⟩, b6⟩
        rw [w64 (by omega) (by omega)] at b5
        exact ⟨a2, a3, (hlast.sorted hk3 a2).1 a1, fun c hc he => a4 ((hseen _).2 (.inl ⟨c, hc, he⟩)), fun c hc he => a4 ((hseen _).2 (.inr (.inl ⟨c, hc, he⟩))), by omega, by omega, by omega, by omega⟩
      · rintro ⟨a2, a3, a1, a5, a6, b6, b1, b2, b3⟩
        have hlt := (hlast.sorted hk3 a2).2 a1
        rw [w64 (by omega) (by omega)]
        refine ⟨⟨⟨⟨⟨⟨⟨hlt, a2, a3, fun hm => ?_⟩, by omega⟩, by omega⟩, by omega⟩, by omega⟩, by omega⟩, by omega⟩
        rcases (hseen _).1 hm with ⟨c, hc, he⟩ | ⟨c, hc, he⟩ | ⟨j, y, hj, hy, he⟩
        · exact a5 c hc he
        · exact a6 c hc he
        · have := hlast.le j y hj hy; omega
    refine BIf.of (fun hb => kb_f (fun hok => ?_) h.ext) (fun hb => ?_)
    · rw [hiff.2 (pipeI_of hok k3 x hx)] at hb; cases hb
    have hpi := hiff.1 hb
    have hseen' : Seen (insK ks x.Id) (SeenQ d (k3 + 1)) := seen_ins hseen (fun y => by
      constructor
      · rintro (hh | hh | ⟨j, z, hj, hz, he⟩)
        · exact .inl (.inl hh)
        · exact .inl (.inr (.inl hh))
        · by_cases hjk : j = k3
          · subst hjk; rw [hx] at hz; cases hz; exact .inr he.symm
          · exact .inl (.inr (.inr ⟨j, z, by omega, hz, he⟩))
      · rintro ((hh | hh | ⟨j, z, hj, hz, he⟩) | rfl)
        · exact .inl hh
        · exact .inr (.inl hh)
        · exact .inr (.inr ⟨j, z, by omega, hz, he⟩)
        · exact .inr (.inr ⟨k3, x, by omega, hx, rfl⟩))
    rw [w64 (by omega) (by omega)]
    exact hJ _ _ ⟨k3 + 1, x.Id, _, by omega, by omega, hlast.step hx ((hlast.sorted hk3 hpi.id1).2 hpi.sorted), hseen', all_snoc hall3 hx hpi, h.drop⟩ (by omega)
  exact kb_t (IOk_of g1 g2 g3 g4 hcaps hports (fun j y hy => hall3 j y (by have := (List.getElem?_eq_some_iff.1 hy).1; omega) hy)) h.ext
end Go.Proofs.Ytbimoajgofcmbaa

namespace Go.Proofs.Ytbimoajgofcmbaa
open Go Go.Den
structure PipeWf (d : DIpc) : Prop where
  pipes : ∀ x, x ∈ d.Pipes → (Lit.int .i64 x.Readers).wf = true ∧ (Lit.int .i64 x.Writers).wf = true
end Go.Proofs.Ytbimoajgofcmbaa

namespace Go.Proofs.Ytbimoajgofcmbaa
open Go Go.Den
inductive Und (d : DIpc) (top : Int) : Int → Prop where
  | base {k : Nat} {c : DCap} : d.Caps[k]? = some c → c.Parent ≠ 0 → c.Parent = top → Und d top c.Id
  | step {k : Nat} {c : DCap} : d.Caps[k]? = some c → c.Parent ≠ 0 → Und d top c.Parent → Und d top c.Id
theorem cap_lt {d : DIpc} (h : IOk d) : ∀ (n i j : Nat) (a b : DCap), j = i + n + 1 → d.Caps[i]? = some a → d.Caps[j]? = some b → a.Id < b.Id
  | 0, i, j, a, b, hj, ha, hb => (h.cap j b hb).sorted a (by omega) (by rw [show j - 1 = i by omega]; exact ha)
  | n + 1, i, j, a, b, hj, ha, hb => by
    have hjl := (List.getElem?_eq_some_iff.1 hb).1
    obtain ⟨c, hc⟩ : ∃ c, d.Caps[j - 1]? = some c := ⟨_, List.getElem?_eq_getElem (by omega)⟩
    have h1 := cap_lt h n i (j - 1) a c (by omega) ha hc
    have h2 := (h.cap j b hb).sorted c (by omega) hc
    omega
theorem cap_mono {d : DIpc} (h : IOk d) {i j : Nat} {a b : DCap} (ha : d.Caps[i]? = some a) (hb : d.Caps[j]? = some b) : (a.Id < b.Id ↔ i < j) ∧ (a.Id = b.Id ↔ i = j) := by
  rcases Nat.lt_trichotomy i j with hlt | rfl | hgt
  · have := cap_lt h (j - i - 1) i j a b (by omega) ha hb; constructor <;> constructor <;> intro _ <;> omega
  · rw [ha] at hb; cases hb; simp
  · have := cap_lt h (i - j - 1) j i b a (by omega) hb ha; constructor <;> constructor <;> intro _ <;> omega
theorem par_at {d : DIpc} (h : IOk d) {i : Nat} {c : DCap} (hc : d.Caps[i]? = some c) (h0 : c.Parent ≠ 0) : ∃ (k : Nat) (p : DCap), capIx d c.Parent = k ∧ d.Caps[k]? = some p ∧ p.Id = c.Parent ∧ k < i := by
  rcases (h.cap i c hc).par with h1 | ⟨k, p, hp⟩
  · exact absurd h1 h0
  · have hid := ix_id hp.ix hp.at_
    exact ⟨k, p, hp.ix, hp.at_, hid, (cap_mono h hp.at_ hc).1.1 (by rw [hid]; exact hp.lt)⟩
theorem und_iff {d : DIpc} (h : IOk d) {top : Int} {i : Nat} {c : DCap} (hc : d.Caps[i]? = some c) : Und d top c.Id ↔ c.Parent ≠ 0 ∧ (c.Parent = top ∨ Und d top c.Parent) := by
  constructor
  · intro hu
    generalize hx : c.Id = x at hu
    cases hu with
    | base hk h0 ht =>
      have := (cap_mono h hc hk).2.1 hx
      subst this; rw [hc] at hk; cases hk; exact ⟨h0, .inl ht⟩
    | step hk h0 ht =>
      have := (cap_mono h hc hk).2.1 hx
      subst this; rw [hc] at hk; cases hk; exact ⟨h0, .inr ht⟩
  · rintro ⟨h0, h1 | h1⟩
    · exact .base hc h0 h1
    · exact .step hc h0 h1
theorem und_gt {d : DIpc} (h : IOk d) {top x : Int} (hu : Und d top x) : top < x := by
  induction hu with
  | base hk h0 ht =>
    obtain ⟨j, p, _, hp, hid, hj⟩ := par_at h hk h0
    have := (cap_mono h hp hk).1.2 hj
    omega
  | step hk h0 _ ih =>
    obtain ⟨j, p, _, hp, hid, hj⟩ := par_at h hk h0
    have := (cap_mono h hp hk).1.2 hj
    omega
theorem c65 {n : Int} {sp sc sq : Sl} {d : DIpc} {top : Int} {i : Nat} {c : DCap} {w : World} (hd : IpcAt w sp sc sq d) (hok : IOk d) (hc : d.Caps[i]? = some c) : CallW Try.prog 65 #[.agg #[.int .i64 n, .slice sp.a sp.len sp.cap, .slice sc.a sc.len sc.cap, .slice sq.a sq.len sq.cap], .int .i64 c.Id, .int .i64 top] w (KB (Und d top c.Id) w) := by
  refine go65 ?_
  unfold W65; (try delta qn ql qb qi qS qI qP qQ qR qU qA qC)
  have h := SH.start w
  have hcl := hd.caps.len
  have hcf := hok.caps
  have hil := (List.getElem?_eq_some_iff.1 hc).1
  refine h.alloc (fun w1 h ew1 nw1 => ?_)
  refine LoopW.m2 (fun (x m : Int) w' => ∃ (k j : Nat) (y : DCap), m = k ∧ k + j ≤ i ∧ d.Caps[j]? = some y ∧ x = y.Id ∧ (Und d top c.Id ↔ Und d top x) ∧ SH w w' [aB w.heap.size ((ipcV n sp sc sq).map Ce.v)]) (fun (x m : Int) _ => ((i : Int) + 1 - m).toNat) ⟨0, i, c, rfl, by omega, hc, rfl, Iff.rfl, h⟩ ?_
  rintro (x : Int) (m : Int) w5 ⟨k, j, y, rfl, hkj, hy, rfl, hiff, h⟩ J hJ
  refine ⟨sc, h.cell 0 rfl rfl, ?_⟩
  dsimp only; rw [hcl]
  refine BIf.t (decide_eq_true (by omega)) ?_
  refine ⟨_, h.cell 0 rfl rfl, sp, h.cell 0 rfl rfl, sc, h.cell 0 rfl rfl, sq, h.cell 0 rfl rfl, (c86 (hd.ext h.ext)).mono ?_⟩
  rintro _ w12 ⟨rfl, e⟩
  have h := h.to e
  have hix : capIx d y.Id = j := by
    obtain ⟨k', y', h1, h2, h3⟩ := idx_get (p := fun c : DCap => c.Id == y.Id) (l := d.Caps) (by
      rcases idx_cases (fun c : DCap => c.Id == y.Id) d.Caps with ⟨_, hn⟩ | ⟨k', x', h1, _⟩
      · have := hn y (List.mem_of_getElem? hy); simp at this
      · rw [h1]; omega)
    have h3 : y'.Id = y.Id := by simpa using h3
    have := (cap_mono hok h2 hy).2.1 h3
    show idxFrom _ _ _ = _
    rw [h1, this]
  rw [hix]
  obtain ⟨q, hq, hcc⟩ := hd.caps.get (by omega) hy
  have hjl := (List.getElem?_eq_some_iff.1 hy).1
  refine ⟨_, rfl, ?_⟩
  refine JoinW.cut1 (fun (b : Bool) w' => b = (y.Parent == 0) ∧ w' = w12) ?_ ?_
  · refine BIf.f (decide_eq_false (by omega)) ?_
    exact ⟨sc, h.cell 0 rfl rfl, by omega, by omega, q, hq, _, h.ext.cell (hcc 4 _ rfl), rfl, rfl⟩
  rintro (b : Bool) w16 ⟨rfl, rfl⟩
  refine BIf.of (fun h0 => kb_f (fun hu => ?_) h.ext) (fun h0 => ?_)
  · have := ((und_iff hok hy).1 (hiff.1 hu)).1
    exact this (by simpa using h0)
  have h0 : y.Parent ≠ 0 := by simpa using h0
  refine ⟨sc, h.cell 0 rfl rfl, by omega, by omega, q, hq, _, h.ext.cell (hcc 4 _ rfl), ?_⟩
  refine BIf.eq (fun he => kb_t (hiff.2 ((und_iff hok hy).2 ⟨h0, .inl he⟩)) h.ext) (fun he => ?_)
  obtain ⟨j', p, _, hp, hid, hj'⟩ := par_at hok hy h0
  rw [w64 (by omega) (by omega)]
  refine hJ _ _ _ ⟨k + 1, j', p, by omega, by omega, hp, hid.symm, ?_, h⟩ (by omega)
  rw [hiff, und_iff hok hy]
  exact ⟨fun hh => by rcases hh.2 with h1 | h1; exact absurd h1 he; exact h1, fun hh => ⟨h0, .inr hh⟩⟩
structure Marks (d : DIpc) (top : Int) (k : Nat) (ks : List Int) : Prop where
  pos : ∀ x, x ∈ ks → 1 ≤ x
  of : ∀ x, x ∈ ks → x = top ∨ ∃ j y, j < k ∧ d.Caps[j]? = some y ∧ y.Id = x
  iff : ∀ j y, j < k → d.Caps[j]? = some y → (y.Id ∈ ks ↔ y.Id = top ∨ Und d top y.Id)
  top_ : top ∈ ks
  nd : ks.Nodup
theorem insK_nd {ks : List Int} {n : Int} (h : ks.Nodup) : (insK ks n).Nodup := by
  unfold insK
  split
  · exact h
  · rename_i hn
    rw [List.nodup_append]
    exact ⟨h, by simp, fun a ha b hb hab => by rw [List.mem_singleton.1 hb] at hab; exact hn (hab ▸ ha)⟩
theorem c66 {b : Nat} {top : Int} {sp sc sq : Sl} {d : DIpc} {w : World} (hc2 : w.cell? ⟨b, 2, none⟩ = some (.slice sc.a sc.len sc.cap)) (hd : IpcAt w sp sc sq d) (hok : IOk d) (htop : ∃ c, c ∈ d.Caps ∧ c.Id = top) :
    CallW Try.prog 66 #[.pointer (some ⟨b, 0, none⟩), .int .i64 top] w (fun v w' => ∃ (m : Nat) (ks : List Int), v = .map (some m) ∧ (∀ (j : Nat) (y : DCap), d.Caps[j]? = some y → (y.Id ∈ ks ↔ Und d top y.Id)) ∧ ks.Nodup ∧ (∀ x, x ∈ ks → ∃ c, c ∈ d.Caps ∧ c.Id = x) ∧ SH w w' [aSet m ks]) := by
  refine go66 ?_
  unfold W66; (try delta qn ql qb qi qS qI qP qQ qR qU qA qC)
  have h := SH.start w
  have hcl := hd.caps.len
  have hcf := hd.caps.few
  obtain ⟨ct, hct, rfl⟩ := htop
  obtain ⟨it, hit, rfl⟩ := List.getElem_of_mem hct
  have htc := List.getElem?_eq_getElem hit
  have ht1 := (hok.cap it _ htc).id1
  generalize d.Caps[it] = ct at *
  refine h.newMap (fun w1 h nw1 => ?_)
  generalize w.heap.size = m at *
  refine h.putSet 0 rfl ct.Id (fun w2 h nw2 => ?_)
  refine ⟨_, rfl, sc, h.ext.cell hc2, ?_⟩
  refine LoopW.m1 (fun (i : Int) w' => ∃ (k : Nat) (ks : List Int), i = k ∧ k ≤ d.Caps.length ∧ Marks d ct.Id k ks ∧ SH w w' [aSet m ks]) (fun (i : Int) _ => ((d.Caps.length : Int) - i).toNat) ⟨0, _, rfl, by omega, ⟨fun x hx => ?_, fun x hx => .inl (by simpa [insK] using hx), (fun j y hj => by omega), by simp [insK], by simp [insK]⟩, h⟩ ?_
  · have : x = ct.Id := by simpa [insK] using hx
    omega
  rintro (i : Int) w7 ⟨k, ks, rfl, hk, hm, h⟩ J hJ
  rw [hcl]
  refine BIf.dec (fun hlt => ?_) (fun hge => ?_)
  · obtain ⟨x, hx⟩ : ∃ x, d.Caps[k]? = some x := ⟨_, List.getElem?_eq_getElem (by omega)⟩
    obtain ⟨q, hq, hc⟩ := hd.caps.get (by omega) hx
    refine ⟨by omega, by omega, q, hq, ?_⟩
    rw [Int.toNat_natCast]
    refine ⟨_, h.ext.cell (hc 0 _ rfl), _, h.ext.cell (hc 1 _ rfl), _, h.ext.cell (hc 2 _ rfl), _, h.ext.cell (hc 3 _ rfl), _, h.ext.cell (hc 4 _ rfl), ?_⟩
    refine h.alloc (fun w14 h ew14 nw14 => ?_)
    refine h.put 0 rfl rfl rfl (fun w15 h nw15 => ?_)
    generalize w7.heap.size = cb at *
    have h : SH w w15 [aB cb (x.cells.map Ce.v), aSet m ks] := h
    rw [w64 (by omega) (by omega)]
    have hpar : x.Parent ∈ ks ↔ x.Parent ≠ 0 ∧ (x.Parent = ct.Id ∨ Und d ct.Id x.Parent) := by
      by_cases h0 : x.Parent = 0
      · constructor
        · intro hh; have := hm.pos _ hh; omega
        · intro hh; exact absurd h0 hh.1
      · obtain ⟨j, p, _, hp, hid, hj⟩ := par_at hok hx h0
        have := hm.iff j p hj hp
        rw [hid] at this
        rw [this]
        exact ⟨fun hh => ⟨h0, hh⟩, fun hh => hh.2⟩
    have hnot : x.Id ∈ ks → x.Id = ct.Id := fun hh => by
      rcases hm.of _ hh with h1 | ⟨j, y, hj, hy, he⟩
      · exact h1
      · have := (cap_mono hok hy hx).2.1 he; omega
    refine ⟨_, h.cell 0 rfl rfl, h.getSet 1 rfl _ (fun o ho => ⟨_, ho, ?_⟩)⟩
    refine BIf.dec (fun hin => ?_) (fun hin => ?_)
    · refine ⟨_, h.cell 0 rfl rfl, h.putSet 1 rfl _ (fun w20 h nw20 => ?_)⟩
      refine hJ _ _ ⟨k + 1, _, by omega, by omega, ⟨fun y hy => ?_, fun y hy => ?_, fun j y hj hy => ?_, mem_insK.2 (.inl hm.top_), insK_nd hm.nd⟩, h.drop⟩ (by omega)
      · rcases mem_insK.1 hy with hy | rfl
        · exact hm.pos y hy
        · exact (hok.cap k x hx).id1
      · rcases mem_insK.1 hy with hy | rfl
        · rcases hm.of y hy with h1 | ⟨j, z, hj, hz⟩
          · exact .inl h1
          · exact .inr ⟨j, z, by omega, hz⟩
        · exact .inr ⟨k, x, by omega, hx, rfl⟩
      · rw [mem_insK]
        by_cases hjk : j = k
        · subst hjk; rw [hx] at hy; cases hy
          exact ⟨fun _ => .inr ((und_iff hok hx).2 (hpar.1 hin)), fun _ => .inr rfl⟩
        · rw [← hm.iff j y (by omega) hy]
          exact ⟨fun hh => by
            rcases hh with hh | hh
            · exact hh
            · have := (cap_mono hok hy hx).2.1 hh; omega, .inl⟩
    · refine hJ _ _ ⟨k + 1, ks, by omega, by omega, ⟨hm.pos, fun y hy => ?_, fun j y hj hy => ?_, hm.top_, hm.nd⟩, h.drop⟩ (by omega)
      · rcases hm.of y hy with h1 | ⟨j, z, hj, hz⟩
        · exact .inl h1
        · exact .inr ⟨j, z, by omega, hz⟩
      · by_cases hjk : j = k
        · subst hjk; rw [hx] at hy; cases hy
          constructor
          · intro hh; exact .inl (hnot hh)
          · rintro (hh | hh)
            · rw [hh]; exact hm.top_
            · exact absurd (hpar.2 ((und_iff hok hx).1 hh)) hin
        · exact hm.iff j y (by omega) hy
  · obtain rfl : k = d.Caps.length := by omega
    refine h.delSet 0 rfl _ (fun w21 h nw21 => ?_)
    refine ⟨m, _, rfl, fun j y hy => ?_, hm.nd.erase _, fun x hx => ?_, h⟩
    · rw [hm.nd.mem_erase_iff, hm.iff j y (List.getElem?_eq_some_iff.1 hy).1 hy]
      constructor
      · rintro ⟨h1, h2 | h2⟩
        · exact absurd h2 h1
        · exact h2
      · intro hu
        exact ⟨fun he => by have := und_gt hok hu; omega, .inr hu⟩
    · rcases hm.of x (List.mem_of_mem_erase hx) with h1 | ⟨j, y, _, hy, he⟩
      · exact ⟨ct, List.mem_of_getElem? htc, h1.symm⟩
      · exact ⟨y, List.mem_of_getElem? hy, he⟩
end Go.Proofs.Ytbimoajgofcmbaa

namespace Go.Proofs.Ytbimoajgofcmbaa
open Go Go.Den
theorem szs_mem {l : List Dat} {d : Dat} (h : d ∈ l) : d.sz ≤ Dat.szs l := by
  obtain ⟨i, hi, rfl⟩ := List.getElem_of_mem h
  have := szs_get (l := l) (i := i) (d := l[i]) (List.getElem?_eq_getElem hi)
  omega
theorem msgs_of {w : World} {s : Sl} {ms : List DMsg} (h : IsD w (.sl 3 (ms.map DMsg.dat)) [.slice s.a s.len s.cap]) (hs : (Dat.sl 3 (ms.map DMsg.dat)).sz ≤ 1048576) : MsgsAt w s ms := by
  refine ⟨(isD_len h).1, fun i x hx => ?_⟩
  obtain ⟨p, es, hp, hl, hc, his⟩ := isD_elem h hx
  obtain ⟨t, rfl, _, hd, _⟩ := cells_Msg (show IsD w (.st [.int .i64 x.From, .sl 1 (x.Data.map (Dat.int .u8)), .int .i64 x.Cap]) es from his)
  have h1 : x.dat.sz ≤ Dat.szs (ms.map DMsg.dat) := szs_mem (List.mem_map.2 ⟨x, List.mem_of_getElem? hx, rfl⟩)
  have h2 : x.dat.sz = 0 + ((Dat.sl 1 (x.Data.map (Dat.int .u8))).sz + (0 + 0)) := rfl
  rw [sz_nums] at h2
  have h3 : (Dat.sl 3 (ms.map DMsg.dat)).sz = (ms.map DMsg.dat).length + Dat.szs (ms.map DMsg.dat) := rfl
  exact ⟨p, t, hp, hc 0 _ rfl, hc 1 _ rfl, hc 2 _ rfl, byAt_of hd (by omega)⟩
theorem ports_of {w : World} {s : Sl} {ps : List DPort} (h : IsD w (.sl 2 (ps.map DPort.dat)) [.slice s.a s.len s.cap]) (hs : (Dat.sl 2 (ps.map DPort.dat)).sz ≤ 1048576) : PortsAt w s ps := by
  refine ⟨(isD_len h).1, fun i x hx => ?_⟩
  obtain ⟨p, es, hp, hl, hc, his⟩ := isD_elem h hx
  obtain ⟨t, rfl, _, hd⟩ := cells_Port (show IsD w (.st [.int .i64 x.Id, .sl 3 (x.Queue.map DMsg.dat)]) es from his)
  have h1 : x.dat.sz ≤ Dat.szs (ps.map DPort.dat) := szs_mem (List.mem_map.2 ⟨x, List.mem_of_getElem? hx, rfl⟩)
  have h2 : x.dat.sz = 0 + ((Dat.sl 3 (x.Queue.map DMsg.dat)).sz + 0) := rfl
  have h3 : (Dat.sl 2 (ps.map DPort.dat)).sz = (ps.map DPort.dat).length + Dat.szs (ps.map DPort.dat) := rfl
  exact ⟨p, t, hp, hc 0 _ rfl, hc 1 _ rfl, msgs_of hd (by omega)⟩
theorem pipes_of {w : World} {s : Sl} {ps : List DPipe} (h : IsD w (.sl 4 (ps.map DPipe.dat)) [.slice s.a s.len s.cap]) (hs : (Dat.sl 4 (ps.map DPipe.dat)).sz ≤ 1048576) : PipesAt w s ps ∧ ∀ x, x ∈ ps → (Lit.int .i64 x.Readers).wf = true ∧ (Lit.int .i64 x.Writers).wf = true := by
  have key : ∀ i x, ps[i]? = some x → (∃ (q : Addr) (t : Sl), s.a = some q ∧ w.cell? ((q.add (i * 4)).add 0) = some (.int .i64 x.Id) ∧ w.cell? ((q.add (i * 4)).add 1) = some (.int .i64 x.Readers) ∧ w.cell? ((q.add (i * 4)).add 2) = some (.int .i64 x.Writers) ∧ w.cell? ((q.add (i * 4)).add 3) = some (.slice t.a t.len t.cap) ∧ ByAt w t x.Data) ∧ (Lit.int .i64 x.Readers).wf = true ∧ (Lit.int .i64 x.Writers).wf = true := fun i x hx => by
    obtain ⟨p, es, hp, hl, hc, his⟩ := isD_elem h hx
    obtain ⟨t, rfl, _, w1, w2, hd⟩ := cells_Pipe (show IsD w (.st [.int .i64 x.Id, .int .i64 x.Readers, .int .i64 x.Writers, .sl 1 (x.Data.map (Dat.int .u8))]) es from his)
    have h1 : x.dat.sz ≤ Dat.szs (ps.map DPipe.dat) := szs_mem (List.mem_map.2 ⟨x, List.mem_of_getElem? hx, rfl⟩)
    have h2 : x.dat.sz = 0 + (0 + (0 + ((Dat.sl 1 (x.Data.map (Dat.int .u8))).sz + 0))) := rfl
    rw [sz_nums] at h2
    have h3 : (Dat.sl 4 (ps.map DPipe.dat)).sz = (ps.map DPipe.dat).length + Dat.szs (ps.map DPipe.dat) := rfl
    exact ⟨⟨p, t, hp, hc 0 _ rfl, hc 1 _ rfl, hc 2 _ rfl, hc 3 _ rfl, byAt_of hd (by omega)⟩, w1, w2⟩
  refine ⟨⟨(isD_len h).1, fun i x hx => (key i x hx).1⟩, fun x hx => ?_⟩
  obtain ⟨i, hi, rfl⟩ := List.getElem_of_mem hx
  exact (key i _ (List.getElem?_eq_getElem hi)).2
theorem caps_of {w : World} {s : Sl} {cs : List DCap} (h : IsD w (.sl 5 (cs.map DCap.dat)) [.slice s.a s.len s.cap]) (hs : cs.length ≤ 1048576) : RecsAt w s 5 DCap.cells cs :=
  ⟨(isD_len h).1, isD_row h (fun _ => rfl) (fun es x hx => DCap.is_cells hx), by omega, fun _ => rfl⟩
theorem caps_wf {w : World} {s : Sl} {cs : List DCap} (h : IsD w (.sl 5 (cs.map DCap.dat)) [.slice s.a s.len s.cap]) : ∀ c, c ∈ cs → c.wf := fun c hc => by
  obtain ⟨i, hi, rfl⟩ := List.getElem_of_mem hc
  obtain ⟨p, es, _, _, _, his⟩ := isD_elem h (List.getElem?_eq_getElem hi)
  have q := isD_st his
  obtain ⟨_, _, rfl, i0, q⟩ := isF_cons q
  obtain ⟨_, _, rfl, i1, q⟩ := isF_cons q
  obtain ⟨_, _, rfl, i2, q⟩ := isF_cons q
  obtain ⟨_, _, rfl, i3, q⟩ := isF_cons q
  obtain ⟨_, _, rfl, i4, q⟩ := isF_cons q
  exact ⟨(isD_int i0).2, (isD_int i1).2, (isD_int i2).2, (isD_int i3).2, (isD_int i4).2⟩
theorem ipc_of {w : World} {cs : List Value} {d : DIpc} (h : IsD w d.dat cs) (hs : d.dat.sz ≤ 1048576) : ∃ sp sc sq : Sl, cs = [.int .i64 d.Next, .slice sp.a sp.len sp.cap, .slice sc.a sc.len sc.cap, .slice sq.a sq.len sq.cap] ∧ IpcAt w sp sc sq d ∧ PipeWf d ∧ (∀ c, c ∈ d.Caps → c.wf) ∧ d.Caps.length ≤ 1048576 := by
  obtain ⟨sp, sc, sq, rfl, _, hp, hc, hq⟩ := cells_Ipc (show IsD w (.st [.int .i64 d.Next, .sl 2 (d.Ports.map DPort.dat), .sl 5 (d.Caps.map DCap.dat), .sl 4 (d.Pipes.map DPipe.dat)]) cs from h)
  have h1 : d.dat.sz = 0 + ((Dat.sl 2 (d.Ports.map DPort.dat)).sz + ((Dat.sl 5 (d.Caps.map DCap.dat)).sz + ((Dat.sl 4 (d.Pipes.map DPipe.dat)).sz + 0))) := rfl
  have h2 : (Dat.sl 5 (d.Caps.map DCap.dat)).sz = (d.Caps.map DCap.dat).length + Dat.szs (d.Caps.map DCap.dat) := rfl
  have h3 : (Dat.sl 2 (d.Ports.map DPort.dat)).sz = (d.Ports.map DPort.dat).length + Dat.szs (d.Ports.map DPort.dat) := rfl
  have h4 : (Dat.sl 4 (d.Pipes.map DPipe.dat)).sz = (d.Pipes.map DPipe.dat).length + Dat.szs (d.Pipes.map DPipe.dat) := rfl
  rw [List.length_map] at h2 h3 h4
  have hpp := pipes_of hq (by omega)
  exact ⟨sp, sc, sq, rfl, ⟨caps_of hc (by omega), ports_of hp (by omega), hpp.1, by omega⟩, ⟨hpp.2⟩, caps_wf hc, by omega⟩
theorem nums_cnts {k : IntKind} : ∀ l : List Int, Dat.cnts (l.map (Dat.int k)) = l.length
  | [] => rfl
  | a :: r => by simp only [List.map_cons, Dat.cnts, Dat.cnt, nums_cnts r, List.length_cons]; omega
theorem msg_cnts : ∀ l : List DMsg, Dat.cnts (l.map DMsg.dat) ≤ 2 * (l.map DMsg.dat).length + Dat.szs (l.map DMsg.dat)
  | [] => by simp [Dat.cnts]
  | x :: r => by
    have ih := msg_cnts r
    have h1 : x.dat.cnt = 1 + (Dat.cnts (x.Data.map (Dat.int .u8)) + (1 + 0)) := rfl
    have h2 : x.dat.sz = 0 + ((Dat.sl 1 (x.Data.map (Dat.int .u8))).sz + (0 + 0)) := rfl
    rw [sz_nums] at h2
    rw [nums_cnts] at h1
    simp only [List.map_cons, Dat.cnts, Dat.szs, List.length_cons, h1]; omega
theorem port_cnts : ∀ l : List DPort, Dat.cnts (l.map DPort.dat) ≤ (l.map DPort.dat).length + 2 * Dat.szs (l.map DPort.dat)
  | [] => by simp [Dat.cnts]
  | x :: r => by
    have ih := port_cnts r
    have hm := msg_cnts x.Queue
    have h1 : x.dat.cnt = 1 + (Dat.cnts (x.Queue.map DMsg.dat) + 0) := rfl
    have h2 : x.dat.sz = 0 + (((x.Queue.map DMsg.dat).length + Dat.szs (x.Queue.map DMsg.dat)) + 0) := rfl
    simp only [List.map_cons, Dat.cnts, Dat.szs, List.length_cons, h1]; omega
theorem cap_cnts : ∀ l : List DCap, Dat.cnts (l.map DCap.dat) = 5 * l.length
  | [] => rfl
  | x :: r => by
    have ih := cap_cnts r
    have h1 : x.dat.cnt = 5 := rfl
    simp only [List.map_cons, Dat.cnts, List.length_cons, h1]; omega
theorem pipe_cnts : ∀ l : List DPipe, Dat.cnts (l.map DPipe.dat) ≤ 3 * (l.map DPipe.dat).length + Dat.szs (l.map DPipe.dat)
  | [] => by simp [Dat.cnts]
  | x :: r => by
    have ih := pipe_cnts r
    have h1 : x.dat.cnt = 1 + (1 + (1 + (Dat.cnts (x.Data.map (Dat.int .u8)) + 0))) := rfl
    have h2 : x.dat.sz = 0 + (0 + (0 + ((Dat.sl 1 (x.Data.map (Dat.int .u8))).sz + 0))) := rfl
    rw [sz_nums] at h2
    rw [nums_cnts] at h1
    simp only [List.map_cons, Dat.cnts, Dat.szs, List.length_cons, h1]; omega
theorem ipc_cnt {d : DIpc} (hs : d.dat.sz ≤ 1048576) : d.dat.cntT ≤ 8388608 := by
  have h1 : d.dat.sz = 0 + (((d.Ports.map DPort.dat).length + Dat.szs (d.Ports.map DPort.dat)) + (((d.Caps.map DCap.dat).length + Dat.szs (d.Caps.map DCap.dat)) + (((d.Pipes.map DPipe.dat).length + Dat.szs (d.Pipes.map DPipe.dat)) + 0))) := rfl
  have h2 : d.dat.cntT = 0 + (Dat.cnts (d.Ports.map DPort.dat) + (Dat.cnts (d.Caps.map DCap.dat) + (Dat.cnts (d.Pipes.map DPipe.dat) + 0))) := rfl
  have h3 := port_cnts d.Ports
  have h4 := cap_cnts d.Caps
  have h5 := pipe_cnts d.Pipes
  rw [List.length_map] at h1 h3 h5
  rw [List.length_map, List.length_map] at h1
  omega
end Go.Proofs.Ytbimoajgofcmbaa

namespace Go.Proofs.Ytbimoajgofcmbaa
open Go Go.Den
abbrev IRes := DIpc × DIpcRes
def resE (c : Int) : DIpcRes := ⟨c, 0, [], 0⟩
def resN (n : Int) : DIpcRes := ⟨0, n, [], 0⟩
def atI {α : Type} (l : List α) (i : Int) : Option α := if i < 0 then none else l[i.toNat]?
theorem atI_nat {α : Type} {l : List α} {i : Nat} : atI l (i : Int) = l[i]? := by unfold atI; rw [if_neg (by omega), Int.toNat_natCast]
def capOf (d : DIpc) (id : Int) : Option DCap := atI d.Caps (capIx d id)
def pipeOf (d : DIpc) (id : Int) : Option DPipe := atI d.Pipes (pipeIx d id)
def portOf (d : DIpc) (id : Int) : Option DPort := atI d.Ports (portIx d id)
theorem capIx_cases (d : DIpc) (id : Int) : (capIx d id = -1 ∧ capOf d id = none ∧ ∀ c, c ∈ d.Caps → c.Id ≠ id) ∨ ∃ (k : Nat) (c : DCap), capIx d id = k ∧ d.Caps[k]? = some c ∧ capOf d id = some c ∧ c.Id = id := by
  unfold capOf capIx
  rcases idxFrom_spec (fun c : DCap => c.Id == id) d.Caps 0 with ⟨h1, h2⟩ | ⟨i, x, h1, h2, h3, _⟩
  · refine .inl ⟨h1, by rw [h1]; rfl, fun c hc e => ?_⟩
    have := h2 c hc
    simp [e] at this
  · rw [Nat.zero_add] at h1
    exact .inr ⟨i, x, h1, h2, by rw [h1, atI_nat]; exact h2, by simpa using h3⟩
theorem portIx_cases (d : DIpc) (id : Int) : (portIx d id = -1 ∧ portOf d id = none ∧ ∀ c, c ∈ d.Ports → c.Id ≠ id) ∨ ∃ (k : Nat) (c : DPort), portIx d id = k ∧ d.Ports[k]? = some c ∧ portOf d id = some c ∧ c.Id = id := by
  unfold portOf portIx
  rcases idxFrom_spec (fun c : DPort => c.Id == id) d.Ports 0 with ⟨h1, h2⟩ | ⟨i, x, h1, h2, h3, _⟩
  · refine .inl ⟨h1, by rw [h1]; rfl, fun c hc e => ?_⟩
    have := h2 c hc
    simp [e] at this
  · rw [Nat.zero_add] at h1
    exact .inr ⟨i, x, h1, h2, by rw [h1, atI_nat]; exact h2, by simpa using h3⟩
theorem pipeIx_cases (d : DIpc) (id : Int) : (pipeIx d id = -1 ∧ pipeOf d id = none ∧ ∀ c, c ∈ d.Pipes → c.Id ≠ id) ∨ ∃ (k : Nat) (c : DPipe), pipeIx d id = k ∧ d.Pipes[k]? = some c ∧ pipeOf d id = some c ∧ c.Id = id := by
  unfold pipeOf pipeIx
  rcases idxFrom_spec (fun c : DPipe => c.Id == id) d.Pipes 0 with ⟨h1, h2⟩ | ⟨i, x, h1, h2, h3, _⟩
  · refine .inl ⟨h1, by rw [h1]; rfl, fun c hc e => ?_⟩
    have := h2 c hc
    simp [e] at this
  · rw [Nat.zero_add] at h1
    exact .inr ⟨i, x, h1, h2, by rw [h1, atI_nat]; exact h2, by simpa using h3⟩
def addCap (d : DIpc) (hl p r par : Int) : DIpc := ⟨d.Next + 1, d.Ports, d.Caps ++ [⟨d.Next + 1, hl, p, r, par⟩], d.Pipes⟩
def hasCap (cs : List DCap) (p : DPort) : Bool := cs.any (fun c => c.Port == p.Id)
def cleanF (d : DIpc) : DIpc := ⟨d.Next, d.Ports.filter (hasCap d.Caps), d.Caps, d.Pipes⟩
def reCap (id par : Int) (x : DCap) : DCap := if x.Parent = id then ⟨x.Id, x.Holder, x.Port, x.Rights, par⟩ else x
def dropC (cs : List DCap) (id par : Int) : List DCap := (cs.filter (fun x => x.Id != id)).map (reCap id par)
def dropF (d : DIpc) (id : Int) : DIpc := match capOf d id with
  | none => d
  | some c => ⟨d.Next, d.Ports, dropC d.Caps id c.Parent, d.Pipes⟩
open Classical in
noncomputable def revC (d : DIpc) (top : Int) : List DCap := d.Caps.filter (fun c => !decide (Und d top c.Id))
noncomputable def revF (d : DIpc) (top : Int) : IRes := (⟨d.Next, d.Ports, revC d top, d.Pipes⟩, resN ((d.Caps.length : Int) - ((revC d top).length : Int)))
def giveI (d : DIpc) (o : DIpcOp) (c : DCap) : IRes :=
  if o.To < 0 ∨ 64 ≤ o.To ∨ o.Rights < 1 ∨ 7 < o.Rights then (d, resE 1)
  else if amongB 4 c.Rights = false ∨ amongB o.Rights c.Rights = false then (d, resE 2)
  else if 128 ≤ d.Caps.length then (d, resE 18)
  else (addCap d o.To c.Port o.Rights c.Id, resN (d.Next + 1))
def heardB (d : DIpc) (c : DCap) : Bool := d.Caps.any (fun x => x.Port == c.Port && amongB 2 x.Rights)
def setQ (d : DIpc) (k : Nat) (p : DPort) (q : List DMsg) : DIpc := ⟨d.Next, d.Ports.set k ⟨p.Id, q⟩, d.Caps, d.Pipes⟩
def pushI (d : DIpc) (o : DIpcOp) (c : DCap) : IRes :=
  if heardB d c = false then (d, resE 10)
  else match portOf d c.Port with
    | none => (d, resE 10)
    | some p => if 8 ≤ p.Queue.length then (d, resE 9) else (setQ d (portIx d c.Port).toNat p (p.Queue ++ [⟨o.Holder, o.Data, o.Cap⟩]), resN 0)
def sendI (d : DIpc) (o : DIpcOp) (c : DCap) : IRes :=
  if amongB 1 c.Rights = false then (d, resE 2)
  else if 64 < o.Data.length then (d, resE 16)
  else if o.Cap ≠ 0 then (match capOf d o.Cap with
    | none => (d, resE 5)
    | some k => if k.Holder ≠ o.Holder then (d, resE 5) else if amongB 4 k.Rights = false then (d, resE 2) else pushI d o c)
  else pushI d o c
def recvI (d : DIpc) (o : DIpcOp) (c : DCap) : IRes :=
  if amongB 2 c.Rights = false then (d, resE 2)
  else match portOf d c.Port with
    | none => (d, resE 9)
    | some p => match p.Queue with
      | [] => (d, resE 9)
      | m :: r => match capOf d m.Cap with
        | none => (setQ d (portIx d c.Port).toNat p r, ⟨0, 0, m.Data, m.From⟩)
        | some x => if 0 < m.Cap ∧ d.Caps.length < 128 then (addCap (setQ d (portIx d c.Port).toNat p r) o.Holder x.Port x.Rights m.Cap, ⟨0, d.Next + 1, m.Data, m.From⟩) else (setQ d (portIx d c.Port).toNat p r, ⟨0, 0, m.Data, m.From⟩)
noncomputable def capI (d : DIpc) (o : DIpcOp) (c : DCap) : IRes :=
  if o.Kind = 2 then giveI d o c
  else if o.Kind = 3 then revF d o.Id
  else if o.Kind = 4 then (cleanF (dropF d o.Id), resN 0)
  else if o.Kind = 5 then sendI d o c
  else recvI d o c
def idsOf (d : DIpc) (hl : Int) : List Int := (d.Caps.filter (fun c => c.Holder == hl)).map DCap.Id
def goneI (d : DIpc) (o : DIpcOp) : IRes := (cleanF ((idsOf d o.Holder).foldl dropF d), resN ((idsOf d o.Holder).length : Int))
def setP (d : DIpc) (k : Nat) (p : DPipe) : DIpc := ⟨d.Next, d.Ports, d.Caps, d.Pipes.set k p⟩
def endsI (d : DIpc) (o : DIpcOp) (k : Nat) (p : DPipe) : IRes :=
  if o.To < -p.Readers ∨ 64 - p.Readers < o.To ∨ o.N < -p.Writers ∨ 64 - p.Writers < o.N then (d, resE 1)
  else if (p.Readers + o.To) + (p.Writers + o.N) = 0 then (⟨d.Next, d.Ports, d.Caps, d.Pipes.eraseIdx k⟩, resN 0)
  else (setP d k ⟨p.Id, p.Readers + o.To, p.Writers + o.N, p.Data⟩, resN 0)
def wlen (o : DIpcOp) (p : DPipe) : Nat := min (512 - p.Data.length) o.Data.length
def writeI (d : DIpc) (o : DIpcOp) (k : Nat) (p : DPipe) : IRes :=
  if p.Readers = 0 then (d, resE 10)
  else if wlen o p = 0 ∧ 0 < o.Data.length then (d, resE 9)
  else (setP d k ⟨p.Id, p.Readers, p.Writers, p.Data ++ o.Data.take (wlen o p)⟩, resN (wlen o p : Nat))
def rlen (o : DIpcOp) (p : DPipe) : Nat := min o.N.toNat p.Data.length
def readI (d : DIpc) (o : DIpcOp) (k : Nat) (p : DPipe) : IRes :=
  if o.N < 0 ∨ 1024 < o.N then (d, resE 1)
  else if p.Data.length = 0 ∧ 0 < p.Writers ∧ 0 < o.N then (d, resE 9)
  else (setP d k ⟨p.Id, p.Readers, p.Writers, p.Data.drop (rlen o p)⟩, ⟨0, 0, p.Data.take (rlen o p), 0⟩)
def pipeI (d : DIpc) (o : DIpcOp) (k : Nat) (p : DPipe) : IRes :=
  if o.Kind = 9 then endsI d o k p else if o.Kind = 10 then writeI d o k p else readI d o k p
def newPort (d : DIpc) (o : DIpcOp) : IRes :=
  if 32 ≤ d.Ports.length ∨ 128 ≤ d.Caps.length then (d, resE 18)
  else (⟨d.Next + 2, d.Ports ++ [⟨d.Next + 1, []⟩], d.Caps ++ [⟨d.Next + 2, o.Holder, d.Next + 1, 7, 0⟩], d.Pipes⟩, resN (d.Next + 2))
def newPipe (d : DIpc) : IRes :=
  if 32 ≤ d.Pipes.length then (d, resE 18)
  else (⟨d.Next + 1, d.Ports, d.Caps, d.Pipes ++ [⟨d.Next + 1, 1, 1, []⟩]⟩, resN (d.Next + 1))
def BadO (o : DIpcOp) : Prop := o.Holder < 0 ∨ 64 ≤ o.Holder ∨ o.Kind < 1 ∨ 11 < o.Kind
instance (o : DIpcOp) : Decidable (BadO o) := by unfold BadO; infer_instance
noncomputable def stepI (d : DIpc) (o : DIpcOp) : IRes :=
  if BadO o then (d, resE 1)
  else if o.Kind = 1 then newPort d o
  else if o.Kind = 7 then goneI d o
  else if o.Kind = 8 then newPipe d
  else if 9 ≤ o.Kind then (match pipeOf d o.Id with
    | none => (d, resE 5)
    | some p => pipeI d o (pipeIx d o.Id).toNat p)
  else match capOf d o.Id with
    | none => (d, resE 5)
    | some c => if c.Holder ≠ o.Holder then (d, resE 5) else capI d o c
end Go.Proofs.Ytbimoajgofcmbaa

namespace Go.Proofs.Ytbimoajgofcmbaa
open Go Go.Den
structure RMsg where
  From : Int
  D : Sl
  Cap : Int
  Data : List Int
def RMsg.cells (x : RMsg) : List Value := [.int .i64 x.From, .slice x.D.a x.D.len x.D.cap, .int .i64 x.Cap]
def RMsg.abs (x : RMsg) : DMsg := ⟨x.From, x.Data, x.Cap⟩
structure RPort where
  Id : Int
  q : Sl
  Q : List RMsg
def RPort.cells (x : RPort) : List Value := [.int .i64 x.Id, .slice x.q.a x.q.len x.q.cap]
def RPort.abs (x : RPort) : DPort := ⟨x.Id, x.Q.map RMsg.abs⟩
structure RPipe where
  Id : Int
  R : Int
  W : Int
  D : Sl
  Data : List Int
def RPipe.cells (x : RPipe) : List Value := [.int .i64 x.Id, .int .i64 x.R, .int .i64 x.W, .slice x.D.a x.D.len x.D.cap]
def RPipe.abs (x : RPipe) : DPipe := ⟨x.Id, x.R, x.W, x.Data⟩
structure RIpc where
  Next : Int
  Ports : List RPort
  Caps : List DCap
  Pipes : List RPipe
def RIpc.abs (r : RIpc) : DIpc := ⟨r.Next, r.Ports.map RPort.abs, r.Caps, r.Pipes.map RPipe.abs⟩
abbrev rD (t : Sl) (l : List Int) : Asr := aRow t 1 (nums .u8 l)
def msgA (x : RMsg) : Asr := rD x.D x.Data
abbrev rM (t : Sl) (l : List RMsg) : Asr := aRow t 3 (recs RMsg.cells l)
def portA (x : RPort) : Asr := All [rM x.q x.Q, aBag msgA x.Q]
def pipeA (x : RPipe) : Asr := rD x.D x.Data
abbrev rP (t : Sl) (l : List RPort) : Asr := aRow t 2 (recs RPort.cells l)
abbrev rC (t : Sl) (l : List DCap) : Asr := aRow t 5 (recs DCap.cells l)
abbrev rQ (t : Sl) (l : List RPipe) : Asr := aRow t 4 (recs RPipe.cells l)
structure Byts (m : List Int) : Prop where
  rng : ∀ x, x ∈ m → 0 ≤ x ∧ x ≤ 255
  few : m.length ≤ 1048576
structure IWf (d : DIpc) : Prop where
  msgs : ∀ p, p ∈ d.Ports → ∀ m, m ∈ p.Queue → Byts m.Data
  pipes : ∀ p, p ∈ d.Pipes → Byts p.Data
  pw : PipeWf d
  few : d.Caps.length ≤ 1048576 ∧ d.Ports.length ≤ 1048576 ∧ d.Pipes.length ≤ 1048576
  queues : ∀ p, p ∈ d.Ports → p.Queue.length ≤ 1048576
theorem map_get {α β : Type} {f : α → β} {l : List α} {i : Nat} {y : β} (h : (l.map f)[i]? = some y) : ∃ x, l[i]? = some x ∧ f x = y := by
  rw [List.getElem?_map] at h
  cases hx : l[i]? with
  | none => rw [hx] at h; cases h
  | some x => rw [hx] at h; exact ⟨x, rfl, by simpa using h⟩
theorem msgs_at {w0 w : World} {t : Sl} {l : List RMsg} {F : List Asr} (h : SH w0 w (rM t l :: aBag msgA l :: F)) (hb : ∀ m, m ∈ l.map RMsg.abs → Byts m.Data) : MsgsAt w t (l.map RMsg.abs) := by
  refine ⟨by have := h.len 0 rfl; rw [recs_len] at this; rw [List.length_map]; exact this, fun i y hy => ?_⟩
  obtain ⟨x, hx, rfl⟩ := map_get hy
  obtain ⟨q, hq⟩ := h.rowQ 0 rfl hx
  have hby := hb x.abs (List.mem_map.2 ⟨x, List.mem_of_getElem? hx, rfl⟩)
  have h2 : SH w0 w (rD x.D x.Data :: aBag msgA (l.eraseIdx i) :: rM t l :: F) := h.p1.bagOut hx |>.perm (by exact List.Perm.refl _)
  exact ⟨q, x.D, hq, h.rdR 0 rfl hq hx rfl, h.rdR 0 rfl hq hx rfl, h.rdR 0 rfl hq hx rfl, h2.byAt 0 rfl hby.rng (by have := hby.few; show x.Data.length ≤ _; have h3 : x.abs.Data = x.Data := rfl; rw [h3] at this; omega)⟩
theorem ports_at {w0 w : World} {t : Sl} {l : List RPort} {F : List Asr} (h : SH w0 w (rP t l :: aBag portA l :: F)) (hb : ∀ p, p ∈ l.map RPort.abs → ∀ m, m ∈ p.Queue → Byts m.Data) : PortsAt w t (l.map RPort.abs) := by
  refine ⟨by have := h.len 0 rfl; rw [recs_len] at this; rw [List.length_map]; exact this, fun i y hy => ?_⟩
  obtain ⟨x, hx, rfl⟩ := map_get hy
  obtain ⟨q, hq⟩ := h.rowQ 0 rfl hx
  have h2 : SH w0 w (All [rM x.q x.Q, aBag msgA x.Q] :: aBag portA (l.eraseIdx i) :: rP t l :: F) := h.p1.bagOut hx
  exact ⟨q, x.q, hq, h.rdR 0 rfl hq hx rfl, h.rdR 0 rfl hq hx rfl, msgs_at h2.allOut (hb x.abs (List.mem_map.2 ⟨x, List.mem_of_getElem? hx, rfl⟩))⟩
theorem pipes_at {w0 w : World} {t : Sl} {l : List RPipe} {F : List Asr} (h : SH w0 w (rQ t l :: aBag pipeA l :: F)) (hb : ∀ p, p ∈ l.map RPipe.abs → Byts p.Data) : PipesAt w t (l.map RPipe.abs) := by
  refine ⟨by have := h.len 0 rfl; rw [recs_len] at this; rw [List.length_map]; exact this, fun i y hy => ?_⟩
  obtain ⟨x, hx, rfl⟩ := map_get hy
  obtain ⟨q, hq⟩ := h.rowQ 0 rfl hx
  have hby := hb x.abs (List.mem_map.2 ⟨x, List.mem_of_getElem? hx, rfl⟩)
  have h2 : SH w0 w (rD x.D x.Data :: aBag pipeA (l.eraseIdx i) :: rQ t l :: F) := h.p1.bagOut hx
  exact ⟨q, x.D, hq, h.rdR 0 rfl hq hx rfl, h.rdR 0 rfl hq hx rfl, h.rdR 0 rfl hq hx rfl, h.rdR 0 rfl hq hx rfl, h2.byAt 0 rfl hby.rng (by have := hby.few; show x.Data.length ≤ _; have h3 : x.abs.Data = x.Data := rfl; rw [h3] at this; omega)⟩
theorem caps_at {w0 w : World} {As : List Asr} (h : SH w0 w As) (n : Nat) {t : Sl} {l : List DCap} (hA : As[n]? = some (rC t l)) (hf : l.length ≤ 1048576) : RecsAt w t 5 DCap.cells l :=
  ⟨by have := h.len n hA; rw [recs_len] at this; exact this, h.rowR n hA, by omega, fun _ => rfl⟩
def sP (tp tc tq : Sl) (r : RIpc) : List Asr := [rP tp r.Ports, aBag portA r.Ports, rC tc r.Caps, rQ tq r.Pipes, aBag pipeA r.Pipes]
theorem ipc_at {w0 w : World} {tp tc tq : Sl} {r : RIpc} {F : List Asr} (h : SH w0 w (sP tp tc tq r ++ F)) (hw : IWf r.abs) : IpcAt w tp tc tq r.abs := by
  have h : SH w0 w (rP tp r.Ports :: aBag portA r.Ports :: rC tc r.Caps :: rQ tq r.Pipes :: aBag pipeA r.Pipes :: F) := h
  exact ⟨caps_at h 2 rfl hw.few.1, ports_at h hw.msgs, pipes_at ((h.fro 4 rfl).fro 4 rfl) hw.pipes, by have := hw.few; omega⟩
end Go.Proofs.Ytbimoajgofcmbaa

namespace Go.Proofs.Ytbimoajgofcmbaa
open Go Go.Den
theorem msg_ce (m : DMsg) : m.dat.ce = [.v (.int .i64 m.From), .sl 1 (nums .u8 m.Data), .v (.int .i64 m.Cap)] := by
  simp [DMsg.dat, Dat.ce, Dat.ces, ceE_nums]
theorem port_ce (p : DPort) : p.dat.ce = [.v (.int .i64 p.Id), .sl 3 (p.Queue.map (fun m => m.dat.ce))] := by
  simp [DPort.dat, Dat.ce, Dat.ces, ceE_map]
theorem pipe_ce (p : DPipe) : p.dat.ce = [.v (.int .i64 p.Id), .v (.int .i64 p.Readers), .v (.int .i64 p.Writers), .sl 1 (nums .u8 p.Data)] := by
  simp [DPipe.dat, Dat.ce, Dat.ces, ceE_nums]
theorem close_msgs {w0 w : World} {t : Sl} {l : List RMsg} {F : List Asr} (h : SH w0 w (rM t l :: aBag msgA l :: F)) : SH w0 w (aRow t 3 ((l.map RMsg.abs).map (fun m => m.dat.ce)) :: F) := by
  have := SH.closeBag (f := RMsg.cells) (g := fun m => m.abs.dat.ce) (e1 := fun x => [.int .i64 x.From]) (e2 := fun x => [.int .i64 x.Cap]) (hd := RMsg.D) (els := fun x => nums .u8 x.Data) (z' := 1) (fun x => rfl) (fun x => by rw [msg_ce]; rfl) (a := []) (b := l) h
  rw [List.map_map]
  exact this
theorem close_ports {w0 w : World} {t : Sl} {l : List RPort} {F : List Asr} (h : SH w0 w (rP t l :: aBag portA l :: F)) : SH w0 w (aRow t 2 ((l.map RPort.abs).map (fun m => m.dat.ce)) :: F) := by
  have h1 := SH.bagMap (g := fun x : RPort => aRow x.q 3 ((x.Q.map RMsg.abs).map (fun m => m.dat.ce))) (fun x _ G hx => close_msgs (SH.allOut hx)) h.p1
  have := SH.closeBag (f := RPort.cells) (g := fun m => m.abs.dat.ce) (e1 := fun x => [.int .i64 x.Id]) (e2 := fun x => []) (hd := RPort.q) (els := fun x => (x.Q.map RMsg.abs).map (fun m => m.dat.ce)) (z' := 3) (fun x => rfl) (fun x => by rw [port_ce]; rfl) (a := []) (b := l) h1.p1
  rw [List.map_map]
  exact this
theorem close_pipes {w0 w : World} {t : Sl} {l : List RPipe} {F : List Asr} (h : SH w0 w (rQ t l :: aBag pipeA l :: F)) : SH w0 w (aRow t 4 ((l.map RPipe.abs).map (fun m => m.dat.ce)) :: F) := by
  have := SH.closeBag (f := RPipe.cells) (g := fun m => m.abs.dat.ce) (e1 := fun x => [.int .i64 x.Id, .int .i64 x.R, .int .i64 x.W]) (e2 := fun x => []) (hd := RPipe.D) (els := fun x => nums .u8 x.Data) (z' := 1) (fun x => rfl) (fun x => by rw [pipe_ce]; rfl) (a := []) (b := l) h
  rw [List.map_map]
  exact this
theorem capC_ce (x : DCap) : x.dat.ce = x.cells.map Ce.v := by simp [DCap.dat, DCap.cells, Dat.ce, Dat.ces]
theorem capsC_ce (l : List DCap) : l.map (fun x => x.dat.ce) = recs DCap.cells l := by
  unfold recs
  exact List.map_congr_left (fun x _ => capC_ce x)
theorem ipc_ce (d : DIpc) : d.dat.ce = [.v (.int .i64 d.Next), .sl 2 (d.Ports.map (fun m => m.dat.ce)), .sl 5 (recs DCap.cells d.Caps), .sl 4 (d.Pipes.map (fun m => m.dat.ce))] := by
  simp only [DIpc.dat, Dat.ce, Dat.ces, ceE_map, List.cons_append, List.nil_append, capsC_ce]
end Go.Proofs.Ytbimoajgofcmbaa

namespace Go.Proofs.Ytbimoajgofcmbaa
open Go Go.Den
abbrev BI (b : Nat) (n : Int) (tp tc tq : Sl) : Asr := aB b ((ipcV n tp tc tq).map Ce.v)
abbrev iV (n : Int) (tp tc tq : Sl) : Value := .agg #[.int .i64 n, .slice tp.a tp.len tp.cap, .slice tc.a tc.len tc.cap, .slice tq.a tq.len tq.cap]
abbrev bP (l : List RPort) : Asr := aBag portA l
abbrev bM (l : List RMsg) : Asr := aBag msgA l
abbrev bQ (l : List RPipe) : Asr := aBag pipeA l
abbrev N0 : Sl := ⟨none, 0, 0⟩
theorem plain_cap' (x : DCap) : ∀ v, v ∈ x.cells → plainB v = true := fun v hv => by
  simp only [DCap.cells, List.mem_cons, List.not_mem_nil, or_false] at hv
  rcases hv with rfl | rfl | rfl | rfl | rfl <;> rfl
theorem plain_msg (x : RMsg) : ∀ v, v ∈ x.cells → plainB v = true := fun v hv => by
  simp only [RMsg.cells, List.mem_cons, List.not_mem_nil, or_false] at hv
  rcases hv with rfl | rfl | rfl <;> rfl
theorem plain_port (x : RPort) : ∀ v, v ∈ x.cells → plainB v = true := fun v hv => by
  simp only [RPort.cells, List.mem_cons, List.not_mem_nil, or_false] at hv
  rcases hv with rfl | rfl <;> rfl
theorem plain_pipe (x : RPipe) : ∀ v, v ∈ x.cells → plainB v = true := fun v hv => by
  simp only [RPipe.cells, List.mem_cons, List.not_mem_nil, or_false] at hv
  rcases hv with rfl | rfl | rfl | rfl <;> rfl
theorem take_snoc' {α : Type} {l : List α} {k : Nat} {x : α} (hx : l[k]? = some x) : l.take (k + 1) = l.take k ++ [x] := by
  rw [List.take_add_one, hx]; rfl
structure ILent (w : World) (sp sc sq : Sl) (d : DIpc) : Prop where
  at_ : IpcAt w sp sc sq d
  wf : IWf d
theorem ILent.ext {w w' : World} {sp sc sq : Sl} {d : DIpc} (h : ILent w sp sc sq d) (e : Ext w w') : ILent w' sp sc sq d := ⟨h.at_.ext e, h.wf⟩
def KI (d : DIpc) (w : World) (v : Value) (w' : World) : Prop := ∃ (tp tc tq : Sl) (r : RIpc), v = iV r.Next tp tc tq ∧ r.abs = d ∧ SH w w' (sP tp tc tq r)
set_option maxHeartbeats 2000000 in
theorem c74 {w : World} {sp sc sq : Sl} {d : DIpc} (hd : ILent w sp sc sq d) : CallW Try.prog 74 #[iV d.Next sp sc sq] w (KI d w) := by
  refine go74 ?_
  unfold W74; (try delta qn ql qb qi qS qI qP qQ qR qU qA qC)
  have hcl := hd.at_.caps.len
  have hpl := hd.at_.ports.len
  have hql := hd.at_.pipes.len
  obtain ⟨f1, f2, f3⟩ := hd.wf.few
  have h := SH.start w
  refine h.alloc (fun w1 h e1 n1 => ?_)
  refine h.alloc (fun w2 h e2 n2 => ?_)
  have h : SH w w2 [BI w1.heap.size 0 N0 N0 N0, BI w.heap.size d.Next sp sc sq] := h
  refine ⟨_, h.cell 1 rfl rfl, ?_⟩
  refine h.setV 0 rfl rfl (fun w4 h n4 => ?_)
  have h : SH w w4 [BI w1.heap.size d.Next N0 N0 N0, BI w.heap.size d.Next sp sc sq] := h
  refine ⟨N0, h.cell 0 rfl rfl, sc, h.cell 1 rfl rfl, ?_⟩
  refine SH.appendR (f := DCap.cells) (l := []) (us := d.Caps) (h.nil none 5) (hd.ext h.ext).at_.caps.row hcl.symm (fun _ => rfl) rfl rfl (by decide) (by show (_ + _) * 40 ≤ _; simp; omega) plain_cap' (fun tc w8 h htc nw8 => ?_)
  refine h.setV 1 rfl rfl (fun w9 h n9 => ?_)
  have h : SH w w9 [rC tc d.Caps, BI w1.heap.size d.Next N0 tc N0, BI w.heap.size d.Next sp sc sq] := h
  refine ⟨sp, h.cell 2 rfl rfl, ?_⟩
  refine LoopW.m1 (fun (i : Int) w' => ∃ (k : Nat) (ps : List RPort) (tp : Sl), i = k ∧ k ≤ d.Ports.length ∧ ps.map RPort.abs = d.Ports.take k ∧ SH w w' [rP tp ps, bP ps, rC tc d.Caps, BI w1.heap.size d.Next tp tc N0, BI w.heap.size d.Next sp sc sq]) (fun (i : Int) _ => (d.Ports.length - i).toNat) ⟨0, [], N0, rfl, by omega, rfl, (SH.bagNil portA h).nil none 2⟩ ?_
  clear h
  rintro (i : Int) w13 ⟨k, ps, tp, rfl, hk, hps, h⟩ J hJ
  have hpsl : ps.length = k := by have := congrArg List.length hps; rw [List.length_map, List.length_take] at this; omega
  refine BIf.dec (fun hlt => ?_) (fun hge => ?_)
  · have hget : d.Ports[k]? = some d.Ports[k] := List.getElem?_eq_getElem (by omega)
    have hmsgs := hd.wf.msgs _ (List.mem_of_getElem? hget)
    have hqf := hd.wf.queues _ (List.mem_of_getElem? hget)
    generalize d.Ports[k] = x at *
    obtain ⟨q, t, hq, c0, c1, hm⟩ := hd.at_.ports.get k x hget
    have hml := hm.len
    simp only [Int.toNat_natCast]
    rw [w64 (n := (k : Int) + 1) (by omega) (by omega)]
    refine ⟨by omega, by omega, q, hq, _, h.ext.cell c0, t, h.ext.cell c1, ?_⟩
    refine h.alloc (fun w17 h e17 n17 => ?_)
    refine h.put 0 rfl rfl rfl (fun w18 h n18 => ?_)
    refine ⟨_, h.cell 0 rfl rfl, ?_⟩
    refine h.alloc (fun w20 h e20 n20 => ?_)
    refine h.put 0 rfl rfl rfl (fun w21 h n21 => ?_)
    refine ⟨t, h.cell 1 rfl rfl, ?_⟩
    have h : SH w w21 [aB w18.heap.size (([.int .i64 x.Id, .slice N0.a N0.len N0.cap] : List Value).map Ce.v), aB w13.heap.size (([.int .i64 x.Id, .slice t.a t.len t.cap] : List Value).map Ce.v), rP tp ps, bP ps, rC tc d.Caps, BI w1.heap.size d.Next tp tc N0, BI w.heap.size d.Next sp sc sq] := h
    refine LoopW.m1 (fun (j : Int) w' => ∃ (m : Nat) (ms : List RMsg) (tm : Sl), j = m ∧ m ≤ x.Queue.length ∧ ms.map RMsg.abs = x.Queue.take m ∧ SH w w' [rM tm ms, bM ms, aB w18.heap.size (([.int .i64 x.Id, .slice tm.a tm.len tm.cap] : List Value).map Ce.v), aB w13.heap.size (([.int .i64 x.Id, .slice t.a t.len t.cap] : List Value).map Ce.v), rP tp ps, bP ps, rC tc d.Caps, BI w1.heap.size d.Next tp tc N0, BI w.heap.size d.Next sp sc sq]) (fun (j : Int) _ => (x.Queue.length - j).toNat) ⟨0, [], N0, rfl, by omega, rfl, (SH.bagNil msgA h).nil none 3⟩ ?_
    clear h
    rintro (j : Int) w25 ⟨m, ms, tm, rfl, hm1, hms, h⟩ J2 hJ2
    have hmsl : ms.length = m := by have := congrArg List.length hms; rw [List.length_map, List.length_take] at this; omega
    refine BIf.dec (fun hlt2 => ?_) (fun hge2 => ?_)
    · have hget2 : x.Queue[m]? = some x.Queue[m] := List.getElem?_eq_getElem (by omega)
      generalize x.Queue[m] = y at *
      have hby0 := hmsgs y (List.mem_of_getElem? hget2)
      obtain ⟨q2, td, hq2, d0, d1, d2, hby⟩ := hm.get m y hget2
      simp only [Int.toNat_natCast]
      rw [w64 (n := (m : Int) + 1) (by omega) (by omega)]
      refine ⟨by omega, by omega, q2, hq2, _, h.ext.cell d0, td, h.ext.cell d1, _, h.ext.cell d2, ?_⟩
      refine h.alloc (fun w30 h e30 n30 => ?_)
      refine h.put 0 rfl rfl rfl (fun w31 h n31 => ?_)
      have h := h.drew
      refine ⟨tm, h.cell 3 rfl rfl, _, h.cell 0 rfl rfl, td, h.cell 0 rfl rfl, _, h.cell 0 rfl rfl, ?_⟩
      have hbl := hby0.few
      have hyl := hby.len
      refine SH.appendN (k := .u8) (m := []) (us := y.Data) (h.nil none 1) (hby.ext h.ext).row rfl rfl (by decide) (by show (_ + _) * 1 ≤ _; simp; omega) (fun t36 w37 h ht36 _ => ?_)
      have h : SH w w37 (rD t36 y.Data :: _) := h
      refine ⟨⟨_, h.cell 1 rfl rfl, rfl⟩, ⟨_, h.cell 1 rfl rfl, rfl⟩, ⟨tm, h.cell 4 rfl rfl, rfl⟩, ?_⟩
      refine h.alloc (fun w41 h e41 n41 => ?_)
      have hrow : RowAt w41 (some ⟨w37.heap.size, 0, none⟩) (1 * 3) ([(⟨y.From, t36, y.Cap, y.Data⟩ : RMsg)].flatMap RMsg.cells) := row_one (h.blkAt 0 rfl) rfl
      refine ⟨⟨tm, h.cell 5 rfl rfl, rfl⟩, ?_⟩
      have h := (h.dropAt 2).drop
      have h : SH w w41 [rD t36 y.Data, rM tm ms, bM ms, aB w18.heap.size (([.int .i64 x.Id, .slice tm.a tm.len tm.cap] : List Value).map Ce.v), aB w13.heap.size (([.int .i64 x.Id, .slice t.a t.len t.cap] : List Value).map Ce.v), rP tp ps, bP ps, rC tc d.Caps, BI w1.heap.size d.Next tp tc N0, BI w.heap.size d.Next sp sc sq] := h
      refine SH.appendR (f := RMsg.cells) (us := [⟨y.From, t36, y.Cap, y.Data⟩]) h.p1 hrow rfl (fun _ => rfl) rfl rfl (by decide) (by show (_ + _) * 40 ≤ _; simp; omega) plain_msg (fun tm2 w44 h htm2 _ => ?_)
      refine h.setV 3 rfl rfl (fun w45 h n45 => ?_)
      have h : SH w w45 (msgA ⟨y.From, t36, y.Cap, y.Data⟩ :: bM ms :: _) := (h.fro 2 rfl).fro 2 rfl
      have h := SH.bagSnoc h
      refine hJ2 _ _ ⟨m + 1, ms ++ [⟨y.From, t36, y.Cap, y.Data⟩], tm2, by omega, by omega, ?_, h.p1⟩ (by omega)
      rw [List.map_append, hms, take_snoc' hget2]
      rfl
    · have hme : m = x.Queue.length := by omega
      rw [hme, List.take_length] at hms
      refine ⟨tp, h.cell 7 rfl rfl, _, h.cell 2 rfl rfl, tm, h.cell 2 rfl rfl, ?_⟩
      have h : SH w w25 (portA ⟨x.Id, tm, ms⟩ :: _) := SH.allIn (As := [rM tm ms, bM ms]) h
      have h := (h.dropAt 2).dropAt 1
      have h : SH w w25 [portA ⟨x.Id, tm, ms⟩, rP tp ps, bP ps, rC tc d.Caps, BI w1.heap.size d.Next tp tc N0, BI w.heap.size d.Next sp sc sq] := h
      refine LetW_iff.2 (SH.appendR1 (f := RPort.cells) (x := ⟨x.Id, tm, ms⟩) h.p1 rfl rfl rfl (by decide) (by show (_ + _) * 32 ≤ _; omega) (plain_port _) (fun tp2 w51 h htp2 _ => ?_))
      refine h.setV 4 rfl rfl (fun w52 h n52 => ?_)
      have h : SH w w52 (portA ⟨x.Id, tm, ms⟩ :: bP ps :: _) := ((h.fro 2 rfl).fro 2 rfl)
      have h := SH.bagSnoc h
      refine hJ _ _ ⟨k + 1, ps ++ [⟨x.Id, tm, ms⟩], tp2, by omega, by omega, ?_, h.p1⟩ (by omega)
      rw [List.map_append, hps, take_snoc' hget]
      show _ ++ [(⟨x.Id, ms.map RMsg.abs⟩ : DPort)] = _
      rw [hms]
  · have hke : k = d.Ports.length := by omega
    rw [hke, List.take_length] at hps
    refine ⟨sq, h.cell 4 rfl rfl, ?_⟩
    refine LoopW.m1 (fun (i : Int) w' => ∃ (k : Nat) (qs : List RPipe) (tq : Sl), i = k ∧ k ≤ d.Pipes.length ∧ qs.map RPipe.abs = d.Pipes.take k ∧ SH w w' [rQ tq qs, bQ qs, rP tp ps, bP ps, rC tc d.Caps, BI w1.heap.size d.Next tp tc tq, BI w.heap.size d.Next sp sc sq]) (fun (i : Int) _ => (d.Pipes.length - i).toNat) ⟨0, [], N0, rfl, by omega, rfl, (SH.bagNil pipeA h).nil none 4⟩ ?_
    clear h hJ
    rintro (i : Int) w56 ⟨m, qs, tq, rfl, hm, hqs, h⟩ J hJ
    have hqsl : qs.length = m := by have := congrArg List.length hqs; rw [List.length_map, List.length_take] at this; omega
    refine BIf.dec (fun hlt => ?_) (fun hge => ?_)
    · have hget : d.Pipes[m]? = some d.Pipes[m] := List.getElem?_eq_getElem (by omega)
      have hby0 := hd.wf.pipes _ (List.mem_of_getElem? hget)
      generalize d.Pipes[m] = x at *
      obtain ⟨q, t, hq, c0, c1, c2, c3, hby⟩ := hd.at_.pipes.get m x hget
      simp only [Int.toNat_natCast]
      rw [w64 (n := (m : Int) + 1) (by omega) (by omega)]
      refine ⟨by omega, by omega, q, hq, _, h.ext.cell c0, _, h.ext.cell c1, _, h.ext.cell c2, t, h.ext.cell c3, ?_⟩
      refine h.alloc (fun w62 h e62 n62 => ?_)
      refine h.put 0 rfl rfl rfl (fun w63 h n63 => ?_)
      refine ⟨t, h.cell 0 rfl rfl, ?_⟩
      have hbl := hby0.few
      have hyl := hby.len
      refine SH.appendN (k := .u8) (m := []) (us := x.Data) (h.nil none 1) (hby.ext h.ext).row rfl rfl (by decide) (by show (_ + _) * 1 ≤ _; simp; omega) (fun t65 w66 h ht65 _ => ?_)
      refine h.setV 1 rfl rfl (fun w67 h n67 => ?_)
      have h : SH w w67 [rD t65 x.Data, aB w56.heap.size (([.int .i64 x.Id, .int .i64 x.Readers, .int .i64 x.Writers, .slice t65.a t65.len t65.cap] : List Value).map Ce.v), rQ tq qs, bQ qs, rP tp ps, bP ps, rC tc d.Caps, BI w1.heap.size d.Next tp tc tq, BI w.heap.size d.Next sp sc sq] := h
      refine ⟨tq, h.cell 7 rfl rfl, _, h.cell 1 rfl rfl, _, h.cell 1 rfl rfl, _, h.cell 1 rfl rfl, t65, h.cell 1 rfl rfl, ?_⟩
      refine LetW_iff.2 (SH.appendR1 (f := RPipe.cells) (x := ⟨x.Id, x.Readers, x.Writers, t65, x.Data⟩) (h.dropAt 1).p1 rfl rfl rfl (by decide) (by show (_ + _) * 48 ≤ _; omega) (plain_pipe _) (fun tq2 w75 h htq2 _ => ?_))
      refine h.setV 6 rfl rfl (fun w76 h n76 => ?_)
      have h : SH w w76 (pipeA ⟨x.Id, x.Readers, x.Writers, t65, x.Data⟩ :: bQ qs :: _) := ((h.fro 2 rfl).fro 2 rfl)
      have h := SH.bagSnoc h
      refine hJ _ _ ⟨m + 1, qs ++ [⟨x.Id, x.Readers, x.Writers, t65, x.Data⟩], tq2, by omega, by omega, ?_, h.p1⟩ (by omega)
      rw [List.map_append, hqs, take_snoc' hget]
      rfl
    · have hme : m = d.Pipes.length := by omega
      rw [hme, List.take_length] at hqs
      refine ⟨_, h.cell 5 rfl rfl, tp, h.cell 5 rfl rfl, tc, h.cell 5 rfl rfl, tq, h.cell 5 rfl rfl, ?_⟩
      refine h.put 5 rfl rfl rfl (fun w81 h n81 => ?_)
      refine ⟨_, h.cell 5 rfl rfl, tp, h.cell 5 rfl rfl, tc, h.cell 5 rfl rfl, tq, h.cell 5 rfl rfl, tp, tc, tq, ⟨d.Next, ps, d.Caps, qs⟩, rfl, ?_, ?_⟩
      · unfold RIpc.abs
        rw [hps, hqs]
      · exact ((h.dropAt 6).dropAt 5).perm (by
          show List.Perm [rQ tq qs, bQ qs, rP tp ps, bP ps, rC tc d.Caps] [rP tp ps, bP ps, rC tc d.Caps, rQ tq qs, bQ qs]
          exact (List.perm_append_comm (l₁ := [rQ tq qs, bQ qs]) (l₂ := [rP tp ps, bP ps, rC tc d.Caps])))
end Go.Proofs.Ytbimoajgofcmbaa

namespace Go.Proofs.Ytbimoajgofcmbaa
open Go Go.Den
def ST (b : Nat) (tp tc tq : Sl) (r : RIpc) : List Asr := BI b r.Next tp tc tq :: sP tp tc tq r
theorem s105 {w0 w : World} {F : List Asr} {b : Nat} {n : Int} {tp tc tq : Sl} (h : SH w0 w (BI b n tp tc tq :: F)) (h0 : 0 ≤ n) (h1 : n ≤ 1099511628800) :
    CallW Try.prog 105 #[.pointer (some ⟨b, 0, none⟩)] w (fun v w' => v = .int .i64 (n + 1) ∧ SH w0 w' (BI b (n + 1) tp tc tq :: F)) := by
  refine go105 ?_
  unfold W105; (try delta qn ql qb qi qS qI qP qQ qR qU qA qC)
  refine ⟨_, rfl, _, h.cellP 0 rfl rfl, _, rfl, ?_⟩
  rw [w64 (n := n + 1) (by omega) (by omega)]
  refine h.setVP 0 rfl rfl (fun w4 h n4 => ?_)
  exact ⟨_, rfl, _, h.cellP 0 rfl rfl, rfl, h⟩
theorem s106 {w0 w : World} {F : List Asr} {b : Nat} {n : Int} {tp tc tq : Sl} {cs : List DCap} {c : DCap} (h : SH w0 w (BI b n tp tc tq :: rC tc cs :: F)) (h0 : 0 ≤ n) (h1 : n ≤ 1099511628800) (hf : cs.length ≤ 1048576) :
    CallW Try.prog 106 #[.pointer (some ⟨b, 0, none⟩), .agg #[.int .i64 c.Id, .int .i64 c.Holder, .int .i64 c.Port, .int .i64 c.Rights, .int .i64 c.Parent]] w (fun v w' => ∃ tc' : Sl, v = .int .i64 (n + 1) ∧ SH w0 w' (BI b (n + 1) tp tc' tq :: rC tc' (cs ++ [⟨n + 1, c.Holder, c.Port, c.Rights, c.Parent⟩]) :: F)) := by
  refine go106 ?_
  unfold W106; (try delta qn ql qb qi qS qI qP qQ qR qU qA qC)
  refine h.alloc (fun w1 h e1 n1 => ?_)
  refine (s105 h.p1 h0 h1).mono ?_
  rintro _ w3 ⟨rfl, h⟩
  refine ⟨_, rfl, ?_⟩
  have h := h.p1
  refine h.setV 0 rfl rfl (fun w5 h n5 => ?_)
  have h : SH w0 w5 (aB w.heap.size ((⟨n + 1, c.Holder, c.Port, c.Rights, c.Parent⟩ : DCap).cells.map Ce.v) :: BI b (n + 1) tp tc tq :: rC tc cs :: F) := h
  have h := h.drew
  refine ⟨_, rfl, tc, h.cellP 1 rfl rfl, _, h.cell 0 rfl rfl, _, h.cell 0 rfl rfl, _, h.cell 0 rfl rfl, _, h.cell 0 rfl rfl, _, h.cell 0 rfl rfl, ?_⟩
  refine h.alloc (fun w13 h e13 n13 => ?_)
  refine ⟨⟨tc, h.cellP 2 rfl rfl, rfl⟩, ?_⟩
  have hrow : RowAt w13 (some ⟨w5.drew.heap.size, 0, none⟩) (1 * 5) ([(⟨n + 1, c.Holder, c.Port, c.Rights, c.Parent⟩ : DCap)].flatMap DCap.cells) := row_one (h.blkAt 0 rfl) rfl
  have h := h.drop.p2
  refine SH.appendR (f := DCap.cells) (us := [⟨n + 1, c.Holder, c.Port, c.Rights, c.Parent⟩]) h hrow rfl (fun _ => rfl) rfl rfl (by decide) (by show (_ + _) * 40 ≤ _; simp; omega) plain_cap' (fun tc2 w16 h htc2 _ => ?_)
  refine ⟨_, rfl, ?_⟩
  refine h.setVP 2 rfl rfl (fun w18 h n18 => ?_)
  exact ⟨_, h.cell 1 rfl rfl, tc2, rfl, (h.dropAt 1).p1⟩
theorem c104 {id : Int} {b : Nat} {sp sc sq : Sl} {d : DIpc} {w : World} (hc2 : w.cell? ((⟨b, 0, none⟩ : Addr).add 3) = some (.slice sq.a sq.len sq.cap)) (hd : IpcAt w sp sc sq d) : CallW Try.prog 104 #[.pointer (some ⟨b, 0, none⟩), .int .i64 id] w (fun v w' => v = .pointer (ptrE sq 4 (pipeIx d id)) ∧ w' = w) := by
  refine go104 ?_
  unfold W104; (try delta qn ql qb qi qS qI qP qQ qR qU qA qC)
  have hl := hd.pipes.len
  have hf := hd.few
  refine ⟨_, rfl, sq, hc2, ?_⟩
  refine LoopW.m1 (fun (i : Int) w' => ∃ k : Nat, i = k ∧ k ≤ d.Pipes.length ∧ (∀ j y, j < k → d.Pipes[j]? = some y → (y.Id == id) = false) ∧ w' = w) (fun (i : Int) _ => ((d.Pipes.length : Int) - i).toNat) ⟨0, rfl, by omega, (fun j y hj => by omega), rfl⟩ ?_
  rintro (i : Int) w5 ⟨k, rfl, hk, hno, rfl⟩ J hJ
  rw [hl]
  refine BIf.dec (fun hlt => ?_) (fun hge => ?_)
  · obtain ⟨x, hx⟩ : ∃ x, d.Pipes[k]? = some x := ⟨_, List.getElem?_eq_getElem (by omega)⟩
    obtain ⟨q, t, hq, hc, _⟩ := hd.pipes.get k x hx
    refine ⟨_, rfl, sq, hc2, by omega, by omega, q, hq, _, hc, ?_⟩
    refine BIf.eq (fun he => ?_) (fun he => ?_)
    · refine ⟨_, rfl, sq, hc2, by omega, by omega, q, hq, ?_, rfl⟩
      unfold pipeIx; rw [idx_at hx (by simpa using he) hno, ptrE_at hq]; rfl
    · rw [w64 (by omega) (by omega)]
      refine hJ _ _ ⟨k + 1, by omega, by omega, fun j y hj hy => ?_, rfl⟩ (by omega)
      by_cases hjk : j = k
      · subst hjk; rw [hx] at hy; cases hy; simpa using he
      · exact hno j y (by omega) hy
  · refine ⟨?_, rfl⟩
    unfold pipeIx; rw [idx_no (fun j y hy => hno j y (by have := (List.getElem?_eq_some_iff.1 hy).1; omega) hy), ptrE_neg (by omega)]
def hasR (cs : List DCap) (p : RPort) : Bool := cs.any (fun c => c.Port == p.Id)
theorem any_snoc {α : Type} {l : List α} {k : Nat} {x : α} (p : α → Bool) (hx : l[k]? = some x) : (l.take (k + 1)).any p = ((l.take k).any p || p x) := by
  rw [take_snoc' hx]; simp
theorem filter_snoc' {α : Type} {p : α → Bool} {l : List α} {k : Nat} {x : α} (hx : l[k]? = some x) : (l.take (k + 1)).filter p = (l.take k).filter p ++ (if p x = true then [x] else []) := by
  rw [take_snoc' hx, List.filter_append]
  by_cases h : p x = true
  · simp [h]
  · simp [h]
set_option maxHeartbeats 2000000 in
theorem s107 {w0 w : World} {F : List Asr} {b g : Nat} {gx gc : List Value} {n : Int} {tp tc tq : Sl} {ps : List RPort} {cs : List DCap} {p : DCap → Bool} (h : SH w0 w (BI b n tp tc tq :: rP tp ps :: bP ps :: rC tc cs :: F))
    (hf : cs.length ≤ 1048576) (hfp : ps.length ≤ 1048576)
    (hcall : ∀ (c : DCap) (w1 : World) (As : List Asr), c ∈ cs → SH w0 w1 (As ++ F) → CallW Try.prog g ⟨gx ++ ([.agg #[.int .i64 c.Id, .int .i64 c.Holder, .int .i64 c.Port, .int .i64 c.Rights, .int .i64 c.Parent]] ++ gc)⟩ w1 (fun v w2 => v = .bool (p c) ∧ Ext w1 w2)) :
    CallW Try.prog 107 #[.pointer (some ⟨b, 0, none⟩), .func (.func g) ⟨gx⟩ ⟨gc⟩] w (fun v w' => ∃ tp' tc' : Sl, v = .tuple #[] ∧ SH w0 w' (BI b n tp' tc' tq :: rP tp' (ps.filter (hasR (cs.filter p))) :: bP (ps.filter (hasR (cs.filter p))) :: rC tc' (cs.filter p) :: F)) := by
  refine go107 ?_
  unfold W107; (try delta qn ql qb qi qS qI qP qQ qR qU qA qC)
  have hcl := h.len 3 rfl
  have hpl := h.len 1 rfl
  rw [recs_len] at hcl hpl
  refine ⟨_, rfl, tc, h.cellP 0 rfl rfl, ?_⟩
  refine LoopW.m2 (fun (t : Sl) (i : Int) w' => ∃ k : Nat, i = k ∧ k ≤ cs.length ∧ SH w0 w' (rC t ((cs.take k).filter p) :: BI b n tp tc tq :: rP tp ps :: bP ps :: rC tc cs :: F)) (fun _ (i : Int) _ => (cs.length - i).toNat) ⟨0, rfl, by omega, h.nil none 5⟩ ?_
  clear h
  rintro (t : Sl) (i : Int) w6 ⟨k, rfl, hk, h⟩ J hJ
  have hkl : ((cs.take k).filter p).length ≤ k := by have := List.length_filter_le p (cs.take k); simp at this; omega
  refine BIf.dec (fun hlt => ?_) (fun hge => ?_)
  · have hget : cs[k]? = some cs[k] := List.getElem?_eq_getElem (by omega)
    generalize cs[k] = x at *
    obtain ⟨q, hq⟩ := h.rowQ 4 rfl hget
    simp only [Int.toNat_natCast]
    rw [w64 (n := (k : Int) + 1) (by omega) (by omega)]
    refine ⟨by omega, by omega, q, hq, _, h.rdR 4 rfl hq hget rfl, _, h.rdR 4 rfl hq hget rfl, _, h.rdR 4 rfl hq hget rfl, _, h.rdR 4 rfl hq hget rfl, _, h.rdR 4 rfl hq hget rfl, ?_⟩
    refine h.alloc (fun w13 h e13 n13 => ?_)
    refine h.put 0 rfl rfl rfl (fun w14 h n14 => ?_)
    have h : SH w0 w14 (aB w6.heap.size (x.cells.map Ce.v) :: rC t ((cs.take k).filter p) :: BI b n tp tc tq :: rP tp ps :: bP ps :: rC tc cs :: F) := h
    refine ⟨_, h.cell 0 rfl rfl, _, h.cell 0 rfl rfl, _, h.cell 0 rfl rfl, _, h.cell 0 rfl rfl, _, h.cell 0 rfl rfl, ?_⟩
    refine (hcall x w14 [aB w6.heap.size (x.cells.map Ce.v), rC t ((cs.take k).filter p), BI b n tp tc tq, rP tp ps, bP ps, rC tc cs] (List.mem_of_getElem? hget) h).mono ?_
    rintro _ w21 ⟨rfl, e21⟩
    have h := h.to e21
    have hsn := filter_snoc' (p := p) hget
    refine ⟨_, rfl, BIf.of (fun hp => ?_) (fun hp => ?_)⟩
    · rw [if_pos hp] at hsn
      refine ⟨_, h.cell 0 rfl rfl, _, h.cell 0 rfl rfl, _, h.cell 0 rfl rfl, _, h.cell 0 rfl rfl, _, h.cell 0 rfl rfl, ?_⟩
      refine LetW_iff.2 (SH.appendR1 (f := DCap.cells) (x := x) h.drop rfl rfl rfl (by decide) (by show (_ + _) * 40 ≤ _; omega) (plain_cap' _) (fun t2 w30 h ht2 _ => ?_))
      exact hJ _ _ _ ⟨k + 1, by omega, by omega, by rw [hsn]; exact h⟩ (by omega)
    · rw [if_neg (by rw [hp]; decide), List.append_nil] at hsn
      exact hJ _ _ _ ⟨k + 1, by omega, by omega, by rw [hsn]; exact h.drop⟩ (by omega)
  · have hke : k = cs.length := by omega
    rw [hke, List.take_length] at h
    clear hJ hkl hge hk hke
    have hflen := List.length_filter_le p cs
    generalize cs.filter p = cs2 at *
    refine ⟨_, rfl, ?_⟩
    refine h.setVP 1 rfl rfl (fun w32 h n32 => ?_)
    have h : SH w0 w32 (rC t cs2 :: BI b n tp t tq :: rP tp ps :: bP ps :: rC tc cs :: F) := h
    have hl2 := h.len 0 rfl
    rw [recs_len] at hl2
    refine ⟨_, rfl, tp, h.cellP 1 rfl rfl, ?_⟩
    refine LoopW.m2 (fun (u : Sl) (i : Int) w' => ∃ k : Nat, i = k ∧ k ≤ ps.length ∧ SH w0 w' (rP u ((ps.take k).filter (hasR cs2)) :: rC t cs2 :: BI b n tp t tq :: rP tp ps :: bP ps :: rC tc cs :: F)) (fun _ (i : Int) _ => (ps.length - i).toNat) ⟨0, rfl, by omega, h.nil none 2⟩ ?_
    clear h
    rintro (u : Sl) (i : Int) w38 ⟨k, rfl, hk, h⟩ J hJ
    have hkl : ((ps.take k).filter (hasR cs2)).length ≤ k := by have := List.length_filter_le (hasR cs2) (ps.take k); simp at this; omega
    refine BIf.dec (fun hlt => ?_) (fun hge => ?_)
    · have hget : ps[k]? = some ps[k] := List.getElem?_eq_getElem (by omega)
      generalize ps[k] = x at *
      obtain ⟨q, hq⟩ := h.rowQ 3 rfl hget
      simp only [Int.toNat_natCast]
      rw [w64 (n := (k : Int) + 1) (by omega) (by omega)]
      refine ⟨by omega, by omega, q, hq, _, h.rdR 3 rfl hq hget rfl, x.q, h.rdR 3 rfl hq hget rfl, ?_⟩
      refine h.alloc (fun w42 h e42 n42 => ?_)
      refine h.put 0 rfl rfl rfl (fun w43 h n43 => ?_)
      have h : SH w0 w43 (aB w38.heap.size (x.cells.map Ce.v) :: rP u ((ps.take k).filter (hasR cs2)) :: rC t cs2 :: BI b n tp t tq :: rP tp ps :: bP ps :: rC tc cs :: F) := h
      have hsn := filter_snoc' (p := hasR cs2) hget
      refine LoopW.m2 (fun (u' : Sl) (i : Int) w' => ∃ m : Nat, u' = u ∧ i = m ∧ m ≤ cs2.length ∧ (cs2.take m).any (fun c => c.Port == x.Id) = false ∧ SH w0 w' (aB w38.heap.size (x.cells.map Ce.v) :: rP u ((ps.take k).filter (hasR cs2)) :: rC t cs2 :: BI b n tp t tq :: rP tp ps :: bP ps :: rC tc cs :: F)) (fun _ (i : Int) _ => (cs2.length - i).toNat) ⟨0, rfl, rfl, by omega, rfl, h⟩ ?_
      clear h
      rintro (u' : Sl) (i : Int) w47 ⟨m, rfl, rfl, hm, hno, h⟩ J2 hJ2
      refine BIf.dec (fun hlt2 => ?_) (fun hge2 => ?_)
      · have hget2 : cs2[m]? = some cs2[m] := List.getElem?_eq_getElem (by omega)
        generalize cs2[m] = y at *
        obtain ⟨q2, hq2⟩ := h.rowQ 2 rfl hget2
        have hany := any_snoc (fun c : DCap => c.Port == x.Id) hget2
        simp only [Int.toNat_natCast]
        rw [w64 (n := (m : Int) + 1) (by omega) (by omega)]
        refine ⟨by omega, by omega, q2, hq2, _, h.rdR 2 rfl hq2 hget2 rfl, _, h.rdR 2 rfl hq2 hget2 rfl, _, h.rdR 2 rfl hq2 hget2 rfl, _, h.rdR 2 rfl hq2 hget2 rfl, _, h.rdR 2 rfl hq2 hget2 rfl, ?_⟩
        refine h.alloc (fun w54 h e54 n54 => ?_)
        refine h.put 0 rfl rfl rfl (fun w55 h n55 => ?_)
        refine ⟨_, h.cell 0 rfl rfl, _, h.cell 1 rfl rfl, BIf.eq (fun he => ?_) (fun he => ?_)⟩
        · have hp : hasR cs2 x = true := List.any_eq_true.2 ⟨y, List.mem_of_getElem? hget2, by simpa using he⟩
          rw [if_pos hp] at hsn
          refine ⟨_, h.cell 1 rfl rfl, x.q, h.cell 1 rfl rfl, ?_⟩
          refine LetW_iff.2 (SH.appendR1 (f := RPort.cells) (x := x) h.drop.drop rfl rfl rfl (by decide) (by show (_ + _) * 32 ≤ _; omega) (plain_port _) (fun t2 w62 h ht2 _ => ?_))
          exact hJ _ _ _ ⟨k + 1, by omega, by omega, by rw [hsn]; exact h⟩ (by omega)
        · exact hJ2 _ _ _ ⟨m + 1, rfl, by omega, by omega, by rw [hany, hno]; simpa using he, h.drop⟩ (by omega)
      · have hme : m = cs2.length := by omega
        rw [hme, List.take_length] at hno
        have hp : hasR cs2 x = false := hno
        rw [if_neg (by rw [hp]; decide), List.append_nil] at hsn
        exact hJ _ _ _ ⟨k + 1, by omega, by omega, by rw [hsn]; exact h.drop⟩ (by omega)
    · have hke : k = ps.length := by omega
      rw [hke, List.take_length] at h
      refine ⟨_, rfl, ?_⟩
      refine h.setVP 2 rfl rfl (fun w64' h n64 => ?_)
      have h : SH w0 w64' (rP u (ps.filter (hasR cs2)) :: rC t cs2 :: BI b n u t tq :: rP tp ps :: bP ps :: rC tc cs :: F) := h
      have h := (h.dropAt 5).dropAt 3
      have h := SH.bagFilter (hasR cs2) (h.fro 3 rfl)
      have h : SH w0 w64' (bP (ps.filter (hasR cs2)) :: rP u (ps.filter (hasR cs2)) :: rC t cs2 :: BI b n u t tq :: F) := h
      exact ⟨u, t, rfl, (((h.fro 2 rfl).fro 1 rfl).fro 2 rfl).fro 3 rfl⟩
end Go.Proofs.Ytbimoajgofcmbaa

namespace Go.Proofs.Ytbimoajgofcmbaa
open Go Go.Den
theorem c103 {n : Int} {w : World} : CallW Try.prog 103 #[.int .i64 n] w (fun v w' => v = .agg #[.int .i64 n, .int .i64 0, .slice none 0 0, .int .i64 0] ∧ Ext w w') := by
  refine go103 ?_
  unfold W103; (try delta qn ql qb qi qS qI qP qQ qR qU qA qC)
  have h := SH.start w
  refine h.alloc (fun w1 h e1 n1 => ?_)
  refine h.put 0 rfl rfl rfl (fun w2 h n2 => ?_)
  exact ⟨_, h.cell 0 rfl rfl, _, h.cell 0 rfl rfl, N0, h.cell 0 rfl rfl, _, h.cell 0 rfl rfl, rfl, h.ext⟩
theorem c110 {a b : Int} {w : World} (h0 : 0 ≤ a) (h1 : a ≤ 64) : CallW Try.prog 110 #[.int .i64 a, .int .i64 b] w (fun v w' => v = .bool (decide (b < -a ∨ 64 - a < b)) ∧ w' = w) := by
  refine go110 ?_
  unfold W110; (try delta qn ql qb qi qS qI qP qQ qR qU qA qC)
  rw [w64 (n := 0 - a) (by omega) (by omega), w64 (n := 64 - a) (by omega) (by omega)]
  refine JoinW.cut1 (fun (c : Bool) w' => c = decide (b < -a ∨ 64 - a < b) ∧ w' = w) (BIf.dec (fun hc => ⟨(decide_eq_true (.inl (by omega))).symm, rfl⟩) (fun hc => ⟨by rw [Bool.eq_iff_iff]; simp; omega, rfl⟩)) ?_
  rintro (c : Bool) w3 ⟨rfl, rfl⟩
  exact ⟨rfl, rfl⟩
theorem mid_get {α : Type} {As F : List α} {x : α} : (As ++ x :: F)[As.length]? = some x := by simp
theorem c120 {w0 w : World} {As F : List Asr} {ib : Nat} {id : Int} {c : DCap} (h : SH w0 w (As ++ aB ib (([.int .i64 id] : List Value).map Ce.v) :: F)) :
    CallW Try.prog 120 ⟨[] ++ ([.agg #[.int .i64 c.Id, .int .i64 c.Holder, .int .i64 c.Port, .int .i64 c.Rights, .int .i64 c.Parent]] ++ [.pointer (some ⟨ib, 0, none⟩)])⟩ w (fun v w' => v = .bool (c.Id != id) ∧ Ext w w') := by
  refine go120 (a0_0 := c.Id) (a0_1 := c.Holder) (a0_2 := c.Port) (a0_3 := c.Rights) (a0_4 := c.Parent) ?_
  unfold W120; (try delta qn ql qb qi qS qI qP qQ qR qU qA qC)
  have hc := h.cell As.length mid_get (i := 0) rfl
  have h := SH.start w
  refine h.alloc (fun w1 h e1 n1 => ?_)
  exact ⟨_, h.cell 0 rfl rfl, _, h.ext.cell hc, rfl, h.ext⟩
theorem c108 {w0 w : World} {As F : List Asr} {ib m : Nat} {ks : List Int} {c : DCap} (h : SH w0 w (As ++ aB ib (([.map (some m)] : List Value).map Ce.v) :: aSet m ks :: F)) :
    CallW Try.prog 108 ⟨[] ++ ([.agg #[.int .i64 c.Id, .int .i64 c.Holder, .int .i64 c.Port, .int .i64 c.Rights, .int .i64 c.Parent]] ++ [.pointer (some ⟨ib, 0, none⟩)])⟩ w (fun v w' => v = .bool (!decide (c.Id ∈ ks)) ∧ Ext w w') := by
  refine go108 (a0_0 := c.Id) (a0_1 := c.Holder) (a0_2 := c.Port) (a0_3 := c.Rights) (a0_4 := c.Parent) ?_
  unfold W108; (try delta qn ql qb qi qS qI qP qQ qR qU qA qC)
  have e0 : Ext w w := Only.refl _ _
  have g : SH w0 w (As ++ aB ib (([.map (some m)] : List Value).map Ce.v) :: aSet m ks :: F) := h
  refine g.alloc (fun w1 g e1 n1 => ?_)
  have g : SH w0 w1 ((aB w.heap.size (c.cells.map Ce.v) :: As) ++ aB ib (([.map (some m)] : List Value).map Ce.v) :: aSet m ks :: F) := g
  have hc := g.cell (As.length + 1) (b := ib) (i := 0) (l := ([.map (some m)] : List Value).map Ce.v) (by show (aB w.heap.size (c.cells.map Ce.v) :: (As ++ _))[As.length + 1]? = _; rw [List.getElem?_cons_succ]; exact mid_get) rfl
  refine ⟨some m, hc, _, g.cell 0 rfl rfl, ?_⟩
  have hs : ((aB w.heap.size (c.cells.map Ce.v) :: As) ++ aB ib (([.map (some m)] : List Value).map Ce.v) :: aSet m ks :: F)[As.length + 2]? = some (aSet m ks) := by
    show (aB w.heap.size (c.cells.map Ce.v) :: (As ++ _))[As.length + 2]? = _
    rw [List.getElem?_cons_succ, List.getElem?_append_right (by omega)]
    simp
  refine g.getSet (As.length + 2) hs c.Id (fun o ho => ⟨_, ho, rfl, e1⟩)
theorem re_id (id up : Int) (x : DCap) : (reCap id up x).Id = x.Id := by unfold reCap; split <;> rfl
theorem re_port (id up : Int) (x : DCap) : (reCap id up x).Port = x.Port := by unfold reCap; split <;> rfl
theorem dropC_eq (cs : List DCap) (id up : Int) : (cs.map (reCap id up)).filter (fun c => c.Id != id) = dropC cs id up := by
  unfold dropC
  rw [List.filter_map]
  congr 1
  refine List.filter_congr (fun x _ => ?_)
  show ((reCap id up x).Id != id) = _
  rw [re_id]
theorem mapTo_get' {α : Type} (f : α → α) {l : List α} {k : Nat} {x : α} (h : l[k]? = some x) : ((l.take k).map f ++ l.drop k)[k]? = some x := by
  have hk := (List.getElem?_eq_some_iff.1 h).1
  rw [List.getElem?_append_right (by simp; omega)]
  simp [Nat.min_eq_left (Nat.le_of_lt hk), h]
theorem mapTo_set' {α : Type} (f : α → α) {l : List α} {k : Nat} {x : α} (h : l[k]? = some x) : ((l.take k).map f ++ l.drop k).set k (f x) = (l.take (k + 1)).map f ++ l.drop (k + 1) := by
  have hk := (List.getElem?_eq_some_iff.1 h).1
  have he : l[k] = x := (List.getElem?_eq_some_iff.1 h).2
  rw [List.set_append_right _ _ (by simp; omega), take_snoc' h, List.map_append, List.append_assoc]
  congr 1
  have : k - ((l.take k).map f).length = 0 := by simp; omega
  rw [this, List.drop_eq_getElem_cons hk, he]
  rfl
theorem mapTo_same {α : Type} (f : α → α) {l : List α} {k : Nat} {x : α} (h : l[k]? = some x) (hx : f x = x) : (l.take k).map f ++ l.drop k = (l.take (k + 1)).map f ++ l.drop (k + 1) := by
  rw [← mapTo_set' f h, hx]
  exact (set_self (mapTo_get' f h)).symm
def dropR (r : RIpc) (id : Int) (up : Int) : RIpc := ⟨r.Next, r.Ports.filter (hasR (dropC r.Caps id up)), dropC r.Caps id up, r.Pipes⟩
set_option maxHeartbeats 1000000 in
theorem s109 {w0 w : World} {F : List Asr} {b : Nat} {tp tc tq : Sl} {r : RIpc} {id : Int} {k0 : Nat} {c : DCap} (h : SH w0 w (ST b tp tc tq r ++ F)) (hw : IWf r.abs) (hk : capIx r.abs id = k0) (hc : r.Caps[k0]? = some c) :
    CallW Try.prog 109 #[.pointer (some ⟨b, 0, none⟩), .int .i64 id] w (fun v w' => ∃ tp' tc' : Sl, v = .tuple #[] ∧ SH w0 w' (ST b tp' tc' tq (dropR r id c.Parent) ++ F)) := by
  refine go109 ?_
  unfold W109; (try delta qn ql qb qi qS qI qP qQ qR qU qA qC)
  have hfc := hw.few.1
  have hfp := hw.few.2.1
  have hfp : r.Ports.length ≤ 1048576 := by have e : r.abs.Ports.length = r.Ports.length := List.length_map ..; omega
  have hfc : r.Caps.length ≤ 1048576 := hfc
  have h : SH w0 w (BI b r.Next tp tc tq :: rP tp r.Ports :: bP r.Ports :: rC tc r.Caps :: rQ tq r.Pipes :: bQ r.Pipes :: F) := h
  have hcl := h.len 3 rfl
  rw [recs_len] at hcl
  refine h.alloc (fun w1 h e1 n1 => ?_)
  have h : SH w0 w1 (aB w.heap.size (([.int .i64 id] : List Value).map Ce.v) :: BI b r.Next tp tc tq :: rP tp r.Ports :: bP r.Ports :: rC tc r.Caps :: rQ tq r.Pipes :: bQ r.Pipes :: F) := h
  refine ⟨_, h.cell 0 rfl rfl, ?_⟩
  have hat : IpcAt w1 tp tc tq r.abs := ipc_at (F := F) (SH.drop (SH.drop h)) hw
  obtain ⟨q, hq⟩ := h.rowQ 4 rfl hc
  refine (c59 (h.cell 1 rfl rfl) hat).mono ?_
  rintro _ w4 ⟨rfl, rfl⟩
  rw [hk, ptrE_at hq]
  refine ⟨_, rfl, _, rfl, _, h.rdR 4 rfl hq hc rfl, _, rfl, tc, h.cellP 1 rfl rfl, ?_⟩
  have h : SH w0 w4 (aB w.heap.size (([.int .i64 id] : List Value).map Ce.v) :: BI b r.Next tp tc tq :: rP tp r.Ports :: bP r.Ports :: rC tc ((r.Caps.take 0).map (reCap id c.Parent) ++ r.Caps.drop 0) :: rQ tq r.Pipes :: bQ r.Pipes :: F) := h
  refine LoopW.m1 (fun (i : Int) w' => ∃ k : Nat, i = k ∧ k ≤ r.Caps.length ∧ SH w0 w' (aB w.heap.size (([.int .i64 id] : List Value).map Ce.v) :: BI b r.Next tp tc tq :: rP tp r.Ports :: bP r.Ports :: rC tc ((r.Caps.take k).map (reCap id c.Parent) ++ r.Caps.drop k) :: rQ tq r.Pipes :: bQ r.Pipes :: F)) (fun (i : Int) _ => (r.Caps.length - i).toNat) ⟨0, rfl, by omega, h⟩ ?_
  clear h
  rintro (i : Int) w12 ⟨k, rfl, hkl, h⟩ J hJ
  refine BIf.dec (fun hlt => ?_) (fun hge => ?_)
  · have hget : r.Caps[k]? = some r.Caps[k] := List.getElem?_eq_getElem (by omega)
    generalize r.Caps[k] = x at *
    have hg := mapTo_get' (reCap id c.Parent) hget
    have hst := mapTo_set' (reCap id c.Parent) hget
    have hsm := mapTo_same (reCap id c.Parent) hget
    have hlen : k < ((r.Caps.take k).map (reCap id c.Parent) ++ r.Caps.drop k).length := (List.getElem?_eq_some_iff.1 hg).1
    have h := h.drew
    simp only [Int.toNat_natCast]
    rw [w64 (n := (k : Int) + 1) (by omega) (by omega)]
    refine ⟨_, rfl, tc, h.cellP 1 rfl rfl, by omega, by omega, q, hq, _, h.rdR 4 rfl hq hg rfl, _, h.cell 0 rfl rfl, BIf.eq (fun he => ?_) (fun he => ?_)⟩
    · refine ⟨_, rfl, tc, h.cellP 1 rfl rfl, by omega, by omega, q, hq, ?_⟩
      rw [set_at hg] at h
      refine h.setR 4 (reCap id c.Parent x) rfl hq hlen (by show 4 < 5; omega) (by unfold reCap; rw [if_pos he]; rfl) (fun w21 h n21 => ?_)
      have h : SH w0 w21 (aB w.heap.size (([.int .i64 id] : List Value).map Ce.v) :: BI b r.Next tp tc tq :: rP tp r.Ports :: bP r.Ports :: rC tc (((r.Caps.take k).map (reCap id c.Parent) ++ r.Caps.drop k).set k (reCap id c.Parent x)) :: rQ tq r.Pipes :: bQ r.Pipes :: F) := h
      rw [hst] at h
      exact hJ _ _ ⟨k + 1, by omega, by omega, h⟩ (by omega)
    · rw [hsm (by unfold reCap; rw [if_neg he])] at h
      exact hJ _ _ ⟨k + 1, by omega, by omega, h⟩ (by omega)
  · have hke : k = r.Caps.length := by omega
    rw [hke, List.take_length, List.drop_length, List.append_nil] at h
    have h : SH w0 w12 (BI b r.Next tp tc tq :: rP tp r.Ports :: bP r.Ports :: rC tc (r.Caps.map (reCap id c.Parent)) :: aB w.heap.size (([.int .i64 id] : List Value).map Ce.v) :: rQ tq r.Pipes :: bQ r.Pipes :: F) := ((((h.fro 4 rfl).fro 4 rfl).fro 4 rfl).fro 4 rfl)
    refine (s107 (p := fun c => c.Id != id) h (by rw [List.length_map]; exact hfc) hfp (fun c w1 As _ hA => c120 hA)).mono ?_
    rintro _ w23 ⟨tp', tc', rfl, h⟩
    rw [dropC_eq] at h
    refine ⟨rfl, tp', tc', rfl, ?_⟩
    exact (h.dropAt 4)
end Go.Proofs.Ytbimoajgofcmbaa

namespace Go.Proofs.Ytbimoajgofcmbaa
open Go Go.Den
theorem step_bad {d : DIpc} {o : DIpcOp} (h : BadO o) : stepI d o = (d, resE 1) := if_pos h
theorem step_1 {d : DIpc} {o : DIpcOp} (h : ¬ BadO o) (k : o.Kind = 1) : stepI d o = newPort d o := by unfold stepI; rw [if_neg h, if_pos k]
theorem step_7 {d : DIpc} {o : DIpcOp} (h : ¬ BadO o) (k : o.Kind = 7) : stepI d o = goneI d o := by unfold stepI; rw [if_neg h, if_neg (by omega), if_pos k]
theorem step_8 {d : DIpc} {o : DIpcOp} (h : ¬ BadO o) (k : o.Kind = 8) : stepI d o = newPipe d := by unfold stepI; rw [if_neg h, if_neg (by omega), if_neg (by omega), if_pos k]
theorem step_p0 {d : DIpc} {o : DIpcOp} (h : ¬ BadO o) (k : 9 ≤ o.Kind) (hp : pipeOf d o.Id = none) : stepI d o = (d, resE 5) := by unfold stepI; rw [if_neg h, if_neg (by omega), if_neg (by omega), if_neg (by omega), if_pos k, hp]
theorem step_p {d : DIpc} {o : DIpcOp} {p : DPipe} (h : ¬ BadO o) (k : 9 ≤ o.Kind) (hp : pipeOf d o.Id = some p) : stepI d o = pipeI d o (pipeIx d o.Id).toNat p := by unfold stepI; rw [if_neg h, if_neg (by omega), if_neg (by omega), if_neg (by omega), if_pos k, hp]
theorem step_c0 {d : DIpc} {o : DIpcOp} (h : ¬ BadO o) (k : 2 ≤ o.Kind ∧ o.Kind ≤ 6) (hp : capOf d o.Id = none) : stepI d o = (d, resE 5) := by unfold stepI; rw [if_neg h, if_neg (by omega), if_neg (by omega), if_neg (by omega), if_neg (by omega), hp]
theorem step_ch {d : DIpc} {o : DIpcOp} {c : DCap} (h : ¬ BadO o) (k : 2 ≤ o.Kind ∧ o.Kind ≤ 6) (hp : capOf d o.Id = some c) (hh : c.Holder ≠ o.Holder) : stepI d o = (d, resE 5) := by unfold stepI; rw [if_neg h, if_neg (by omega), if_neg (by omega), if_neg (by omega), if_neg (by omega), hp]; exact if_pos hh
theorem step_c {d : DIpc} {o : DIpcOp} {c : DCap} (h : ¬ BadO o) (k : 2 ≤ o.Kind ∧ o.Kind ≤ 6) (hp : capOf d o.Id = some c) (hh : c.Holder = o.Holder) : stepI d o = capI d o c := by unfold stepI; rw [if_neg h, if_neg (by omega), if_neg (by omega), if_neg (by omega), if_neg (by omega), hp]; exact if_neg (by omega)
theorem cap_2 {d : DIpc} {o : DIpcOp} {c : DCap} (k : o.Kind = 2) : capI d o c = giveI d o c := if_pos k
theorem cap_3 {d : DIpc} {o : DIpcOp} {c : DCap} (k : o.Kind = 3) : capI d o c = revF d o.Id := by unfold capI; rw [if_neg (by omega), if_pos k]
theorem cap_4 {d : DIpc} {o : DIpcOp} {c : DCap} (k : o.Kind = 4) : capI d o c = (cleanF (dropF d o.Id), resN 0) := by unfold capI; rw [if_neg (by omega), if_neg (by omega), if_pos k]
theorem cap_5 {d : DIpc} {o : DIpcOp} {c : DCap} (k : o.Kind = 5) : capI d o c = sendI d o c := by unfold capI; rw [if_neg (by omega), if_neg (by omega), if_neg (by omega), if_pos k]
theorem cap_6 {d : DIpc} {o : DIpcOp} {c : DCap} (k : o.Kind = 6) : capI d o c = recvI d o c := by unfold capI; rw [if_neg (by omega), if_neg (by omega), if_neg (by omega), if_neg (by omega)]
theorem am_fin4 : ∀ y : Fin 8, ((andI .i64 ((y.val : Nat) : Int) 4) == 0) = !amongB 4 ((y.val : Nat) : Int) := by decide
theorem am_fin1 : ∀ y : Fin 8, ((andI .i64 ((y.val : Nat) : Int) 1) == 0) = !amongB 1 ((y.val : Nat) : Int) := by decide
theorem am_fin2 : ∀ y : Fin 8, ((andI .i64 ((y.val : Nat) : Int) 2) == 0) = !amongB 2 ((y.val : Nat) : Int) := by decide
theorem am4 {y : Int} (h1 : 1 ≤ y) (h2 : y ≤ 7) : ((andI .i64 y 4) == 0) = !amongB 4 y := by
  have := am_fin4 ⟨y.toNat, by omega⟩; simp only at this; rwa [show ((y.toNat : Nat) : Int) = y by omega] at this
theorem am1 {y : Int} (h1 : 1 ≤ y) (h2 : y ≤ 7) : ((andI .i64 y 1) == 0) = !amongB 1 y := by
  have := am_fin1 ⟨y.toNat, by omega⟩; simp only at this; rwa [show ((y.toNat : Nat) : Int) = y by omega] at this
theorem am2 {y : Int} (h1 : 1 ≤ y) (h2 : y ≤ 7) : ((andI .i64 y 2) == 0) = !amongB 2 y := by
  have := am_fin2 ⟨y.toNat, by omega⟩; simp only at this; rwa [show ((y.toNat : Nat) : Int) = y by omega] at this
abbrev BR (b : Nat) (c n : Int) (t : Sl) (f : Int) : Asr := aB b (([.int .i64 c, .int .i64 n, .slice t.a t.len t.cap, .int .i64 f] : List Value).map Ce.v)
abbrev rV (c n : Int) (t : Sl) (f : Int) : Value := .agg #[.int .i64 c, .int .i64 n, .slice t.a t.len t.cap, .int .i64 f]
def opV (o : DIpcOp) (td : Sl) : List Value := [.int .i64 o.Kind, .int .i64 o.Holder, .int .i64 o.Id, .int .i64 o.To, .int .i64 o.Rights, .int .i64 o.Cap, .int .i64 o.N, .slice td.a td.len td.cap]
abbrev BO (b : Nat) (o : DIpcOp) (td : Sl) : Asr := aB b ((opV o td).map Ce.v)
abbrev BC (b : Nat) (c : DCap) : Asr := aB b (c.cells.map Ce.v)
def SR (w0 : World) (F : List Asr) (b : Nat) (res : IRes) (v : Value) (w' : World) : Prop := ∃ (tp tc tq t : Sl) (r : RIpc), v = rV res.2.Code res.2.N t res.2.From ∧ r.abs = res.1 ∧ SH w0 w' (rD t res.2.Data :: (ST b tp tc tq r ++ F))
def Mid (w0 : World) (F : List Asr) (b rb : Nat) (res : IRes) (w' : World) : Prop := ∃ (tp tc tq t : Sl) (r : RIpc), r.abs = res.1 ∧ SH w0 w' (BR rb res.2.Code res.2.N t res.2.From :: rD t res.2.Data :: (ST b tp tc tq r ++ F))
theorem errT {w0 w : World} {As : List Asr} {rb i : Nat} {n : Int} {K : Value → World → Prop} (h : SH w0 w As) (hA : As[i]? = some (BR rb 0 0 N0 0)) (hK : ∀ w', SH w0 w' (As.set i (BR rb n 0 N0 0)) → K (rV n 0 N0 0) w') :
    CallW Try.prog 103 #[.int .i64 n] w (fun v13 w14 => ∃ n15 : Int, ∃ n16 : Int, ∃ l17 : Sl, ∃ n18 : Int, v13 = .agg #[.int .i64 n15, .int .i64 n16, .slice l17.a l17.len l17.cap, .int .i64 n18] ∧ MayN w14 ⟨rb, 0, none⟩ 4 ∧ LetW (puts w14 ⟨rb, 0, none⟩ 0 [.int .i64 n15, .int .i64 n16, .slice l17.a l17.len l17.cap, .int .i64 n18]) fun w19 => ∃ n20 : Int, w19.cell? ⟨rb, 0, none⟩ = some (.int .i64 n20) ∧ ∃ n21 : Int, w19.cell? ⟨rb, 1, none⟩ = some (.int .i64 n21) ∧ ∃ l22 : Sl, w19.cell? ⟨rb, 2, none⟩ = some (.slice l22.a l22.len l22.cap) ∧ ∃ n23 : Int, w19.cell? ⟨rb, 3, none⟩ = some (.int .i64 n23) ∧ K (.agg #[.int .i64 n20, .int .i64 n21, .slice l22.a l22.len l22.cap, .int .i64 n23]) w19) := by
  refine c103.mono ?_
  rintro _ w14 ⟨rfl, e14⟩
  have h := h.to e14
  refine ⟨n, 0, N0, 0, rfl, ?_⟩
  refine h.put i hA rfl rfl (fun w19 h n19 => ?_)
  have hi : (As.set i (aB rb (([.int .i64 n, .int .i64 0, .slice N0.a N0.len N0.cap, .int .i64 0] : List Value).map Ce.v)))[i]? = some (BR rb n 0 N0 0) := by
    rw [List.getElem?_set_self]
    exact (List.getElem?_eq_some_iff.1 hA).1
  exact ⟨_, h.cell i hi rfl, _, h.cell i hi rfl, N0, h.cell i hi rfl, _, h.cell i hi rfl, hK _ h⟩
theorem srE {w0 w' : World} {F : List Asr} {b : Nat} {tp tc tq : Sl} {r : RIpc} {n : Int} {res : IRes} (hres : res = (r.abs, resE n)) (h : SH w0 w' (ST b tp tc tq r ++ F)) : SR w0 F b res (rV n 0 N0 0) w' := by
  subst hres
  exact ⟨tp, tc, tq, N0, r, rfl, rfl, h.nil none 1⟩
theorem IOk.rights {d : DIpc} (h : IOk d) {c : DCap} (hc : c ∈ d.Caps) : 1 ≤ c.Rights ∧ c.Rights ≤ 7 := by
  obtain ⟨i, hi⟩ := List.getElem?_of_mem hc
  exact ⟨(h.cap i c hi).r1, (h.cap i c hi).r7⟩
theorem abs_ports (r : RIpc) : r.abs.Ports.length = r.Ports.length := List.length_map ..
theorem abs_pipes (r : RIpc) : r.abs.Pipes.length = r.Pipes.length := List.length_map ..
theorem filter_abs (l : List RPort) (cs : List DCap) : (l.filter (hasR cs)).map RPort.abs = (l.map RPort.abs).filter (hasCap cs) := by
  rw [List.filter_map]; rfl
theorem IOk.has {d : DIpc} (h : IOk d) : ∀ p, p ∈ d.Ports → hasCap d.Caps p = true := fun p hp => by
  obtain ⟨i, hi⟩ := List.getElem?_of_mem hp
  obtain ⟨c, hc, he⟩ := (h.port i p hi).some_
  exact List.any_eq_true.2 ⟨c, hc, by simpa using he⟩
theorem und_port {d : DIpc} (h : IOk d) {top : Int} {t : DCap} (ht : t ∈ d.Caps) (hid : t.Id = top) : ∀ (n : Nat) (i : Nat) (c : DCap), i ≤ n → d.Caps[i]? = some c → Und d top c.Id → c.Port = t.Port
  | n, i, c, hn, hc, hu => by
    obtain ⟨h0, h1⟩ := (und_iff h hc).1 hu
    have hco := h.cap i c hc
    rcases hco.par with h2 | ⟨k, p, hp⟩
    · exact absurd h2 h0
    · obtain ⟨k', p', e1, e2, e3, e4⟩ := par_at h hc h0
      have hkk : k' = k := by have := hp.ix; omega
      subst hkk
      have hpp : p' = p := by have := hp.at_; rw [this] at e2; exact (Option.some.inj e2).symm
      subst hpp
      rcases h1 with h1 | h1
      · obtain ⟨j, hj⟩ := List.getElem?_of_mem ht
        have hkj := ((cap_mono h e2 hj).2).1 (by rw [e3, h1, hid])
        subst hkj
        rw [e2] at hj
        have := Option.some.inj hj
        rw [← this, hp.port]
      · rcases n with _ | n
        · omega
        · rw [← hp.port]
          exact und_port h ht hid n k' p' (by omega) e2 (by rw [e3]; exact h1)
theorem rev_has {d : DIpc} (h : IOk d) {top : Int} {t : DCap} (ht : t ∈ d.Caps) (hid : t.Id = top) : ∀ p, p ∈ d.Ports → hasCap (revC d top) p = true := fun p hp => by
  have := h.has p hp
  obtain ⟨c, hc, he⟩ := List.any_eq_true.1 this
  have htr : t ∈ revC d top := by
    unfold revC
    refine List.mem_filter.2 ⟨ht, ?_⟩
    have : ¬ Und d top t.Id := fun hu => by have := und_gt h hu; omega
    simp [this]
  by_cases hu : Und d top c.Id
  · obtain ⟨i, hi⟩ := List.getElem?_of_mem hc
    have hport := und_port h ht hid i i c (Nat.le_refl _) hi hu
    refine List.any_eq_true.2 ⟨t, htr, ?_⟩
    rw [hport] at he
    exact he
  · exact List.any_eq_true.2 ⟨c, List.mem_filter.2 ⟨hc, by simp [hu]⟩, he⟩
end Go.Proofs.Ytbimoajgofcmbaa

namespace Go.Proofs.Ytbimoajgofcmbaa
open Go Go.Den
theorem has_drop {cs : List DCap} {id up : Int} {p : DPort} (h : hasCap (dropC cs id up) p = true) : hasCap cs p = true := by
  obtain ⟨c, hc, he⟩ := List.any_eq_true.1 h
  unfold dropC at hc
  obtain ⟨x, hx, rfl⟩ := List.mem_map.1 hc
  rw [re_port] at he
  exact List.any_eq_true.2 ⟨x, (List.mem_filter.1 hx).1, he⟩
theorem clean_self {d : DIpc} (h : IOk d) : cleanF d = d := by
  unfold cleanF
  rw [List.filter_eq_self.2 (h.has)]
theorem capOf_clean (d : DIpc) (id : Int) : capOf (cleanF d) id = capOf d id := rfl
theorem clean_drop (d : DIpc) (id : Int) : cleanF (dropF (cleanF d) id) = cleanF (dropF d id) := by
  unfold dropF
  rw [capOf_clean]
  cases hc : capOf d id with
  | none => unfold cleanF; simp
  | some c =>
    unfold cleanF
    dsimp only
    congr 1
    rw [List.filter_filter]
    refine List.filter_congr (fun p _ => ?_)
    by_cases hp : hasCap (dropC d.Caps id c.Parent) p = true
    · rw [hp, has_drop hp]; rfl
    · simp [hp]
def dropRo (r : RIpc) (id : Int) : RIpc := match capOf r.abs id with
  | none => r
  | some c => dropR r id c.Parent
theorem gone_abs : ∀ (ids : List Int) {r : RIpc} {d : DIpc}, r.abs = cleanF d → (∀ id, id ∈ ids → True) → (ids.foldl dropRo r).abs = cleanF (ids.foldl dropF d)
  | [], r, d, h, _ => h
  | id :: t, r, d, h, _ => by
    have h2 : (dropRo r id).abs = cleanF (dropF d id) := by
      unfold dropRo
      cases hc : capOf r.abs id with
      | none =>
        have hc2 : capOf d id = none := by rw [h] at hc; exact hc
        unfold dropF
        rw [hc2]; exact h
      | some c =>
        dsimp only
        rw [drop_abs' hc, h, clean_drop]
    exact gone_abs t h2 (fun _ _ => trivial)
where
  drop_abs' {r : RIpc} {id : Int} {c : DCap} (hc : capOf r.abs id = some c) : (dropR r id c.Parent).abs = cleanF (dropF r.abs id) := by
    unfold dropF
    rw [hc]
    unfold dropR cleanF RIpc.abs
    dsimp only
    rw [filter_abs]
theorem capOf_mem {d : DIpc} {c : DCap} (h : c ∈ d.Caps) : ∃ (k : Nat) (c' : DCap), capIx d c.Id = k ∧ d.Caps[k]? = some c' ∧ capOf d c.Id = some c' := by
  rcases capIx_cases d c.Id with ⟨_, _, e3⟩ | ⟨k, c', e1, e2, e3, _⟩
  · exact absurd rfl (e3 c h)
  · exact ⟨k, c', e1, e2, e3⟩
theorem drop_keeps {r : RIpc} {id id' : Int} (h : ∃ c, c ∈ r.Caps ∧ c.Id = id') (hne : id' ≠ id) : ∃ c, c ∈ (dropRo r id).Caps ∧ c.Id = id' := by
  unfold dropRo
  cases hc : capOf r.abs id with
  | none => exact h
  | some c =>
    obtain ⟨x, hx, rfl⟩ := h
    exact ⟨reCap id c.Parent x, List.mem_map.2 ⟨x, List.mem_filter.2 ⟨hx, by simpa using hne⟩, rfl⟩, re_id _ _ _⟩
theorem drop_wf {r : RIpc} {id : Int} (h : IWf r.abs) : IWf (dropRo r id).abs := by
  unfold dropRo
  cases hc : capOf r.abs id with
  | none => exact h
  | some c =>
    have hp : ∀ p, p ∈ (dropR r id c.Parent).abs.Ports → p ∈ r.abs.Ports := fun p hp => by
      obtain ⟨x, hx, rfl⟩ := List.mem_map.1 hp
      exact List.mem_map.2 ⟨x, (List.mem_filter.1 hx).1, rfl⟩
    obtain ⟨f1, f2, f3⟩ := h.few
    refine ⟨fun p hp2 => h.msgs p (hp p hp2), h.pipes, ⟨h.pw.pipes⟩, ⟨?_, ?_, f3⟩, fun p hp2 => h.queues p (hp p hp2)⟩
    · have h1 : (dropC r.Caps id c.Parent).length ≤ r.Caps.length := by
        unfold dropC; rw [List.length_map]; exact List.length_filter_le ..
      have h2 : r.Caps.length ≤ 1048576 := f1
      show (dropC r.Caps id c.Parent).length ≤ _
      omega
    · rw [abs_ports] at f2 ⊢
      have := List.length_filter_le (hasR (dropC r.Caps id c.Parent)) r.Ports
      show (r.Ports.filter _).length ≤ _
      omega
theorem foldl_snoc {α β : Type} {f : β → α → β} {l : List α} {k : Nat} {x : α} {z : β} (h : l[k]? = some x) : (l.take (k + 1)).foldl f z = f ((l.take k).foldl f z) x := by
  have hk := (List.getElem?_eq_some_iff.1 h).1
  have he : l[k] = x := (List.getElem?_eq_some_iff.1 h).2
  rw [List.take_add_one, h, List.foldl_append]
  rfl
theorem ids_nd {d : DIpc} (h : IOk d) (hl : Int) : (idsOf d hl).Nodup ∧ ∀ id, id ∈ idsOf d hl → ∃ c, c ∈ d.Caps ∧ c.Id = id := by
  constructor
  · have hids : (d.Caps.map DCap.Id).Nodup := by
      rw [List.nodup_iff_pairwise_ne, List.pairwise_map]
      refine List.pairwise_iff_getElem.2 (fun i j hi hj hij => ?_)
      have := (cap_mono h (List.getElem?_eq_getElem hi) (List.getElem?_eq_getElem hj)).1.2 hij
      omega
    refine List.Nodup.sublist ?_ hids
    exact (List.filter_sublist).map _
  · intro id hid
    obtain ⟨c, hc, rfl⟩ := List.mem_map.1 hid
    exact ⟨c, (List.mem_filter.1 hc).1, rfl⟩
theorem nd_get {l : List Int} (h : l.Nodup) {i j : Nat} {x : Int} (hi : l[i]? = some x) (hj : l[j]? = some x) : i = j := by
  obtain ⟨h1, e1⟩ := List.getElem?_eq_some_iff.1 hi
  obtain ⟨h2, e2⟩ := List.getElem?_eq_some_iff.1 hj
  rw [List.nodup_iff_pairwise_ne] at h
  have hp := List.pairwise_iff_getElem.1 h
  rcases Nat.lt_trichotomy i j with hlt | he | hlt
  · exact absurd (e1.trans e2.symm) (hp i j h1 h2 hlt)
  · exact he
  · exact absurd (e2.trans e1.symm) (hp j i h2 h1 hlt)
theorem fold_wf {r : RIpc} : ∀ (l : List Int), IWf r.abs → IWf (l.foldl dropRo r).abs := by
  intro l
  induction l generalizing r with
  | nil => exact fun h => h
  | cons a t ih => exact fun h => ih (drop_wf h)
theorem fold_keeps {id : Int} : ∀ (l : List Int) {r : RIpc}, id ∉ l → (∃ c, c ∈ r.Caps ∧ c.Id = id) → ∃ c, c ∈ (l.foldl dropRo r).Caps ∧ c.Id = id
  | [], r, _, h => h
  | a :: t, r, hn, h => fold_keeps t (fun hm => hn (by simp [hm])) (drop_keeps h (fun he => hn (by simp [he])))
theorem filter_out {l : List RPipe} {k : Nat} {p p2 : RPipe} (hx : l[k]? = some p) (hid : p2.Id = p.Id) (huniq : ∀ (j : Nat) (y : RPipe), l[j]? = some y → y.Id = p.Id → j = k) : (l.set k p2).filter (fun x => x.Id != p.Id) = l.eraseIdx k := by
  have hk := (List.getElem?_eq_some_iff.1 hx).1
  have e : l.set k p2 = l.take k ++ p2 :: l.drop (k + 1) := by
    rw [List.set_eq_take_append_cons_drop, if_pos hk]
  rw [e, List.filter_append, List.filter_cons_of_neg (by simp [hid]), List.eraseIdx_eq_take_drop_succ]
  congr 1
  · refine List.filter_eq_self.2 (fun y hy => ?_)
    obtain ⟨j, hj⟩ := List.getElem?_of_mem hy
    rw [List.getElem?_take] at hj
    split at hj
    · simp only [bne_iff_ne, ne_eq]
      exact fun he => by have := huniq j y hj he; omega
    · cases hj
  · refine List.filter_eq_self.2 (fun y hy => ?_)
    obtain ⟨j, hj⟩ := List.getElem?_of_mem hy
    rw [List.getElem?_drop] at hj
    simp only [bne_iff_ne, ne_eq]
    exact fun he => by have := huniq _ y hj he; omega
theorem pipe_lt {d : DIpc} (h : IOk d) : ∀ (n i j : Nat) (a b : DPipe), j = i + n + 1 → d.Pipes[i]? = some a → d.Pipes[j]? = some b → a.Id < b.Id
  | 0, i, j, a, b, hj, ha, hb => (h.pipe j b hb).sorted a (by omega) (by rw [show j - 1 = i by omega]; exact ha)
  | n + 1, i, j, a, b, hj, ha, hb => by
    have hjl := (List.getElem?_eq_some_iff.1 hb).1
    have hc : d.Pipes[j - 1]? = some d.Pipes[j - 1] := List.getElem?_eq_getElem (by omega)
    have h1 := pipe_lt h n i (j - 1) a _ (by omega) ha hc
    have h2 := (h.pipe j b hb).sorted _ (by omega) hc
    omega
theorem pipe_uniq {d : DIpc} (h : IOk d) {i j : Nat} {a b : DPipe} (ha : d.Pipes[i]? = some a) (hb : d.Pipes[j]? = some b) (he : a.Id = b.Id) : i = j := by
  rcases Nat.lt_trichotomy i j with hlt | e | hlt
  · have := pipe_lt h (j - i - 1) i j a b (by omega) ha hb; omega
  · exact e
  · have := pipe_lt h (i - j - 1) j i b a (by omega) hb ha; omega
theorem rowN_pre {w : World} {s : Sl} {m : List Int} {k : Nat} (h : RowAt w s.a s.len (m.map (Value.int .u8))) (hk : k ≤ m.length) : RowAt w (cutA s.a s.cap (Int.toNat 0) 1) (k - Int.toNat 0) ((m.take k).map (Value.int .u8)) := by
  have h1 : RowAt w s.a (s.len * 1) (m.flatMap (fun x => [Value.int .u8 x])) := by rw [Nat.mul_one, ← List.map_eq_flatMap]; exact h
  have := RowAt.pre (f := fun x => [Value.int .u8 x]) (z := 1) (fun _ => rfl) h1 hk
  rw [Nat.mul_one, ← List.map_eq_flatMap] at this
  exact this
theorem rowN_suf {w : World} {s : Sl} {m : List Int} {k : Nat} (h : RowAt w s.a s.len (m.map (Value.int .u8))) (hl : s.len = m.length) (hc : s.len ≤ s.cap) (hk : k ≤ m.length) : RowAt w (cutA s.a s.cap k 1) (s.len - k) ((m.drop k).map (Value.int .u8)) := by
  have h1 : RowAt w s.a (s.len * 1) (m.flatMap (fun x => [Value.int .u8 x])) := by rw [Nat.mul_one, ← List.map_eq_flatMap]; exact h
  have := RowAt.suf (f := fun x => [Value.int .u8 x]) (z := 1) (fun _ => rfl) h1 hl hc hk
  rw [Nat.mul_one, ← List.map_eq_flatMap] at this
  exact this
end Go.Proofs.Ytbimoajgofcmbaa

namespace Go.Proofs.Ytbimoajgofcmbaa
open Go Go.Den
theorem caps_only {w0 w : World} {As : List Asr} (h : SH w0 w As) (n : Nat) {t : Sl} {l : List DCap} (hA : As[n]? = some (rC t l)) (hf : l.length ≤ 1048576) : IpcAt w N0 t N0 ⟨0, [], l, []⟩ :=
  ⟨caps_at h n hA hf, ⟨rfl, fun i x hx => by simp at hx⟩, ⟨rfl, fun i x hx => by simp at hx⟩, by simp⟩
theorem lenM_set {w0 w : World} {As : List Asr} {m : Nat} {ks : List Int} {K : Int → Prop} (h : SH w0 w As) (i : Nat) (hA : As[i]? = some (aSet m ks)) (hk : K (ks.length : Int)) : lenM (some m) w K := by
  obtain ⟨H1, H2, h1, h2, hs⟩ := (h.front hA).cut
  have h1 : H1 = [(m, .m (ks.map (fun n => (Value.int .i64 n, Value.bool true))))] := h1
  subst h1
  obtain ⟨es, k, he, hm⟩ := hs.blk (m, .m (ks.map (fun n => (Value.int .i64 n, Value.bool true)))) (by simp)
  refine ⟨⟨es⟩, k, he, ?_⟩
  have := congrArg List.length hm
  simp at this
  rw [show ((⟨es⟩ : Array MapEntry)).size = ks.length by simpa using this]
  exact hk
theorem below_len {d : DIpc} (h : IOk d) {top : Int} {ks : List Int} (hnd : ks.Nodup) (hin : ∀ x, x ∈ ks → ∃ c, c ∈ d.Caps ∧ c.Id = x) (hks : ∀ (j : Nat) (y : DCap), d.Caps[j]? = some y → (y.Id ∈ ks ↔ Und d top y.Id)) : (ks.length : Int) = (d.Caps.length : Int) - ((revC d top).length : Int) := by
  classical
  have h1 : (d.Caps.filter (fun c => decide (Und d top c.Id))).length + (revC d top).length = d.Caps.length := by
    unfold revC
    have := (List.filter_append_perm (fun c : DCap => decide (Und d top c.Id)) d.Caps).length_eq
    rw [List.length_append] at this
    exact this
  have hids : (d.Caps.map DCap.Id).Nodup := by
    rw [List.nodup_iff_pairwise_ne, List.pairwise_map]
    refine List.pairwise_iff_getElem.2 (fun i j hi hj hij => ?_)
    have := (cap_mono h (List.getElem?_eq_getElem hi) (List.getElem?_eq_getElem hj)).1.2 hij
    omega
  have h2 : ((d.Caps.filter (fun c => decide (Und d top c.Id))).map DCap.Id).Nodup := by
    refine List.Nodup.sublist ?_ hids
    exact (List.filter_sublist).map _
  have hp : ks.Perm ((d.Caps.filter (fun c => decide (Und d top c.Id))).map DCap.Id) := by
    refine (List.perm_ext_iff_of_nodup hnd h2).2 (fun x => ⟨fun hx => ?_, fun hx => ?_⟩)
    · obtain ⟨c, hc, rfl⟩ := hin x hx
      obtain ⟨j, hj⟩ := List.getElem?_of_mem hc
      exact List.mem_map.2 ⟨c, List.mem_filter.2 ⟨hc, by simpa using (hks j c hj).1 hx⟩, rfl⟩
    · obtain ⟨c, hc, rfl⟩ := List.mem_map.1 hx
      obtain ⟨hc1, hc2⟩ := List.mem_filter.1 hc
      obtain ⟨j, hj⟩ := List.getElem?_of_mem hc1
      exact (hks j c hj).2 (by simpa using hc2)
  have h3 := hp.length_eq
  rw [List.length_map] at h3
  omega
theorem drop_abs {r : RIpc} {id : Int} {c : DCap} (hc : capOf r.abs id = some c) : (dropR r id c.Parent).abs = cleanF (dropF r.abs id) := by
  unfold dropF
  rw [hc]
  unfold dropR cleanF RIpc.abs
  dsimp only
  rw [filter_abs]
set_option maxRecDepth 8000 in
set_option maxHeartbeats 8000000 in
theorem s75 {w0 w : World} {F : List Asr} {b : Nat} {tp tc tq td : Sl} {r : RIpc} {o : DIpcOp} (h : SH w0 w (ST b tp tc tq r ++ F)) (hw : IWf r.abs) (hi : IOk r.abs) (hb : ByAt w0 td o.Data) (hbs : o.Data.length ≤ 1048576) :
    CallW Try.prog 75 #[.pointer (some ⟨b, 0, none⟩), .agg ⟨opV o td⟩] w (SR w0 F b (stepI r.abs o)) := by
  refine go75 (a0 := some ⟨b, 0, none⟩) (a1_0 := o.Kind) (a1_1 := o.Holder) (a1_2 := o.Id) (a1_3 := o.To) (a1_4 := o.Rights) (a1_5 := o.Cap) (a1_6 := o.N) (a1_7 := td) ?_
  unfold W75; (try delta qn ql qb qi qS qI qP qQ qR qU qA qC H75_2 H75_1 H75_0 H75_3 H75_4 H75_5 H75_6 H75_7 H75_8)
  have hnx : 0 ≤ r.Next ∧ r.Next ≤ 1099511627776 := hi.next
  have hfc : r.Caps.length ≤ 128 := hi.caps
  have hfp : r.Ports.length ≤ 32 := by rw [← abs_ports]; exact hi.ports
  have hfq : r.Pipes.length ≤ 32 := by rw [← abs_pipes]; exact hi.pipes
  have hdl := hb.len
  have h : SH w0 w (BI b r.Next tp tc tq :: rP tp r.Ports :: bP r.Ports :: rC tc r.Caps :: rQ tq r.Pipes :: bQ r.Pipes :: F) := h
  have htp := h.len 1 rfl
  have htc := h.len 3 rfl
  have htq := h.len 4 rfl
  rw [recs_len] at htp htc htq
  refine h.alloc (fun w1 h e1 n1 => ?_)
  refine h.alloc (fun w2 h e2 n2 => ?_)
  have h : SH w0 w2 (BR w1.heap.size 0 0 N0 0 :: BO w.heap.size o td :: BI b r.Next tp tc tq :: rP tp r.Ports :: bP r.Ports :: rC tc r.Caps :: rQ tq r.Pipes :: bQ r.Pipes :: F) := h
  generalize w1.heap.size = rb at *
  generalize w.heap.size = wb at *
  refine ⟨_, h.cell 1 rfl rfl, c57.mono ?_⟩
  rintro _ w5 ⟨rfl, rfl⟩
  refine ⟨_, rfl, ?_⟩
  refine JoinW.cut1 (fun (x : Bool) w' => x = decide (o.Holder < 0 ∨ 64 ≤ o.Holder ∨ o.Kind < 1) ∧ w' = w5) (BIf.of (fun hx => ⟨?_, rfl⟩) (fun hx => ⟨_, h.cell 1 rfl rfl, ?_, rfl⟩)) ?_
  · rw [Bool.eq_iff_iff]; simp at hx ⊢; omega
  · rw [Bool.eq_iff_iff]; simp at hx ⊢; omega
  rintro (x : Bool) w9 ⟨rfl, rfl⟩
  refine JoinW.cut1 (fun (x : Bool) w' => x = decide (BadO o) ∧ w' = w9) (BIf.dec (fun hx => ⟨(decide_eq_true (by unfold BadO; omega)).symm, rfl⟩) (fun hx => ⟨_, h.cell 1 rfl rfl, by rw [Bool.eq_iff_iff, decide_eq_true_iff, decide_eq_true_iff]; unfold BadO; omega, rfl⟩)) ?_
  rintro (x : Bool) w12 ⟨rfl, rfl⟩
  refine BIf.dec (fun hbad => errT h (i := 0) rfl (fun w' h => srE (step_bad hbad) h.drop.drop)) (fun hbad => ?_)
  have hbad2 := hbad
  unfold BadO at hbad2
  refine h.alloc (fun w24 h e24 n24 => ?_)
  generalize w12.heap.size = cb at *
  have h : SH w0 w24 (BC cb ⟨0, 0, 0, 0, 0⟩ :: BR rb 0 0 N0 0 :: BO wb o td :: BI b r.Next tp tc tq :: rP tp r.Ports :: bP r.Ports :: rC tc r.Caps :: rQ tq r.Pipes :: bQ r.Pipes :: F) := h
  refine JoinW.cut0 (fun w' => ∃ c : DCap, ((2 ≤ o.Kind ∧ o.Kind ≤ 6) → ∃ k0 : Nat, capIx r.abs o.Id = k0 ∧ r.Caps[k0]? = some c ∧ capOf r.abs o.Id = some c ∧ c.Id = o.Id ∧ c.Holder = o.Holder) ∧ SH w0 w' (BC cb c :: BR rb 0 0 N0 0 :: BO wb o td :: BI b r.Next tp tc tq :: rP tp r.Ports :: bP r.Ports :: rC tc r.Caps :: rQ tq r.Pipes :: bQ r.Pipes :: F)) ?_ ?_
  · refine ⟨_, h.cell 2 rfl rfl, ?_⟩
    refine JoinW.cut1 (fun (x : Bool) w' => x = decide (2 ≤ o.Kind ∧ o.Kind ≤ 6) ∧ w' = w24) (BIf.dec (fun hx => ⟨_, h.cell 2 rfl rfl, by rw [Bool.eq_iff_iff]; simp; omega, rfl⟩) (fun hx => ⟨(decide_eq_false (by omega)).symm, rfl⟩)) ?_
    rintro (x : Bool) w582 ⟨rfl, rfl⟩
    refine BIf.dec (fun h26 => ?_) (fun h26 => ⟨_, fun hc => absurd hc h26, h⟩)
    have hat : IpcAt w582 tp tc tq r.abs := ipc_at (F := F) (SH.drop (SH.drop (SH.drop (SH.drop h)))) hw
    refine ⟨_, h.cell 2 rfl rfl, (c59 (h.cell 3 rfl rfl) hat).mono ?_⟩
    rintro _ w585 ⟨rfl, rfl⟩
    refine ⟨_, rfl, ?_⟩
    have h := h.drew
    rcases capIx_cases r.abs o.Id with ⟨e1, e2, e3⟩ | ⟨k0, c, e1, e2, e3, e4⟩
    · rw [e1, ptrE_neg (by omega)]
      refine JoinW.cut1 (fun (x : Bool) w' => x = true ∧ w' = w585.drew) (BIf.t rfl ⟨rfl, rfl⟩) ?_
      rintro (x : Bool) w589 ⟨rfl, rfl⟩
      exact BIf.t rfl (errT h (i := 1) rfl (fun w' h => srE (step_c0 hbad h26 e2) h.drop.drop.drop))
    · have e2 : r.Caps[k0]? = some c := e2
      obtain ⟨q, hq⟩ := h.rowQ 6 rfl e2
      rw [e1, ptrE_at hq]
      refine JoinW.cut1 (fun (x : Bool) w' => x = (c.Holder != o.Holder) ∧ w' = w585.drew) (BIf.f rfl ⟨_, rfl, _, h.rdR 6 rfl hq e2 rfl, _, h.cell 2 rfl rfl, rfl, rfl⟩) ?_
      rintro (x : Bool) w589 ⟨rfl, rfl⟩
      refine BIf.ne (fun hh => errT h (i := 1) rfl (fun w' h => srE (step_ch hbad h26 e3 hh) h.drop.drop.drop)) (fun hh => ?_)
      refine ⟨_, rfl, _, h.rdR 6 rfl hq e2 rfl, _, h.rdR 6 rfl hq e2 rfl, _, h.rdR 6 rfl hq e2 rfl, _, h.rdR 6 rfl hq e2 rfl, _, h.rdR 6 rfl hq e2 rfl, ?_⟩
      refine h.put 0 rfl rfl rfl (fun w607 h n607 => ?_)
      exact ⟨c, fun _ => ⟨k0, rfl, e2, e3, e4, hh⟩, h⟩
  clear h
  rintro w26 ⟨c, hcap, h⟩
  have hat : IpcAt w26 tp tc tq r.abs := ipc_at (F := F) (SH.drop (SH.drop (SH.drop (SH.drop h)))) hw
  refine JoinW.cut1 (fun (p : Option Addr) w' => w' = w26 ∧ (8 < o.Kind → ∃ (k : Nat) (p0 : RPipe) (q : Addr), pipeIx r.abs o.Id = k ∧ r.Pipes[k]? = some p0 ∧ pipeOf r.abs o.Id = some p0.abs ∧ tq.a = some q ∧ p = some (q.add (k * 4)))) ?_ ?_
  · refine ⟨_, h.cell 2 rfl rfl, BIf.dec (fun h9 => ?_) (fun h9 => ⟨rfl, fun h8 => absurd h8 h9⟩)⟩
    refine ⟨_, h.cell 2 rfl rfl, (c104 (h.cellP 3 rfl rfl) hat).mono ?_⟩
    rintro _ w566 ⟨rfl, rfl⟩
    refine ⟨_, rfl, ?_⟩
    rcases pipeIx_cases r.abs o.Id with ⟨e1, e2, e3⟩ | ⟨k0, p0, e1, e2, e3, e4⟩
    · rw [e1, ptrE_neg (by omega)]
      exact BIf.t rfl (errT h (i := 1) rfl (fun w' h => srE (step_p0 hbad h9 e2) h.drop.drop.drop))
    · obtain ⟨x, hx, rfl⟩ := map_get e2
      obtain ⟨q, hq⟩ := h.rowQ 7 rfl hx
      rw [e1, ptrE_at hq]
      exact BIf.f rfl ⟨rfl, fun _ => ⟨k0, x, q, rfl, hx, e3, hq, rfl⟩⟩
  rintro (p : Option Addr) w29 ⟨rfl, hpipe⟩
  refine JoinW.cut0 (Mid w0 F b rb (stepI r.abs o)) ?_ ?_
  rotate_left
  · clear h hat
    rintro w31 ⟨tp', tc', tq', t, r', hr', h⟩
    refine ⟨_, h.cell 0 rfl rfl, _, h.cell 0 rfl rfl, t, h.cell 0 rfl rfl, _, h.cell 0 rfl rfl, ?_⟩
    refine h.put 0 rfl rfl rfl (fun w36 h n36 => ?_)
    exact ⟨_, h.cell 0 rfl rfl, _, h.cell 0 rfl rfl, t, h.cell 0 rfl rfl, _, h.cell 0 rfl rfl, tp', tc', tq', t, r', rfl, hr', h.drop⟩
  refine ⟨_, h.cell 2 rfl rfl, ?_⟩
  refine BIf.eq (fun k1 => ?_) (fun k1 => ?_)
  · -- a new port
    refine ⟨_, rfl, tp, h.cellP 3 rfl rfl, ?_⟩
    refine JoinW.cut1 (fun (x : Bool) w' => x = decide (32 ≤ r.Ports.length ∨ 128 ≤ r.Caps.length) ∧ w' = w29) (BIf.eq (fun e => ⟨(decide_eq_true (.inl (by omega))).symm, rfl⟩) (fun e => ⟨_, rfl, tc, h.cellP 3 rfl rfl, by rw [Bool.eq_iff_iff]; simp; omega, rfl⟩)) ?_
    rintro (x : Bool) w46 ⟨rfl, rfl⟩
    have hst := step_1 (d := r.abs) hbad k1
    refine BIf.dec (fun hfull => errT h (i := 1) rfl (fun w' h => srE (by rw [hst]; unfold newPort; rw [if_pos (by rw [abs_ports]; exact hfull)]) h.drop.drop.drop)) (fun hfull => ?_)
    have hres : stepI r.abs o = (⟨r.Next + 2, r.abs.Ports ++ [⟨r.Next + 1, []⟩], r.Caps ++ [⟨r.Next + 2, o.Holder, r.Next + 1, 7, 0⟩], r.abs.Pipes⟩, resN (r.Next + 2)) := by rw [hst]; unfold newPort; rw [if_neg (by rw [abs_ports]; exact hfull)]; rfl
    rw [hres]
    refine (s105 ((((h.fro 2 rfl).fro 2 rfl).fro 2 rfl).fro 3 rfl) hnx.1 (by omega)).mono ?_
    rintro _ w59 ⟨rfl, h⟩
    refine ⟨_, rfl, _, rfl, tp, h.cellP 0 rfl rfl, ?_⟩
    refine LetW_iff.2 (SH.appendR1 (f := RPort.cells) (x := ⟨r.Next + 1, N0, []⟩) (((((h.fro 3 rfl).fro 3 rfl).fro 3 rfl).fro 3 rfl).fro 4 rfl) rfl rfl rfl (by decide) (by show (_ + _) * 32 ≤ _; omega) (plain_port _) (fun tp2 w65 h htp2 _ => ?_))
    refine ⟨_, rfl, ?_⟩
    refine h.setVP 1 rfl rfl (fun w67 h n67 => ?_)
    refine ⟨_, h.cell 4 rfl rfl, ?_⟩
    have h : SH w0 w67 (rP tp2 (r.Ports ++ [⟨r.Next + 1, N0, []⟩]) :: BI b (r.Next + 1) tp2 tc tq :: BC cb c :: BR rb 0 0 N0 0 :: BO wb o td :: bP r.Ports :: rC tc r.Caps :: rQ tq r.Pipes :: bQ r.Pipes :: F) := h
    refine (s106 (c := ⟨0, o.Holder, r.Next + 1, 7, 0⟩) (((((((h.fro 5 rfl).fro 5 rfl).fro 5 rfl).fro 5 rfl).fro 4 rfl).fro 6 rfl).fro 6 rfl) (by omega) (by omega) (by omega)).mono ?_
    rintro _ w70 ⟨tc2, rfl, h⟩
    refine ⟨_, rfl, ?_⟩
    refine h.setV 4 rfl rfl (fun w72 h n72 => ?_)
    have h := (((((((((h.dropAt 5).dropAt 3).fro 2 rfl).fro 2 rfl).fro 2 rfl).fro 3 rfl).fro 4 rfl)).bagNil msgA).nil none 3
    have h := SH.bagSnoc (f := portA) (x := (⟨r.Next + 1, N0, []⟩ : RPort)) (SH.allIn (As := [rM N0 [], bM []]) h)
    have h := ((((((h.fro 3 rfl).fro 1 rfl).fro 4 rfl).fro 4 rfl).fro 4 rfl)).nil none 1
    refine ⟨tp2, tc2, tq, N0, ⟨r.Next + 2, r.Ports ++ [⟨r.Next + 1, N0, []⟩], r.Caps ++ [⟨r.Next + 2, o.Holder, r.Next + 1, 7, 0⟩], r.Pipes⟩, ?_, ?_⟩
    · unfold RIpc.abs
      rw [List.map_append]
      rfl
    · have e : r.Next + 1 + 1 = r.Next + 2 := by omega
      rw [e] at h
      exact h.p1
  refine BIf.eq (fun k2 => ?_) (fun k2 => ?_)
  · -- a Cap given
    obtain ⟨k0, c1, c2, c3, c4, c5⟩ := hcap (by omega)
    have hri := hi.rights (List.mem_of_getElem? (l := r.abs.Caps) c2)
    have hst : stepI r.abs o = giveI r.abs o c := by rw [step_c hbad (by omega) c3 c5, cap_2 k2]
    refine ⟨_, h.cell 2 rfl rfl, c57.mono ?_⟩
    rintro _ w77 ⟨rfl, rfl⟩
    refine ⟨_, rfl, ?_⟩
    refine JoinW.cut1 (fun (x : Bool) w' => x = decide (o.To < 0 ∨ 64 ≤ o.To ∨ o.Rights < 1) ∧ w' = w77) (BIf.of (fun hx => ⟨?_, rfl⟩) (fun hx => ⟨_, h.cell 2 rfl rfl, ?_, rfl⟩)) ?_
    · rw [Bool.eq_iff_iff]; simp at hx ⊢; omega
    · rw [Bool.eq_iff_iff]; simp at hx ⊢; omega
    rintro (x : Bool) w81 ⟨rfl, rfl⟩
    refine JoinW.cut1 (fun (x : Bool) w' => x = decide (o.To < 0 ∨ 64 ≤ o.To ∨ o.Rights < 1 ∨ 7 < o.Rights) ∧ w' = w81) (BIf.dec (fun hx => ⟨(decide_eq_true (by omega)).symm, rfl⟩) (fun hx => ⟨_, h.cell 2 rfl rfl, by rw [Bool.eq_iff_iff, decide_eq_true_iff, decide_eq_true_iff]; omega, rfl⟩)) ?_
    rintro (x : Bool) w84 ⟨rfl, rfl⟩
    refine BIf.dec (fun hbd => errT h (i := 1) rfl (fun w' h => srE (by rw [hst]; unfold giveI; rw [if_pos hbd]) h.drop.drop.drop)) (fun hbd => ?_)
    refine ⟨_, h.cell 0 rfl rfl, ?_⟩
    refine JoinW.cut1 (fun (x : Bool) w' => x = decide (amongB 4 c.Rights = false ∨ amongB o.Rights c.Rights = false) ∧ w' = w84) ?_ ?_
    · rw [am4 hri.1 hri.2]
      refine BIf.of (fun hx => ⟨(decide_eq_true (.inl (by simpa using hx))).symm, rfl⟩) (fun hx => ⟨_, h.cell 0 rfl rfl, _, h.cell 2 rfl rfl, _, h.cell 2 rfl rfl, ?_, rfl⟩)
      rw [among_eq (by omega) (by omega) hri.1 hri.2, Bool.eq_iff_iff]
      simp at hx
      simp [hx]
    rintro (x : Bool) w99 ⟨rfl, rfl⟩
    refine BIf.dec (fun hpm => errT h (i := 1) rfl (fun w' h => srE (by rw [hst]; unfold giveI; rw [if_neg hbd, if_pos hpm]) h.drop.drop.drop)) (fun hpm => ?_)
    refine ⟨_, rfl, tc, h.cellP 3 rfl rfl, BIf.eq (fun hfull => errT h (i := 1) rfl (fun w' h => srE (by rw [hst]; unfold giveI; rw [if_neg hbd, if_neg hpm, if_pos (by show 128 ≤ r.Caps.length; omega)]) h.drop.drop.drop)) (fun hfull => ?_)⟩
    have hres : stepI r.abs o = (addCap r.abs o.To c.Port o.Rights c.Id, resN (r.Next + 1)) := by rw [hst]; unfold giveI; rw [if_neg hbd, if_neg hpm, if_neg (by show ¬ 128 ≤ r.Caps.length; omega)]; rfl
    rw [hres]
    refine ⟨_, h.cell 2 rfl rfl, _, h.cell 0 rfl rfl, _, h.cell 2 rfl rfl, _, h.cell 0 rfl rfl, ?_⟩
    refine (s106 (c := ⟨0, o.To, c.Port, o.Rights, c.Id⟩) (((((((h.fro 5 rfl).fro 5 rfl).fro 4 rfl).fro 4 rfl).fro 4 rfl).fro 6 rfl).fro 6 rfl) hnx.1 (by omega) (by omega)).mono ?_
    rintro _ w129 ⟨tc2, rfl, h⟩
    refine ⟨_, rfl, ?_⟩
    refine h.setV 3 rfl rfl (fun w131 h n131 => ?_)
    have h := ((((((((h.dropAt 4).dropAt 2).fro 1 rfl).fro 4 rfl).fro 4 rfl).fro 3 rfl).fro 4 rfl)).nil none 1
    refine ⟨tp, tc2, tq, N0, ⟨r.Next + 1, r.Ports, r.Caps ++ [⟨r.Next + 1, o.To, c.Port, o.Rights, c.Id⟩], r.Pipes⟩, rfl, ?_⟩
    exact h.p1
  refine BIf.eq (fun k3 => ?_) (fun k3 => ?_)
  · -- what is below a Cap goes
    obtain ⟨k0, c1, c2, c3, c4, c5⟩ := hcap (by omega)
    have hcm : c ∈ r.abs.Caps := List.mem_of_getElem? (l := r.abs.Caps) c2
    have hst : stepI r.abs o = revF r.abs o.Id := by rw [step_c hbad (by omega) c3 c5, cap_3 k3]
    refine ⟨_, h.cell 0 rfl rfl, ?_⟩
    rw [c4]
    refine (c66 (h.cell 3 rfl rfl) hat hi ⟨c, hcm, c4⟩).mono ?_
    rintro _ w139 ⟨m, ks, rfl, hks, hnd, hin, g⟩
    have h := h.seq g
    refine ⟨some m, rfl, ?_⟩
    refine h.alloc (fun w141 h e141 n141 => ?_)
    refine h.setV 0 rfl rfl (fun w142 h n142 => ?_)
    have h : SH w0 w142 (aB w139.heap.size (([.map (some m)] : List Value).map Ce.v) :: aSet m ks :: BC cb c :: BR rb 0 0 N0 0 :: BO wb o td :: BI b r.Next tp tc tq :: rP tp r.Ports :: bP r.Ports :: rC tc r.Caps :: rQ tq r.Pipes :: bQ r.Pipes :: F) := h
    refine ⟨some m, h.cell 0 rfl rfl, ?_⟩
    refine lenM_set h 1 rfl ?_
    refine h.setV 3 rfl rfl (fun w145 h n145 => ?_)
    have h : SH w0 w145 (aB w139.heap.size (([.map (some m)] : List Value).map Ce.v) :: aSet m ks :: BC cb c :: BR rb 0 (ks.length : Int) N0 0 :: BO wb o td :: BI b r.Next tp tc tq :: rP tp r.Ports :: bP r.Ports :: rC tc r.Caps :: rQ tq r.Pipes :: bQ r.Pipes :: F) := h
    refine (s107 (p := fun x => !decide (x.Id ∈ ks)) (((((((((h.fro 4 rfl).fro 4 rfl).fro 4 rfl).fro 4 rfl).fro 4 rfl).fro 8 rfl).fro 8 rfl).fro 8 rfl).fro 8 rfl) (by omega) (by omega) (fun x w1 As _ hA => c108 hA)).mono ?_
    rintro _ w147 ⟨tp2, tc2, rfl, h⟩
    have hrev : r.Caps.filter (fun x => !decide (x.Id ∈ ks)) = revC r.abs o.Id := by
      unfold revC
      refine List.filter_congr (fun x hx => ?_)
      obtain ⟨j, hj⟩ := List.getElem?_of_mem hx
      have := hks j x hj
      by_cases hu : Und r.abs o.Id x.Id
      · simp [hu, this.2 hu]
      · have hn : x.Id ∉ ks := fun hm => hu (this.1 hm)
        simp [hu, hn]
    rw [hrev] at h
    have hall : r.Ports.filter (hasR (revC r.abs o.Id)) = r.Ports := List.filter_eq_self.2 (fun p hp => rev_has hi hcm c4 p.abs (List.mem_map.2 ⟨p, hp, rfl⟩))
    rw [hall] at h
    have hlen := below_len hi (ks := ks) hnd hin hks
    rw [hst]
    refine ⟨rfl, ?_⟩
    have h := ((((((((((h.dropAt 8).dropAt 6).dropAt 5).dropAt 4).fro 3 rfl).fro 3 rfl).fro 3 rfl).fro 3 rfl).fro 4 rfl)).nil none 1
    refine ⟨tp2, tc2, tq, N0, ⟨r.Next, r.Ports, revC r.abs o.Id, r.Pipes⟩, rfl, ?_⟩
    have e : (ks.length : Int) = ((r.Caps.length : Int) - ((revC r.abs o.Id).length : Int)) := hlen
    rw [e] at h
    exact h.p1
  refine BIf.eq (fun k4 => ?_) (fun k4 => ?_)
  · -- a Cap dropped
    obtain ⟨k0, c1, c2, c3, c4, c5⟩ := hcap (by omega)
    have hst : stepI r.abs o = (cleanF (dropF r.abs o.Id), resN 0) := by rw [step_c hbad (by omega) c3 c5, cap_4 k4]
    refine ⟨_, h.cell 0 rfl rfl, ?_⟩
    rw [c4]
    refine (s109 (F := BC cb c :: BR rb 0 0 N0 0 :: BO wb o td :: F) (r := r) (((((((((h.fro 2 rfl).fro 2 rfl).fro 2 rfl).fro 8 rfl).fro 8 rfl).fro 8 rfl).fro 8 rfl).fro 8 rfl).fro 8 rfl) hw c1 c2).mono ?_
    rintro _ w150 ⟨tp2, tc2, rfl, h⟩
    refine ⟨rfl, ?_⟩
    have h : SH w0 w150 (BI b r.Next tp2 tc2 tq :: rP tp2 (dropR r o.Id c.Parent).Ports :: bP (dropR r o.Id c.Parent).Ports :: rC tc2 (dropR r o.Id c.Parent).Caps :: rQ tq r.Pipes :: bQ r.Pipes :: BC cb c :: BR rb 0 0 N0 0 :: BO wb o td :: F) := h
    have h := ((((((((((h.dropAt 8).dropAt 6).fro 5 rfl).fro 5 rfl).fro 5 rfl).fro 5 rfl).fro 5 rfl).fro 5 rfl).fro 6 rfl)).nil none 1
    rw [hst]
    exact ⟨tp2, tc2, tq, N0, dropR r o.Id c.Parent, drop_abs c3, h.p1⟩
  refine BIf.eq (fun k5 => ?_) (fun k5 => ?_)
  · -- a message sent
    obtain ⟨k0, c1, c2, c3, c4, c5⟩ := hcap (by omega)
    have hcm : c ∈ r.abs.Caps := List.mem_of_getElem? (l := r.abs.Caps) c2
    have hri := hi.rights hcm
    have hst : stepI r.abs o = sendI r.abs o c := by rw [step_c hbad (by omega) c3 c5, cap_5 k5]
    refine ⟨_, h.cell 0 rfl rfl, ?_⟩
    dsimp only; rw [am1 hri.1 hri.2]
    refine BIf.of (fun hx => errT h (i := 1) rfl (fun w' h => srE (by rw [hst]; unfold sendI; rw [if_pos (by simpa using hx)]) h.drop.drop.drop)) (fun hx => ?_)
    have ha1 : ¬ amongB 1 c.Rights = false := by simpa using hx
    refine ⟨td, h.cell 2 rfl rfl, BIf.dec (fun hl => errT h (i := 1) rfl (fun w' h => srE (by rw [hst]; unfold sendI; rw [if_neg ha1, if_pos (by omega)]) h.drop.drop.drop)) (fun hl => ?_)⟩
    refine JoinW.cut0 (fun w' => stepI r.abs o = pushI r.abs o c ∧ SH w0 w' (BC cb c :: BR rb 0 0 N0 0 :: BO wb o td :: BI b r.Next tp tc tq :: rP tp r.Ports :: bP r.Ports :: rC tc r.Caps :: rQ tq r.Pipes :: bQ r.Pipes :: F)) ?_ ?_
    · refine ⟨_, h.cell 2 rfl rfl, BIf.ne (fun hc0 => ?_) (fun hc0 => ⟨by rw [hst]; unfold sendI; rw [if_neg ha1, if_neg (by omega), if_neg (by omega)], h⟩)⟩
      refine ⟨_, h.cell 2 rfl rfl, (c59 (h.cell 3 rfl rfl) hat).mono ?_⟩
      rintro _ w244 ⟨rfl, rfl⟩
      refine ⟨_, rfl, ?_⟩
      have h := h.drew
      rcases capIx_cases r.abs o.Cap with ⟨e1, e2, e3⟩ | ⟨k2, c', e1, e2, e3, e4⟩
      · rw [e1, ptrE_neg (by omega)]
        refine JoinW.cut1 (fun (x : Bool) w' => x = true ∧ w' = w244.drew) (BIf.t rfl ⟨rfl, rfl⟩) ?_
        rintro (x : Bool) w248 ⟨rfl, rfl⟩
        exact BIf.t rfl (errT h (i := 1) rfl (fun w' h => srE (by rw [hst]; unfold sendI; rw [if_neg ha1, if_neg (by omega), if_pos hc0, e2]) h.drop.drop.drop))
      · have e2 : r.Caps[k2]? = some c' := e2
        have hri2 := hi.rights (List.mem_of_getElem? (l := r.abs.Caps) e2)
        obtain ⟨q, hq⟩ := h.rowQ 6 rfl e2
        rw [e1, ptrE_at hq]
        refine JoinW.cut1 (fun (x : Bool) w' => x = (c'.Holder != o.Holder) ∧ w' = w244.drew) (BIf.f rfl ⟨_, rfl, _, h.rdR 6 rfl hq e2 rfl, _, h.cell 2 rfl rfl, rfl, rfl⟩) ?_
        rintro (x : Bool) w248 ⟨rfl, rfl⟩
        refine BIf.ne (fun hh => errT h (i := 1) rfl (fun w' h => srE (by rw [hst]; unfold sendI; rw [if_neg ha1, if_neg (by omega), if_pos hc0, e3]; exact if_pos hh) h.drop.drop.drop)) (fun hh => ?_)
        refine ⟨_, rfl, _, h.rdR 6 rfl hq e2 rfl, ?_⟩
        rw [am4 hri2.1 hri2.2]
        refine BIf.of (fun hx4 => errT h (i := 1) rfl (fun w' h => srE (by rw [hst]; unfold sendI; rw [if_neg ha1, if_neg (by omega), if_pos hc0, e3]; dsimp only; rw [if_neg (by omega), if_pos (by simpa using hx4)]) h.drop.drop.drop)) (fun hx4 => ⟨?_, h⟩)
        rw [hst]; unfold sendI; rw [if_neg ha1, if_neg (by omega), if_pos hc0, e3]; dsimp only; rw [if_neg (by omega), if_neg (by simpa using hx4)]
    clear h
    rintro w176 ⟨hst2, h⟩
    refine ⟨_, rfl, tc, h.cellP 3 rfl rfl, ?_⟩
    refine LoopW.m2 (fun (bb : Bool) (i : Int) w' => ∃ k : Nat, i = k ∧ k ≤ r.Caps.length ∧ bb = (r.Caps.take k).any (fun x => x.Port == c.Port && amongB 2 x.Rights) ∧ SH w0 w' (BC cb c :: BR rb 0 0 N0 0 :: BO wb o td :: BI b r.Next tp tc tq :: rP tp r.Ports :: bP r.Ports :: rC tc r.Caps :: rQ tq r.Pipes :: bQ r.Pipes :: F)) (fun _ (i : Int) _ => (r.Caps.length - i).toNat) ⟨0, rfl, by omega, rfl, h⟩ ?_
    clear h
    rintro (bb : Bool) (i : Int) w182 ⟨k, rfl, hk, hbb, h⟩ J hJ
    refine BIf.dec (fun hlt => ?_) (fun hge => ?_)
    · have hget : r.Caps[k]? = some r.Caps[k] := List.getElem?_eq_getElem (by omega)
      generalize r.Caps[k] = y at *
      have hriy := hi.rights (List.mem_of_getElem? (l := r.abs.Caps) hget)
      have hany := any_snoc (fun x : DCap => x.Port == c.Port && amongB 2 x.Rights) hget
      obtain ⟨q, hq⟩ := h.rowQ 6 rfl hget
      simp only [Int.toNat_natCast]
      rw [w64 (n := (k : Int) + 1) (by omega) (by omega)]
      refine ⟨by omega, by omega, q, hq, _, h.rdR 6 rfl hq hget rfl, _, h.rdR 6 rfl hq hget rfl, _, h.rdR 6 rfl hq hget rfl, _, h.rdR 6 rfl hq hget rfl, _, h.rdR 6 rfl hq hget rfl, ?_⟩
      refine h.alloc (fun w189 h e189 n189 => ?_)
      refine h.put 0 rfl rfl rfl (fun w190 h n190 => ?_)
      refine JoinW.cut1 (fun (x : Bool) w' => x = (bb || (y.Port == c.Port && amongB 2 y.Rights)) ∧ w' = w190) ?_ ?_
      · refine BIf.of (fun hx => ⟨by rw [hx]; rfl, rfl⟩) (fun hx => ⟨_, h.cell 0 rfl rfl, _, h.cell 1 rfl rfl, BIf.of (fun he => ⟨_, h.cell 0 rfl rfl, ?_, rfl⟩) (fun he => ⟨?_, rfl⟩)⟩)
        · rw [hx, he, Bool.false_or, Bool.true_and, bne, am2 hriy.1 hriy.2, Bool.not_not]
        · rw [hx, he]; rfl
      rintro (x : Bool) w193 ⟨rfl, rfl⟩
      exact hJ _ _ _ ⟨k + 1, by omega, by omega, by rw [hany, hbb], h.drop⟩ (by omega)
    have hke : k = r.Caps.length := by omega
    rw [hke, List.take_length] at hbb
    have hbb : bb = heardB r.abs c := hbb
    subst hbb
    clear hJ
    have hat2 : IpcAt w182 tp tc tq r.abs := ipc_at (F := F) (SH.drop (SH.drop (SH.drop (SH.drop h)))) hw
    refine ⟨_, h.cell 0 rfl rfl, (c58 (h.cell 3 rfl rfl) hat2).mono ?_⟩
    rintro _ w199 ⟨rfl, rfl⟩
    refine ⟨_, rfl, ?_⟩
    refine BIf.of (fun hhd => errT h (i := 1) rfl (fun w' h => srE (by rw [hst2]; unfold pushI; rw [if_pos (by simpa using hhd)]) h.drop.drop.drop)) (fun hhd => ?_)
    have hhd2 : ¬ heardB r.abs c = false := by simpa using hhd
    rcases portIx_cases r.abs c.Port with ⟨e1, e2, e3⟩ | ⟨kp, P, e1, e2, e3, e4⟩
    · have := (hi.cap k0 c c2).port
      omega
    obtain ⟨x, hx, rfl⟩ := map_get e2
    have hx : r.Ports[kp]? = some x := hx
    have hlk : kp < r.Ports.length := (List.getElem?_eq_some_iff.1 hx).1
    have hq8 : x.Q.length ≤ 8 := by have := (hi.port kp x.abs e2).few; have e : x.abs.Queue.length = x.Q.length := List.length_map ..; omega
    obtain ⟨q, hq⟩ := h.rowQ 4 rfl hx
    rw [e1, ptrE_at hq]
    refine ⟨_, rfl, x.q, h.rdR 4 rfl hq hx rfl, ?_⟩
    have g : SH w0 w199 (rM x.q x.Q :: bM x.Q :: bP (r.Ports.eraseIdx kp) :: BC cb c :: BR rb 0 0 N0 0 :: BO wb o td :: BI b r.Next tp tc tq :: rP tp r.Ports :: rC tc r.Caps :: rQ tq r.Pipes :: bQ r.Pipes :: F) := SH.allOut (As := [rM x.q x.Q, bM x.Q]) ((((((((h.fro 4 rfl).fro 4 rfl).fro 4 rfl).fro 4 rfl).fro 4 rfl).fro 5 rfl)).bagOut hx)
    have hql := g.len 0 rfl
    rw [recs_len] at hql
    have hqa : x.abs.Queue.length = x.Q.length := List.length_map ..
    refine BIf.eq (fun h8 => errT h (i := 1) rfl (fun w' h => srE (by rw [hst2]; unfold pushI; rw [if_neg hhd2, e3]; exact if_pos (by omega)) h.drop.drop.drop)) (fun h8 => ?_)
    have hres : stepI r.abs o = (setQ r.abs kp x.abs (x.abs.Queue ++ [⟨o.Holder, o.Data, o.Cap⟩]), resN 0) := by
      rw [hst2]; unfold pushI; rw [if_neg hhd2, e3, e1, Int.toNat_natCast]; exact if_neg (by omega)
    rw [hres]
    clear h
    have g := g.drew
    refine ⟨_, rfl, x.q, g.rdR 7 rfl hq hx rfl, _, g.cell 5 rfl rfl, td, g.cell 5 rfl rfl, _, g.cell 5 rfl rfl, ?_⟩
    refine SH.appendN (k := .u8) (m := []) (us := o.Data) (g.nil none 1) (hb.ext g.ext).row rfl rfl (by decide) (by show (_ + _) * 1 ≤ _; simp; omega) (fun t230 w231 g ht230 _ => ?_)
    refine ⟨⟨_, g.cell 6 rfl rfl, rfl⟩, ⟨_, g.cell 6 rfl rfl, rfl⟩, ⟨x.q, g.rdR 8 rfl hq hx rfl, rfl⟩, ?_⟩
    refine g.alloc (fun w235 g e235 n235 => ?_)
    have hrow : RowAt w235 (some ⟨w231.heap.size, 0, none⟩) (1 * 3) ([(⟨o.Holder, t230, o.Cap, o.Data⟩ : RMsg)].flatMap RMsg.cells) := row_one (g.blkAt 0 rfl) rfl
    refine ⟨⟨x.q, g.rdR 9 rfl hq hx rfl, rfl⟩, ?_⟩
    refine SH.appendR (f := RMsg.cells) (us := [⟨o.Holder, t230, o.Cap, o.Data⟩]) (g.drop.p1) hrow rfl (fun _ => rfl) rfl rfl (by decide) (by show (_ + _) * 40 ≤ _; simp; omega) plain_msg (fun q2 w238 g hq2l _ => ?_)
    refine ⟨_, rfl, ?_⟩
    have g : SH w0 w238 (rM q2 (x.Q ++ [⟨o.Holder, t230, o.Cap, o.Data⟩]) :: rD t230 o.Data :: bM x.Q :: bP (r.Ports.eraseIdx kp) :: BC cb c :: BR rb 0 0 N0 0 :: BO wb o td :: BI b r.Next tp tc tq :: rP tp (r.Ports.set kp x) :: rC tc r.Caps :: rQ tq r.Pipes :: bQ r.Pipes :: F) := by rw [← set_at hx]; exact g
    refine g.setR 8 (⟨x.Id, q2, x.Q ++ [⟨o.Holder, t230, o.Cap, o.Data⟩]⟩ : RPort) rfl hq hlk (by show 1 < 2; omega) rfl (fun w240 g n240 => ?_)
    have g : SH w0 w240 (rM q2 (x.Q ++ [⟨o.Holder, t230, o.Cap, o.Data⟩]) :: rD t230 o.Data :: bM x.Q :: bP (r.Ports.eraseIdx kp) :: BC cb c :: BR rb 0 0 N0 0 :: BO wb o td :: BI b r.Next tp tc tq :: rP tp (r.Ports.set kp ⟨x.Id, q2, x.Q ++ [⟨o.Holder, t230, o.Cap, o.Data⟩]⟩) :: rC tc r.Caps :: rQ tq r.Pipes :: bQ r.Pipes :: F) := g
    have g := SH.bagSnoc (f := msgA) (x := (⟨o.Holder, t230, o.Cap, o.Data⟩ : RMsg)) (((g.fro 0 rfl).fro 2 rfl).fro 2 rfl)
    have g := SH.bagIn (f := portA) (y := (⟨x.Id, q2, x.Q ++ [⟨o.Holder, t230, o.Cap, o.Data⟩]⟩ : RPort)) hx (SH.allIn (As := [rM q2 (x.Q ++ [⟨o.Holder, t230, o.Cap, o.Data⟩]), bM (x.Q ++ [⟨o.Holder, t230, o.Cap, o.Data⟩])]) g.p1)
    have g := (((((((g.dropAt 3).dropAt 1).fro 0 rfl).fro 3 rfl).fro 3 rfl).fro 3 rfl)).nil none 1
    refine ⟨tp, tc, tq, N0, ⟨r.Next, r.Ports.set kp ⟨x.Id, q2, x.Q ++ [⟨o.Holder, t230, o.Cap, o.Data⟩]⟩, r.Caps, r.Pipes⟩, ?_, ?_⟩
    · unfold RIpc.abs setQ
      rw [List.map_set]
      unfold RPort.abs
      rw [List.map_append]
      rfl
    · exact g.p1
  refine BIf.eq (fun k6 => ?_) (fun k6 => ?_)
  · -- a message received
    obtain ⟨k0, c1, c2, c3, c4, c5⟩ := hcap (by omega)
    have hcm : c ∈ r.abs.Caps := List.mem_of_getElem? (l := r.abs.Caps) c2
    have hri := hi.rights hcm
    have hst : stepI r.abs o = recvI r.abs o c := by rw [step_c hbad (by omega) c3 c5, cap_6 k6]
    refine ⟨_, h.cell 0 rfl rfl, (c58 (h.cell 3 rfl rfl) hat).mono ?_⟩
    rintro _ w278 ⟨rfl, rfl⟩
    refine ⟨_, rfl, _, h.cell 0 rfl rfl, ?_⟩
    dsimp only; rw [am2 hri.1 hri.2]
    refine BIf.of (fun hx => errT h (i := 1) rfl (fun w' h => srE (by rw [hst]; unfold recvI; rw [if_pos (by simpa using hx)]) h.drop.drop.drop)) (fun hx => ?_)
    have ha2 : ¬ amongB 2 c.Rights = false := by simpa using hx
    rcases portIx_cases r.abs c.Port with ⟨e1, e2, e3⟩ | ⟨kp, P, e1, e2, e3, e4⟩
    · have := (hi.cap k0 c c2).port
      omega
    obtain ⟨x, hx, rfl⟩ := map_get e2
    have hx : r.Ports[kp]? = some x := hx
    have hlk : kp < r.Ports.length := (List.getElem?_eq_some_iff.1 hx).1
    have hq8 : x.Q.length ≤ 8 := by have := (hi.port kp x.abs e2).few; have e : x.abs.Queue.length = x.Q.length := List.length_map ..; omega
    obtain ⟨q, hq⟩ := h.rowQ 4 rfl hx
    rw [e1, ptrE_at hq]
    refine ⟨_, rfl, x.q, h.rdR 4 rfl hq hx rfl, ?_⟩
    have g : SH w0 w278 (rM x.q x.Q :: bM x.Q :: bP (r.Ports.eraseIdx kp) :: BC cb c :: BR rb 0 0 N0 0 :: BO wb o td :: BI b r.Next tp tc tq :: rP tp r.Ports :: rC tc r.Caps :: rQ tq r.Pipes :: bQ r.Pipes :: F) := SH.allOut (As := [rM x.q x.Q, bM x.Q]) ((((((((h.fro 4 rfl).fro 4 rfl).fro 4 rfl).fro 4 rfl).fro 4 rfl).fro 5 rfl)).bagOut hx)
    have hql := g.len 0 rfl
    have hqc := g.lenCap 0 rfl
    rw [recs_len] at hql
    have hqa : x.abs.Queue = x.Q.map RMsg.abs := rfl
    refine BIf.eq (fun h0 => errT h (i := 1) rfl (fun w' h => srE (by
      have : x.Q = [] := List.eq_nil_of_length_eq_zero (by omega)
      rw [hst]; unfold recvI; rw [if_neg ha2, e3]; dsimp only; rw [hqa, this]; rfl) h.drop.drop.drop)) (fun h0 => ?_)
    clear h
    obtain ⟨m, rest, hQ⟩ : ∃ m rest, x.Q = m :: rest := by
      cases hxq : x.Q with
      | nil => rw [hxq] at hql; simp at hql; omega
      | cons m rest => exact ⟨m, rest, rfl⟩
    have hm0 : x.Q[0]? = some m := by rw [hQ]; rfl
    have hmok := (hi.port kp x.abs e2).msgs m.abs (List.mem_map.2 ⟨m, by rw [hQ]; simp, rfl⟩)
    have hmcap : 0 ≤ m.Cap := hmok.2.2.2.1
    have hmby := hw.msgs x.abs (List.mem_of_getElem? e2) m.abs (List.mem_map.2 ⟨m, by rw [hQ]; simp, rfl⟩)
    have hmbl : m.Data.length ≤ 1048576 := hmby.few
    obtain ⟨qm, hqm⟩ := g.rowQ 0 rfl hm0
    refine ⟨_, rfl, x.q, g.rdR 7 rfl hq hx rfl, by omega, by omega, qm, hqm, _, g.rdR 0 rfl hqm hm0 rfl, m.D, g.rdR 0 rfl hqm hm0 rfl, _, g.rdR 0 rfl hqm hm0 rfl, ?_⟩
    refine g.alloc (fun w311 g e311 n311 => ?_)
    refine g.put 0 rfl rfl rfl (fun w312 g n312 => ?_)
    have g : SH w0 w312 (aB w278.heap.size (m.cells.map Ce.v) :: rM x.q x.Q :: bM x.Q :: bP (r.Ports.eraseIdx kp) :: BC cb c :: BR rb 0 0 N0 0 :: BO wb o td :: BI b r.Next tp tc tq :: rP tp r.Ports :: rC tc r.Caps :: rQ tq r.Pipes :: bQ r.Pipes :: F) := g
    refine ⟨_, rfl, x.q, g.rdR 8 rfl hq hx rfl, by omega, by omega, ?_⟩
    have hsuf := RowAt.suf (f := RMsg.cells) (z := 3) (i := 1) (fun _ => rfl) (g.rowR 1 rfl) hql hqc (by omega)
    refine SH.appendR (f := RMsg.cells) (l := []) (us := x.Q.drop 1) (g.nil none 3) hsuf (by simp; omega) (fun _ => rfl) rfl rfl (by decide) (by show (_ + _) * 40 ≤ _; simp; omega) plain_msg (fun q2 w316 g hq2l _ => ?_)
    refine ⟨_, rfl, ?_⟩
    have hdr : x.Q.drop 1 = rest := by rw [hQ]; rfl
    have g : SH w0 w316 (rM q2 rest :: aB w278.heap.size (m.cells.map Ce.v) :: rM x.q x.Q :: bM x.Q :: bP (r.Ports.eraseIdx kp) :: BC cb c :: BR rb 0 0 N0 0 :: BO wb o td :: BI b r.Next tp tc tq :: rP tp (r.Ports.set kp x) :: rC tc r.Caps :: rQ tq r.Pipes :: bQ r.Pipes :: F) := by rw [← set_at hx, ← hdr]; exact g
    refine g.setR 9 (⟨x.Id, q2, rest⟩ : RPort) rfl hq hlk (by show 1 < 2; omega) rfl (fun w318 g n318 => ?_)
    have g : SH w0 w318 (rM q2 rest :: aB w278.heap.size (m.cells.map Ce.v) :: rM x.q x.Q :: bM x.Q :: bP (r.Ports.eraseIdx kp) :: BC cb c :: BR rb 0 0 N0 0 :: BO wb o td :: BI b r.Next tp tc tq :: rP tp (r.Ports.set kp ⟨x.Id, q2, rest⟩) :: rC tc r.Caps :: rQ tq r.Pipes :: bQ r.Pipes :: F) := g
    rw [hQ] at g
    have g := SH.bagUn ((((g.dropAt 2).fro 1 rfl).fro 1 rfl).fro 2 rfl)
    have g : SH w0 w318 (rD m.D m.Data :: bM rest :: rM q2 rest :: aB w278.heap.size (m.cells.map Ce.v) :: bP (r.Ports.eraseIdx kp) :: BC cb c :: BR rb 0 0 N0 0 :: BO wb o td :: BI b r.Next tp tc tq :: rP tp (r.Ports.set kp ⟨x.Id, q2, rest⟩) :: rC tc r.Caps :: rQ tq r.Pipes :: bQ r.Pipes :: F) := g
    have g := g.drew
    refine ⟨m.D, g.cell 3 rfl rfl, _, g.cell 3 rfl rfl, ?_⟩
    have hmr := g.rowN 0 rfl
    refine SH.appendN (k := .u8) (m := []) (us := m.Data) (g.nil none 1) hmr rfl rfl (by decide) (by show (_ + _) * 1 ≤ _; simp; omega) (fun t321 w322 g ht321 _ => ?_)
    refine ⟨⟨_, g.cell 4 rfl rfl, rfl⟩, ?_⟩
    refine g.setV 7 rfl rfl (fun w324 g n324 => ?_)
    refine ⟨⟨_, g.cell 4 rfl rfl, rfl⟩, ?_⟩
    refine g.setV 7 rfl rfl (fun w326 g n326 => ?_)
    have g : SH w0 w326 (rD t321 m.Data :: rD m.D m.Data :: bM rest :: rM q2 rest :: aB w278.heap.size (m.cells.map Ce.v) :: bP (r.Ports.eraseIdx kp) :: BC cb c :: BR rb 0 0 t321 m.From :: BO wb o td :: BI b r.Next tp tc tq :: rP tp (r.Ports.set kp ⟨x.Id, q2, rest⟩) :: rC tc r.Caps :: rQ tq r.Pipes :: bQ r.Pipes :: F) := g
    refine ⟨_, g.cell 4 rfl rfl, ?_⟩
    refine (c59 (d := ⟨0, [], r.Caps, []⟩) (g.cell 9 rfl rfl) (caps_only g 11 rfl (by omega))).mono ?_
    rintro _ w329 ⟨rfl, rfl⟩
    have hcx : capIx ⟨0, [], r.Caps, []⟩ m.Cap = capIx r.abs m.Cap := rfl
    rw [hcx]
    refine ⟨_, rfl, _, g.cell 4 rfl rfl, ?_⟩
    have g := SH.bagIn (f := portA) (y := (⟨x.Id, q2, rest⟩ : RPort)) hx (SH.allIn (As := [rM q2 rest, bM rest]) (((((((g.dropAt 6).dropAt 1).fro 3 rfl).fro 1 rfl).fro 4 rfl).fro 3 rfl).fro 4 rfl))
    have g : SH w0 w329 (bP (r.Ports.set kp ⟨x.Id, q2, rest⟩) :: rD t321 m.Data :: aB w278.heap.size (m.cells.map Ce.v) :: BR rb 0 0 t321 m.From :: BO wb o td :: BI b r.Next tp tc tq :: rP tp (r.Ports.set kp ⟨x.Id, q2, rest⟩) :: rC tc r.Caps :: rQ tq r.Pipes :: bQ r.Pipes :: F) := g
    have habs : (⟨r.Next, r.Ports.set kp ⟨x.Id, q2, rest⟩, r.Caps, r.Pipes⟩ : RIpc).abs = setQ r.abs kp x.abs (rest.map RMsg.abs) := by
      unfold RIpc.abs setQ
      rw [List.map_set]
      rfl
    have hrv : ∀ (res : IRes), (match capOf r.abs m.abs.Cap with
        | none => (setQ r.abs kp x.abs (rest.map RMsg.abs), (⟨0, 0, m.abs.Data, m.abs.From⟩ : DIpcRes))
        | some x2 => if 0 < m.abs.Cap ∧ r.abs.Caps.length < 128 then (addCap (setQ r.abs kp x.abs (rest.map RMsg.abs)) o.Holder x2.Port x2.Rights m.abs.Cap, ⟨0, r.abs.Next + 1, m.abs.Data, m.abs.From⟩) else (setQ r.abs kp x.abs (rest.map RMsg.abs), ⟨0, 0, m.abs.Data, m.abs.From⟩)) = res → stepI r.abs o = res := fun res he => by
      rw [← he, hst]; unfold recvI; rw [if_neg ha2, e3]; dsimp only; rw [hqa, hQ, e1, Int.toNat_natCast]; rfl
    refine JoinW.cut1 (fun (y : Bool) w' => y = (decide (m.Cap ≠ 0) && decide (0 ≤ capIx r.abs m.Cap)) ∧ w' = w329) (BIf.ne (fun hz => ⟨?_, rfl⟩) (fun hz => ⟨by simp [hz], rfl⟩)) ?_
    · rw [ptrE_none (fun hpos => by
        rcases capIx_cases r.abs m.Cap with ⟨e, _⟩ | ⟨k2, c', e, e', _⟩
        · omega
        · obtain ⟨q', hq'⟩ := g.rowQ 7 rfl (show r.Caps[k2]? = some c' from e')
          rw [hq']; exact fun hh => by cases hh)]
      rw [Bool.eq_iff_iff]; simp [hz]
    rintro (y : Bool) w334 ⟨rfl, rfl⟩
    refine JoinW.cut1 (fun (y : Bool) w' => y = (decide (m.Cap ≠ 0) && decide (0 ≤ capIx r.abs m.Cap) && decide (r.Caps.length < 128)) ∧ w' = w334) (BIf.of (fun hy => ⟨_, rfl, tc, g.cellP 5 rfl rfl, by rw [hy, Bool.true_and, Bool.eq_iff_iff]; simp; omega, rfl⟩) (fun hy => ⟨by rw [hy]; rfl, rfl⟩)) ?_
    rintro (y : Bool) w337 ⟨rfl, rfl⟩
    rcases capIx_cases r.abs m.Cap with ⟨f1, f2, f3⟩ | ⟨k2, c', f1, f2, f3, f4⟩
    · refine BIf.f (by rw [f1]; simp) ?_
      rw [hrv (setQ r.abs kp x.abs (rest.map RMsg.abs), ⟨0, 0, m.Data, m.From⟩) (by have : capOf r.abs m.abs.Cap = none := f2; rw [this]; rfl)]
      refine ⟨tp, tc, tq, t321, ⟨r.Next, r.Ports.set kp ⟨x.Id, q2, rest⟩, r.Caps, r.Pipes⟩, habs, ?_⟩
      exact (((((((g.dropAt 4).dropAt 2).fro 0 rfl).fro 4 rfl).fro 4 rfl).fro 3 rfl).fro 4 rfl)
    · have f2 : r.Caps[k2]? = some c' := f2
      obtain ⟨q', hq'⟩ := g.rowQ 7 rfl f2
      rw [f1, ptrE_at hq']
      by_cases hgo : m.Cap ≠ 0 ∧ r.Caps.length < 128
      · refine BIf.t (by simp [hgo.1, hgo.2]) ?_
        rw [hrv (addCap (setQ r.abs kp x.abs (rest.map RMsg.abs)) o.Holder c'.Port c'.Rights m.Cap, ⟨0, r.Next + 1, m.Data, m.From⟩) (by
          have : capOf r.abs m.abs.Cap = some c' := f3
          rw [this]; exact if_pos ⟨by show 0 < m.Cap; have := hgo.1; omega, hgo.2⟩)]
        have g := g.drew
        refine ⟨_, g.cell 4 rfl rfl, _, rfl, _, g.rdR 7 rfl hq' f2 rfl, _, rfl, _, g.rdR 7 rfl hq' f2 rfl, _, rfl, _, g.rdR 7 rfl hq' f2 rfl, ?_⟩
        refine (s106 (c := ⟨0, o.Holder, c'.Port, c'.Rights, c'.Id⟩) ((((((((g.dropAt 4).dropAt 2).fro 4 rfl).fro 3 rfl).fro 3 rfl).fro 3 rfl).fro 5 rfl).fro 5 rfl) hnx.1 (by omega) (by omega)).mono ?_
        rintro _ w346 ⟨tc2, rfl, g⟩
        refine ⟨_, rfl, ?_⟩
        refine g.setV 4 rfl rfl (fun w348 g n348 => ?_)
        refine ⟨tp, tc2, tq, t321, ⟨r.Next + 1, r.Ports.set kp ⟨x.Id, q2, rest⟩, r.Caps ++ [⟨r.Next + 1, o.Holder, c'.Port, c'.Rights, m.Cap⟩], r.Pipes⟩, ?_, ?_⟩
        · unfold addCap
          rw [← habs]
          rfl
        · have e : c'.Id = m.Cap := f4
          rw [e] at g
          exact ((((((g.fro 1 rfl).fro 2 rfl).fro 5 rfl).fro 3 rfl).fro 4 rfl).fro 5 rfl)
      · refine BIf.f (by rcases Decidable.not_and_iff_or_not.1 hgo with hh | hh <;> simp [hh]) ?_
        rw [hrv (setQ r.abs kp x.abs (rest.map RMsg.abs), ⟨0, 0, m.Data, m.From⟩) (by
          have : capOf r.abs m.abs.Cap = some c' := f3
          rw [this]; exact if_neg (fun hh => hgo ⟨by have h1 : 0 < m.Cap := hh.1; omega, hh.2⟩))]
        refine ⟨tp, tc, tq, t321, ⟨r.Next, r.Ports.set kp ⟨x.Id, q2, rest⟩, r.Caps, r.Pipes⟩, habs, ?_⟩
        exact (((((((g.dropAt 4).dropAt 2).fro 0 rfl).fro 4 rfl).fro 4 rfl).fro 3 rfl).fro 4 rfl)
  refine BIf.eq (fun k7 => ?_) (fun k7 => ?_)
  · -- a holder gone
    have hst : stepI r.abs o = goneI r.abs o := step_7 hbad k7
    refine ⟨_, rfl, tc, h.cellP 3 rfl rfl, ?_⟩
    refine LoopW.m2 (fun (t : Sl) (i : Int) w' => ∃ k : Nat, i = k ∧ k ≤ r.Caps.length ∧ SH w0 w' (aRow t 1 (nums .i64 (((r.Caps.take k).filter (fun x => x.Holder == o.Holder)).map DCap.Id)) :: BC cb c :: BR rb 0 0 N0 0 :: BO wb o td :: BI b r.Next tp tc tq :: rP tp r.Ports :: bP r.Ports :: rC tc r.Caps :: rQ tq r.Pipes :: bQ r.Pipes :: F)) (fun _ (i : Int) _ => (r.Caps.length - i).toNat) ⟨0, rfl, by omega, h.nil none 1⟩ ?_
    clear h
    rintro (t : Sl) (i : Int) w356 ⟨k, rfl, hk, h⟩ J hJ
    have hkl : (((r.Caps.take k).filter (fun x => x.Holder == o.Holder)).map DCap.Id).length ≤ k := by
      rw [List.length_map]
      have := List.length_filter_le (fun x : DCap => x.Holder == o.Holder) (r.Caps.take k); simp at this; omega
    refine BIf.dec (fun hlt => ?_) (fun hge => ?_)
    · have hget : r.Caps[k]? = some r.Caps[k] := List.getElem?_eq_getElem (by omega)
      generalize r.Caps[k] = y at *
      have hsn := filter_snoc' (p := fun x : DCap => x.Holder == o.Holder) hget
      obtain ⟨q, hq⟩ := h.rowQ 7 rfl hget
      simp only [Int.toNat_natCast]
      rw [w64 (n := (k : Int) + 1) (by omega) (by omega)]
      refine ⟨by omega, by omega, q, hq, _, h.rdR 7 rfl hq hget rfl, _, h.rdR 7 rfl hq hget rfl, _, h.rdR 7 rfl hq hget rfl, _, h.rdR 7 rfl hq hget rfl, _, h.rdR 7 rfl hq hget rfl, ?_⟩
      refine h.alloc (fun w363 h e363 n363 => ?_)
      refine h.put 0 rfl rfl rfl (fun w364 h n364 => ?_)
      refine ⟨_, h.cell 0 rfl rfl, _, h.cell 4 rfl rfl, BIf.of (fun he => ?_) (fun he => ?_)⟩
      · rw [if_pos he] at hsn
        refine ⟨_, h.cell 0 rfl rfl, ?_⟩
        refine LetW_iff.2 (SH.appendN1 h.drop rfl rfl (by decide) (by show (_ + _) * 8 ≤ _; omega) (fun t2 w370 h ht2 _ => ?_))
        refine hJ _ _ _ ⟨k + 1, by omega, by omega, ?_⟩ (by omega)
        rw [hsn, List.map_append]
        exact h
      · rw [if_neg (by rw [he]; decide), List.append_nil] at hsn
        exact hJ _ _ _ ⟨k + 1, by omega, by omega, by rw [hsn]; exact h.drop⟩ (by omega)
    have hke : k = r.Caps.length := by omega
    rw [hke, List.take_length] at h hkl
    clear hJ
    obtain ⟨hnd, hex⟩ := ids_nd hi o.Holder
    have hids : (r.Caps.filter (fun x => x.Holder == o.Holder)).map DCap.Id = idsOf r.abs o.Holder := rfl
    rw [hids] at h hkl
    have hgone : goneI r.abs o = (cleanF ((idsOf r.abs o.Holder).foldl dropF r.abs), resN ((idsOf r.abs o.Holder).length : Int)) := rfl
    generalize idsOf r.abs o.Holder = ids at *
    have htl := h.len 0 rfl
    rw [nums_len] at htl
    refine LoopW.m1 (fun (i : Int) w' => ∃ (j : Nat) (tp' tc' : Sl), i = j ∧ j ≤ ids.length ∧ SH w0 w' (ST b tp' tc' tq ((ids.take j).foldl dropRo r) ++ (aRow t 1 (nums .i64 ids) :: BC cb c :: BR rb 0 0 N0 0 :: BO wb o td :: F))) (fun (i : Int) _ => (ids.length - i).toNat) ⟨0, tp, tc, rfl, by omega, ((((((((((h.fro 3 rfl).fro 3 rfl).fro 3 rfl).fro 3 rfl).fro 9 rfl).fro 9 rfl).fro 9 rfl).fro 9 rfl).fro 9 rfl).fro 9 rfl)⟩ ?_
    clear h
    rintro (i : Int) w373 ⟨j, tp', tc', rfl, hj, h⟩ J hJ
    have h : SH w0 w373 (BI b ((ids.take j).foldl dropRo r).Next tp' tc' tq :: rP tp' ((ids.take j).foldl dropRo r).Ports :: bP ((ids.take j).foldl dropRo r).Ports :: rC tc' ((ids.take j).foldl dropRo r).Caps :: rQ tq ((ids.take j).foldl dropRo r).Pipes :: bQ ((ids.take j).foldl dropRo r).Pipes :: aRow t 1 (nums .i64 ids) :: BC cb c :: BR rb 0 0 N0 0 :: BO wb o td :: F) := h
    refine BIf.dec (fun hlt => ?_) (fun hge => ?_)
    · have hget : ids[j]? = some ids[j] := List.getElem?_eq_getElem (by omega)
      generalize ids[j] = id at *
      obtain ⟨q, hq, hcell⟩ := h.elem0 6 rfl (nums_get hget) rfl
      simp only [Int.toNat_natCast]
      rw [w64 (n := (j : Int) + 1) (by omega) (by omega)]
      refine ⟨by omega, by omega, q, hq, _, hcell, ?_⟩
      have hwj := fold_wf (ids.take j) hw
      have hnot : id ∉ ids.take j := fun hm => by
        obtain ⟨j2, hj2⟩ := List.getElem?_of_mem hm
        rw [List.getElem?_take] at hj2
        split at hj2
        · have := nd_get hnd hj2 hget; omega
        · cases hj2
      obtain ⟨c', hc', hid⟩ := fold_keeps (ids.take j) hnot (hex id (List.mem_of_getElem? hget))
      have hfs := foldl_snoc (f := dropRo) (z := r) hget
      generalize (ids.take j).foldl dropRo r = rj at *
      subst hid
      obtain ⟨k2, c2', g1, g2, g3⟩ := capOf_mem (d := rj.abs) hc'
      refine (s109 (F := aRow t 1 (nums .i64 ids) :: BC cb c :: BR rb 0 0 N0 0 :: BO wb o td :: F) (r := rj) h hwj g1 g2).mono ?_
      rintro _ w377 ⟨tp2, tc2, rfl, h⟩
      refine ⟨rfl, hJ _ _ ⟨j + 1, tp2, tc2, by omega, by omega, ?_⟩ (by omega)⟩
      rw [hfs]
      unfold dropRo
      rw [g3]
      exact h
    · have hje : j = ids.length := by omega
      rw [hje, List.take_length] at h
      refine h.setV 8 rfl rfl (fun w378 h n378 => ?_)
      rw [hst, hgone]
      have h := (((((((((((h.dropAt 9).dropAt 7).dropAt 6).fro 5 rfl).fro 5 rfl).fro 5 rfl).fro 5 rfl).fro 5 rfl).fro 5 rfl).fro 6 rfl)).nil none 1
      refine ⟨tp', tc', tq, N0, ids.foldl dropRo r, gone_abs ids (clean_self hi).symm (fun _ _ => trivial), ?_⟩
      rw [htl] at h
      exact h.p1
  refine BIf.eq (fun k8 => ?_) (fun k8 => ?_)
  · -- a new pipe
    have hst : stepI r.abs o = newPipe r.abs := step_8 hbad k8
    refine ⟨_, rfl, tq, h.cellP 3 rfl rfl, BIf.eq (fun hfull => errT h (i := 1) rfl (fun w' h => srE (by rw [hst]; unfold newPipe; rw [if_pos (by rw [abs_pipes]; omega)]) h.drop.drop.drop)) (fun hfull => ?_)⟩
    have hres : stepI r.abs o = (⟨r.Next + 1, r.abs.Ports, r.Caps, r.abs.Pipes ++ [⟨r.Next + 1, 1, 1, []⟩]⟩, resN (r.Next + 1)) := by rw [hst]; unfold newPipe; rw [if_neg (by rw [abs_pipes]; omega)]; rfl
    rw [hres]
    refine (s105 ((((h.fro 2 rfl).fro 2 rfl).fro 2 rfl).fro 3 rfl) hnx.1 (by omega)).mono ?_
    rintro _ w393 ⟨rfl, h⟩
    refine ⟨_, rfl, ?_⟩
    refine h.setV 2 rfl rfl (fun w395 h n395 => ?_)
    have h := h.drew
    refine ⟨_, rfl, tq, h.cellP 0 rfl rfl, _, h.cell 2 rfl rfl, ?_⟩
    refine h.alloc (fun w399 h e399 n399 => ?_)
    have hrow : RowAt w399 (some ⟨w395.drew.heap.size, 0, none⟩) (1 * 4) ([(⟨r.Next + 1, 1, 1, N0, []⟩ : RPipe)].flatMap RPipe.cells) := row_one (h.blkAt 0 rfl) rfl
    refine ⟨⟨tq, h.cellP 1 rfl rfl, rfl⟩, ?_⟩
    refine SH.appendR (f := RPipe.cells) (us := [⟨r.Next + 1, 1, 1, N0, []⟩]) (((((((((h.dropAt 0).fro 6 rfl).fro 6 rfl).fro 6 rfl).fro 6 rfl).fro 6 rfl).fro 6 rfl).fro 6 rfl).fro 7 rfl) hrow rfl (fun _ => rfl) rfl rfl (by decide) (by show (_ + _) * 48 ≤ _; simp; omega) plain_pipe (fun tq2 w402 h htq2 _ => ?_)
    refine ⟨_, rfl, ?_⟩
    refine h.setVP 1 rfl rfl (fun w404 h n404 => ?_)
    have h := SH.bagSnoc (f := pipeA) (x := (⟨r.Next + 1, 1, 1, N0, []⟩ : RPipe)) (((((((((((h.dropAt 4).dropAt 2).fro 0 rfl).fro 5 rfl).fro 5 rfl).fro 5 rfl).fro 4 rfl).fro 5 rfl).fro 6 rfl)).nil none 1)
    have h := ((((((((h.fro 0 rfl).fro 6 rfl).fro 6 rfl).fro 6 rfl).fro 6 rfl).fro 6 rfl).fro 6 rfl)).nil none 1
    refine ⟨tp, tc, tq2, N0, ⟨r.Next + 1, r.Ports, r.Caps, r.Pipes ++ [⟨r.Next + 1, 1, 1, N0, []⟩]⟩, ?_, ?_⟩
    · unfold RIpc.abs
      rw [List.map_append]
      rfl
    · exact h.p1
  obtain ⟨kp, p0, q, e1, hx, e3, hq, rfl⟩ := hpipe (by omega)
  have hlk : kp < r.Pipes.length := (List.getElem?_eq_some_iff.1 hx).1
  have hax : r.abs.Pipes[kp]? = some p0.abs := by show (r.Pipes.map RPipe.abs)[kp]? = _; rw [List.getElem?_map, hx]; rfl
  have hpo := hi.pipe kp p0.abs hax
  have hpr : 0 ≤ p0.R ∧ p0.R ≤ 64 := hpo.r
  have hpw : 0 ≤ p0.W ∧ p0.W ≤ 64 := hpo.w
  have hpd : p0.Data.length ≤ 512 := hpo.few
  have hid : p0.Id = o.Id := by
    rcases pipeIx_cases r.abs o.Id with ⟨_, f2, _⟩ | ⟨k2, P, f1, f2, f3, f4⟩
    · rw [f2] at e3; cases e3
    · rw [f3] at e3
      have := Option.some.inj e3
      rw [← f4, this]; rfl
  have hst : stepI r.abs o = pipeI r.abs o kp p0.abs := by rw [step_p hbad (by omega) e3, e1, Int.toNat_natCast]
  refine BIf.eq (fun k9 => ?_) (fun k9 => ?_)
  · -- ends
    have hst : stepI r.abs o = endsI r.abs o kp p0.abs := by rw [hst]; exact if_pos k9
    refine JoinW.cut1 (fun (x : Bool) w' => x = decide (o.To < -p0.R ∨ 64 - p0.R < o.To ∨ o.N < -p0.W ∨ 64 - p0.W < o.N) ∧ w' = w29.drew) ?_ ?_
    · have h := h.drew
      refine ⟨_, rfl, _, h.rdR 7 rfl hq hx rfl, _, h.cell 2 rfl rfl, (c110 hpr.1 hpr.2).mono ?_⟩
      rintro _ w461 ⟨rfl, rfl⟩
      refine ⟨_, rfl, BIf.dec (fun hb1 => ⟨(decide_eq_true (by omega)).symm, rfl⟩) (fun hb1 => ?_)⟩
      refine ⟨_, rfl, _, h.rdR 7 rfl hq hx rfl, _, h.cell 2 rfl rfl, (c110 hpw.1 hpw.2).mono ?_⟩
      rintro _ w467 ⟨rfl, rfl⟩
      exact ⟨_, rfl, by rw [Bool.eq_iff_iff, decide_eq_true_iff, decide_eq_true_iff]; omega, rfl⟩
    rintro (x : Bool) w407 ⟨rfl, rfl⟩
    have h := h.drew
    refine BIf.dec (fun hbd => errT h (i := 1) rfl (fun w' h => srE (by rw [hst]; unfold endsI; exact if_pos hbd) h.drop.drop.drop)) (fun hbd => ?_)
    have h := h.drew
    refine ⟨_, rfl, _, h.rdR 7 rfl hq hx rfl, _, h.cell 2 rfl rfl, _, rfl, ?_⟩
    rw [w64 (n := p0.R + o.To) (by omega) (by omega)]
    rw [set_at hx] at h
    refine h.setR 7 (⟨p0.Id, p0.R + o.To, p0.W, p0.D, p0.Data⟩ : RPipe) rfl hq hlk (by show 1 < 4; omega) rfl (fun w423 h n423 => ?_)
    have h := h.drew
    have hx2 : (r.Pipes.set kp ⟨p0.Id, p0.R + o.To, p0.W, p0.D, p0.Data⟩)[kp]? = some ⟨p0.Id, p0.R + o.To, p0.W, p0.D, p0.Data⟩ := List.getElem?_set_self hlk
    refine ⟨_, rfl, _, h.rdR 7 rfl hq hx2 rfl, _, h.cell 2 rfl rfl, _, rfl, ?_⟩
    show May _ _ ∧ LetW (w423.drew.setCell _ (.int .i64 (IntKind.i64.wrap (p0.W + o.N)))) _
    rw [w64 (n := p0.W + o.N) (by omega) (by omega)]
    refine h.setR 7 (⟨p0.Id, p0.R + o.To, p0.W + o.N, p0.D, p0.Data⟩ : RPipe) rfl hq hlk (by show 2 < 4; omega) rfl (fun w428 h n428 => ?_)
    have h := h.drew
    have hx3 : (r.Pipes.set kp ⟨p0.Id, p0.R + o.To, p0.W + o.N, p0.D, p0.Data⟩)[kp]? = some ⟨p0.Id, p0.R + o.To, p0.W + o.N, p0.D, p0.Data⟩ := List.getElem?_set_self hlk
    have h : SH w0 w428.drew (BC cb c :: BR rb 0 0 N0 0 :: BO wb o td :: BI b r.Next tp tc tq :: rP tp r.Ports :: bP r.Ports :: rC tc r.Caps :: rQ tq (r.Pipes.set kp ⟨p0.Id, p0.R + o.To, p0.W + o.N, p0.D, p0.Data⟩) :: bQ (r.Pipes.set kp p0) :: F) := h
    rw [← set_at hx] at h
    refine ⟨_, rfl, _, h.rdR 7 rfl hq hx3 rfl, _, rfl, _, h.rdR 7 rfl hq hx3 rfl, ?_⟩
    show BIf (IntKind.i64.wrap (p0.R + o.To + (p0.W + o.N)) == 0) _ _
    rw [w64 (n := p0.R + o.To + (p0.W + o.N)) (by omega) (by omega)]
    refine BIf.eq (fun hz => ?_) (fun hz => ?_)
    · have hres : stepI r.abs o = (⟨r.Next, r.abs.Ports, r.Caps, r.abs.Pipes.eraseIdx kp⟩, resN 0) := by rw [hst]; unfold endsI; exact (if_neg hbd).trans (if_pos hz)
      rw [hres]
      have hfo : (r.Pipes.set kp (⟨p0.Id, p0.R + o.To, p0.W + o.N, p0.D, p0.Data⟩ : RPipe)).filter (fun x => x.Id != o.Id) = r.Pipes.eraseIdx kp := by
        rw [← hid]
        exact filter_out (p2 := ⟨p0.Id, p0.R + o.To, p0.W + o.N, p0.D, p0.Data⟩) hx rfl (fun j y hy he => (pipe_uniq hi (a := y.abs) (b := p0.abs) (by show (r.Pipes.map RPipe.abs)[j]? = _; rw [List.getElem?_map, hy]; rfl) hax he))
      have hpl2 : (r.Pipes.set kp (⟨p0.Id, p0.R + o.To, p0.W + o.N, p0.D, p0.Data⟩ : RPipe)).length = r.Pipes.length := List.length_set ..
      generalize r.Pipes.set kp (⟨p0.Id, p0.R + o.To, p0.W + o.N, p0.D, p0.Data⟩ : RPipe) = ps2 at *
      refine ⟨_, rfl, tq, h.cellP 3 rfl rfl, ?_⟩
      refine LoopW.m2 (fun (t : Sl) (i : Int) w' => ∃ k : Nat, i = k ∧ k ≤ ps2.length ∧ SH w0 w' (rQ t ((ps2.take k).filter (fun x => x.Id != o.Id)) :: BC cb c :: BR rb 0 0 N0 0 :: BO wb o td :: BI b r.Next tp tc tq :: rP tp r.Ports :: bP r.Ports :: rC tc r.Caps :: rQ tq ps2 :: bQ r.Pipes :: F)) (fun _ (i : Int) _ => (ps2.length - i).toNat) ⟨0, rfl, by omega, h.nil none 4⟩ ?_
      clear h
      rintro (t : Sl) (i : Int) w438 ⟨k, rfl, hk, h⟩ J hJ
      have hkl : ((ps2.take k).filter (fun x => x.Id != o.Id)).length ≤ k := by have := List.length_filter_le (fun x : RPipe => x.Id != o.Id) (ps2.take k); simp at this; omega
      refine BIf.dec (fun hlt => ?_) (fun hge => ?_)
      · have hget : ps2[k]? = some ps2[k] := List.getElem?_eq_getElem (by omega)
        generalize ps2[k] = y at *
        have hsn := filter_snoc' (p := fun x : RPipe => x.Id != o.Id) hget
        obtain ⟨q2, hq2⟩ := h.rowQ 8 rfl hget
        simp only [Int.toNat_natCast]
        rw [w64 (n := (k : Int) + 1) (by omega) (by omega)]
        refine ⟨by omega, by omega, q2, hq2, _, h.rdR 8 rfl hq2 hget rfl, _, h.rdR 8 rfl hq2 hget rfl, _, h.rdR 8 rfl hq2 hget rfl, y.D, h.rdR 8 rfl hq2 hget rfl, ?_⟩
        refine h.alloc (fun w444 h e444 n444 => ?_)
        refine h.put 0 rfl rfl rfl (fun w445 h n445 => ?_)
        refine ⟨_, h.cell 0 rfl rfl, _, h.cell 4 rfl rfl, BIf.of (fun he => ?_) (fun he => ?_)⟩
        · rw [if_pos he] at hsn
          refine ⟨_, h.cell 0 rfl rfl, _, h.cell 0 rfl rfl, _, h.cell 0 rfl rfl, y.D, h.cell 0 rfl rfl, ?_⟩
          refine LetW_iff.2 (SH.appendR1 (f := RPipe.cells) (x := y) h.drop rfl rfl rfl (by decide) (by show (_ + _) * 48 ≤ _; omega) (plain_pipe _) (fun t2 w454 h ht2 _ => ?_))
          exact hJ _ _ _ ⟨k + 1, by omega, by omega, by rw [hsn]; exact h⟩ (by omega)
        · rw [if_neg (by rw [he]; decide), List.append_nil] at hsn
          exact hJ _ _ _ ⟨k + 1, by omega, by omega, by rw [hsn]; exact h.drop⟩ (by omega)
      · have hke : k = ps2.length := by omega
        rw [hke, List.take_length, hfo] at h
        refine ⟨_, rfl, ?_⟩
        refine h.setVP 4 rfl rfl (fun w456 h n456 => ?_)
        have h := SH.bagErase (i := kp) ((((((((((h.dropAt 8).dropAt 3).dropAt 1).fro 0 rfl).fro 5 rfl).fro 5 rfl).fro 5 rfl).fro 5 rfl).fro 5 rfl).fro 6 rfl)
        have h := ((((((((h.fro 0 rfl).fro 6 rfl).fro 6 rfl).fro 6 rfl).fro 6 rfl).fro 6 rfl).fro 6 rfl)).nil none 1
        refine ⟨tp, tc, t, N0, ⟨r.Next, r.Ports, r.Caps, r.Pipes.eraseIdx kp⟩, ?_, ?_⟩
        · unfold RIpc.abs
          dsimp only
          rw [map_erase]
        · exact h.p1
    · have hres : stepI r.abs o = (setP r.abs kp ⟨p0.Id, p0.R + o.To, p0.W + o.N, p0.Data⟩, resN 0) := by rw [hst]; unfold endsI; exact (if_neg hbd).trans (if_neg hz)
      rw [hres]
      have h1 := SH.bagOut (f := pipeA) (((((((((h.dropAt 2).dropAt 0).fro 5 rfl).fro 5 rfl).fro 5 rfl).fro 5 rfl).fro 5 rfl).fro 5 rfl).fro 6 rfl) hx
      have h1 : SH w0 w428.drew (pipeA ⟨p0.Id, p0.R + o.To, p0.W + o.N, p0.D, p0.Data⟩ :: aBag pipeA (r.Pipes.eraseIdx kp) :: _) := h1
      have h := SH.bagIn (f := pipeA) hx h1
      have h := ((((((((h.fro 0 rfl).fro 6 rfl).fro 6 rfl).fro 6 rfl).fro 6 rfl).fro 6 rfl).fro 6 rfl)).nil none 1
      refine ⟨tp, tc, tq, N0, ⟨r.Next, r.Ports, r.Caps, r.Pipes.set kp ⟨p0.Id, p0.R + o.To, p0.W + o.N, p0.D, p0.Data⟩⟩, ?_, ?_⟩
      · unfold RIpc.abs setP
        rw [List.map_set]
        rfl
      · exact h.p1
  have g : SH w0 w29 (rD p0.D p0.Data :: bQ (r.Pipes.eraseIdx kp) :: BC cb c :: BR rb 0 0 N0 0 :: BO wb o td :: BI b r.Next tp tc tq :: rP tp r.Ports :: bP r.Ports :: rC tc r.Caps :: rQ tq r.Pipes :: F) := SH.bagOut (f := pipeA) (((((((((h.fro 7 rfl).fro 7 rfl).fro 7 rfl).fro 7 rfl).fro 7 rfl).fro 7 rfl).fro 7 rfl).fro 7 rfl).fro 8 rfl) hx
  have hdl2 := g.len 0 rfl
  have hdc := g.lenCap 0 rfl
  rw [nums_len] at hdl2
  refine BIf.eq (fun k10 => ?_) (fun k10 => ?_)
  · -- bytes written
    have hst : stepI r.abs o = writeI r.abs o kp p0.abs := by rw [hst]; exact (if_neg k9).trans (if_pos k10)
    have h := h.drew
    have g := g.drew
    refine ⟨_, rfl, p0.D, h.rdR 7 rfl hq hx rfl, td, h.cell 2 rfl rfl, _, rfl, _, h.rdR 7 rfl hq hx rfl, ?_⟩
    refine BIf.eq (fun hr0 => errT h (i := 1) rfl (fun w' h => srE (by rw [hst]; unfold writeI; exact if_pos hr0) h.drop.drop.drop)) (fun hr0 => ?_)
    have hn : minI (IntKind.i64.wrap (512 - (p0.D.len : Int))) (td.len : Int) = ((wlen o p0.abs : Nat) : Int) := by
      have e : p0.abs.Data.length = p0.Data.length := rfl
      rw [w64 (by omega) (by omega)]
      unfold minI wlen
      split <;> omega
    have hnl : wlen o p0.abs ≤ o.Data.length ∧ wlen o p0.abs ≤ 512 := by unfold wlen; omega
    rw [hn]
    refine JoinW.cut1 (fun (x : Bool) w' => x = decide (wlen o p0.abs = 0 ∧ 0 < o.Data.length) ∧ w' = w29.drew) (BIf.eq (fun hz => ⟨td, h.cell 2 rfl rfl, by rw [Bool.eq_iff_iff, decide_eq_true_iff, decide_eq_true_iff]; omega, rfl⟩) (fun hz => ⟨(decide_eq_false (by omega)).symm, rfl⟩)) ?_
    rintro (x : Bool) w487 ⟨rfl, rfl⟩
    refine BIf.dec (fun hag => errT h (i := 1) rfl (fun w' h => srE (by rw [hst]; unfold writeI; exact (if_neg hr0).trans (if_pos hag)) h.drop.drop.drop)) (fun hag => ?_)
    have hres : stepI r.abs o = (setP r.abs kp ⟨p0.Id, p0.R, p0.W, p0.Data ++ o.Data.take (wlen o p0.abs)⟩, resN (wlen o p0.abs : Nat)) := by rw [hst]; unfold writeI; exact (if_neg hr0).trans (if_neg hag)
    rw [hres]
    clear h
    generalize wlen o p0.abs = n at *
    have g := g.drew
    have hcl := hb.cap
    refine ⟨_, rfl, p0.D, g.rdR 9 rfl hq hx rfl, td, g.cell 4 rfl rfl, by omega, by omega, ?_⟩
    have hpr2 := g.rowN 0 rfl
    simp only [Int.toNat_natCast]
    refine SH.appendN (k := .u8) (m := []) (us := p0.Data) (g.nil none 1) hpr2 rfl rfl (by decide) (by show (_ + _) * 1 ≤ _; simp; omega) (fun t502 w503 g ht502 _ => ?_)
    refine ⟨⟨td, g.cell 5 rfl rfl, rfl⟩, ?_⟩
    refine SH.appendN (k := .u8) (us := o.Data.take n) g (rowN_pre (hb.ext g.ext).row hnl.1) rfl rfl (by decide) (by show (_ + _) * 1 ≤ _; simp; omega) (fun t505 w506 g ht505 _ => ?_)
    refine ⟨_, rfl, ?_⟩
    have g : SH w0 w506 (rD t505 (p0.Data ++ o.Data.take n) :: rD p0.D p0.Data :: bQ (r.Pipes.eraseIdx kp) :: BC cb c :: BR rb 0 0 N0 0 :: BO wb o td :: BI b r.Next tp tc tq :: rP tp r.Ports :: bP r.Ports :: rC tc r.Caps :: rQ tq (r.Pipes.set kp p0) :: F) := by rw [← set_at hx]; exact g
    refine g.setR 10 (⟨p0.Id, p0.R, p0.W, t505, p0.Data ++ o.Data.take n⟩ : RPipe) rfl hq hlk (by show 3 < 4; omega) rfl (fun w508 g n508 => ?_)
    refine g.setV 4 rfl rfl (fun w509 g n509 => ?_)
    have g : SH w0 w509 (rD t505 (p0.Data ++ o.Data.take n) :: rD p0.D p0.Data :: bQ (r.Pipes.eraseIdx kp) :: BC cb c :: BR rb 0 (n : Nat) N0 0 :: BO wb o td :: BI b r.Next tp tc tq :: rP tp r.Ports :: bP r.Ports :: rC tc r.Caps :: rQ tq (r.Pipes.set kp ⟨p0.Id, p0.R, p0.W, t505, p0.Data ++ o.Data.take n⟩) :: F) := g
    have g := SH.bagIn (f := pipeA) (y := (⟨p0.Id, p0.R, p0.W, t505, p0.Data ++ o.Data.take n⟩ : RPipe)) hx (((g.dropAt 5).dropAt 3).dropAt 1)
    have g := ((((((((g.fro 0 rfl).fro 6 rfl).fro 6 rfl).fro 6 rfl).fro 6 rfl).fro 6 rfl).fro 6 rfl)).nil none 1
    refine ⟨tp, tc, tq, N0, ⟨r.Next, r.Ports, r.Caps, r.Pipes.set kp ⟨p0.Id, p0.R, p0.W, t505, p0.Data ++ o.Data.take n⟩⟩, ?_, ?_⟩
    · unfold RIpc.abs setP
      rw [List.map_set]
      rfl
    · exact g.p1
  have k11 : o.Kind = 11 := by omega
  refine BIf.t (by simp [k11]) ?_
  have hst : stepI r.abs o = readI r.abs o kp p0.abs := by rw [hst]; exact (if_neg k9).trans (if_neg k10)
  refine ⟨_, h.cell 2 rfl rfl, ?_⟩
  refine JoinW.cut1 (fun (x : Bool) w' => x = decide (o.N < 0 ∨ 1024 < o.N) ∧ w' = w29) (BIf.dec (fun hx => ⟨(decide_eq_true (.inl hx)).symm, rfl⟩) (fun hx => ⟨_, h.cell 2 rfl rfl, by rw [Bool.eq_iff_iff, decide_eq_true_iff, decide_eq_true_iff]; omega, rfl⟩)) ?_
  rintro (x : Bool) w514 ⟨rfl, rfl⟩
  refine BIf.dec (fun hbd => errT h (i := 1) rfl (fun w' h => srE (by rw [hst]; unfold readI; exact if_pos hbd) h.drop.drop.drop)) (fun hbd => ?_)
  refine ⟨_, rfl, p0.D, h.rdR 7 rfl hq hx rfl, ?_⟩
  have hdd : p0.abs.Data.length = p0.Data.length := rfl
  refine JoinW.cut1 (fun (x : Bool) w' => x = decide (p0.Data.length = 0 ∧ 0 < p0.W) ∧ w' = w514) (BIf.eq (fun hz => ⟨_, rfl, _, h.rdR 7 rfl hq hx rfl, by rw [Bool.eq_iff_iff, decide_eq_true_iff, decide_eq_true_iff]; omega, rfl⟩) (fun hz => ⟨(decide_eq_false (by omega)).symm, rfl⟩)) ?_
  rintro (x : Bool) w530 ⟨rfl, rfl⟩
  refine JoinW.cut1 (fun (x : Bool) w' => x = decide (p0.Data.length = 0 ∧ 0 < p0.W ∧ 0 < o.N) ∧ w' = w530) (BIf.dec (fun hz => ⟨_, h.cell 2 rfl rfl, by rw [Bool.eq_iff_iff, decide_eq_true_iff, decide_eq_true_iff]; omega, rfl⟩) (fun hz => ⟨(decide_eq_false (by omega)).symm, rfl⟩)) ?_
  rintro (x : Bool) w533 ⟨rfl, rfl⟩
  refine BIf.dec (fun hag => errT h (i := 1) rfl (fun w' h => srE (by rw [hst]; unfold readI; exact (if_neg hbd).trans (if_pos hag)) h.drop.drop.drop)) (fun hag => ?_)
  have hres : stepI r.abs o = (setP r.abs kp ⟨p0.Id, p0.R, p0.W, p0.Data.drop (rlen o p0.abs)⟩, ⟨0, 0, p0.Data.take (rlen o p0.abs), 0⟩) := by rw [hst]; unfold readI; exact (if_neg hbd).trans (if_neg hag)
  rw [hres]
  have hn : minI o.N (p0.D.len : Int) = ((rlen o p0.abs : Nat) : Int) := by
    unfold minI rlen
    split <;> omega
  have hnl : rlen o p0.abs ≤ p0.Data.length := by unfold rlen; omega
  clear h
  have g := g.drew
  refine ⟨_, g.cell 4 rfl rfl, _, rfl, p0.D, g.rdR 9 rfl hq hx rfl, _, rfl, p0.D, g.rdR 9 rfl hq hx rfl, ?_⟩
  rw [hn]
  generalize rlen o p0.abs = n at *
  refine ⟨by omega, by omega, ?_⟩
  simp only [Int.toNat_natCast]
  have hpr2 := g.rowN 0 rfl
  refine SH.appendN (k := .u8) (m := []) (us := p0.Data.take n) (g.nil none 1) (rowN_pre hpr2 hnl) rfl rfl (by decide) (by show (_ + _) * 1 ≤ _; simp; omega) (fun t550 w551 g ht550 _ => ?_)
  refine g.setV 4 rfl rfl (fun w552 g n552 => ?_)
  refine ⟨_, rfl, p0.D, g.rdR 10 rfl hq hx rfl, by omega, by omega, ?_⟩
  have hpr3 := g.rowN 1 rfl
  refine SH.appendN (k := .u8) (m := []) (us := p0.Data.drop n) (g.nil none 1) (rowN_suf hpr3 hdl2 hdc hnl) rfl rfl (by decide) (by show (_ + _) * 1 ≤ _; simp; omega) (fun t555 w556 g ht555 _ => ?_)
  refine ⟨_, rfl, ?_⟩
  have g : SH w0 w556 (rD t555 (p0.Data.drop n) :: rD t550 (p0.Data.take n) :: rD p0.D p0.Data :: bQ (r.Pipes.eraseIdx kp) :: BC cb c :: BR rb 0 0 t550 0 :: BO wb o td :: BI b r.Next tp tc tq :: rP tp r.Ports :: bP r.Ports :: rC tc r.Caps :: rQ tq (r.Pipes.set kp p0) :: F) := by rw [← set_at hx]; exact g
  refine g.setR 11 (⟨p0.Id, p0.R, p0.W, t555, p0.Data.drop n⟩ : RPipe) rfl hq hlk (by show 3 < 4; omega) rfl (fun w558 g n558 => ?_)
  have g : SH w0 w558 (rD t555 (p0.Data.drop n) :: rD t550 (p0.Data.take n) :: rD p0.D p0.Data :: bQ (r.Pipes.eraseIdx kp) :: BC cb c :: BR rb 0 0 t550 0 :: BO wb o td :: BI b r.Next tp tc tq :: rP tp r.Ports :: bP r.Ports :: rC tc r.Caps :: rQ tq (r.Pipes.set kp ⟨p0.Id, p0.R, p0.W, t555, p0.Data.drop n⟩) :: F) := g
  have g := SH.bagIn (f := pipeA) (y := (⟨p0.Id, p0.R, p0.W, t555, p0.Data.drop n⟩ : RPipe)) hx ((((((g.dropAt 6).dropAt 4).dropAt 2).fro 1 rfl).fro 2 rfl).fro 2 rfl)
  refine ⟨tp, tc, tq, t550, ⟨r.Next, r.Ports, r.Caps, r.Pipes.set kp ⟨p0.Id, p0.R, p0.W, t555, p0.Data.drop n⟩⟩, ?_, ?_⟩
  · unfold RIpc.abs setP
    rw [List.map_set]
    rfl
  · exact ((((((((g.fro 0 rfl).fro 7 rfl).fro 7 rfl).fro 7 rfl).fro 7 rfl).fro 7 rfl).fro 6 rfl).fro 7 rfl)
end Go.Proofs.Ytbimoajgofcmbaa

namespace Go.Proofs.Ytbimoajgofcmbaa
open Go Go.Den
theorem step_err (d : DIpc) (o : DIpcOp) : (stepI d o).2.Code = 0 ∨ stepI d o = (d, resE (stepI d o).2.Code) := by
  have e : ∀ c, (((d, resE c) : IRes).2.Code = 0 ∨ ((d, resE c) : IRes) = (d, resE ((d, resE c) : IRes).2.Code)) := fun c => .inr rfl
  have hpush : ∀ c, (pushI d o c).2.Code = 0 ∨ pushI d o c = (d, resE (pushI d o c).2.Code) := fun c => by
    unfold pushI; split
    · exact e _
    · split
      · exact e _
      · split
        · exact e _
        · exact .inl rfl
  unfold stepI
  split
  · exact e _
  split
  · unfold newPort; split
    · exact e _
    · exact .inl rfl
  split
  · exact .inl rfl
  split
  · unfold newPipe; split
    · exact e _
    · exact .inl rfl
  split
  · split
    · exact e _
    · unfold pipeI; split
      · unfold endsI; split
        · exact e _
        · split <;> exact .inl rfl
      · split
        · unfold writeI; split
          · exact e _
          · split
            · exact e _
            · exact .inl rfl
        · unfold readI; split
          · exact e _
          · split
            · exact e _
            · exact .inl rfl
  · split
    · exact e _
    · split
      · exact e _
      · unfold capI; split
        · unfold giveI; split
          · exact e _
          · split
            · exact e _
            · split
              · exact e _
              · exact .inl rfl
        · split
          · exact .inl rfl
          · split
            · exact .inl rfl
            · split
              · unfold sendI; split
                · exact e _
                · split
                  · exact e _
                  · split
                    · split
                      · exact e _
                      · split
                        · exact e _
                        · split
                          · exact e _
                          · exact hpush _
                    · exact hpush _
              · unfold recvI; split
                · exact e _
                · split
                  · exact e _
                  · split
                    · exact e _
                    · split
                      · exact .inl rfl
                      · split <;> exact .inl rfl
open Classical in
noncomputable def stepA (d : DIpc) (o : DIpcOp) : IRes := if IOk d then stepI d o else (⟨0, [], [], []⟩, ⟨0, 0, [], 0⟩)
def KSR (w : World) (res : IRes) (v : Value) (w' : World) : Prop := ∃ (tp tc tq t : Sl) (r : RIpc), v = .tuple #[iV r.Next tp tc tq, rV res.2.Code res.2.N t res.2.From] ∧ r.abs = res.1 ∧ SH w w' (rD t res.2.Data :: sP tp tc tq r)
set_option maxRecDepth 4000 in
set_option maxHeartbeats 2000000 in
theorem s36 {w : World} {sp sc sq td : Sl} {d : DIpc} {o : DIpcOp} (hd : ILent w sp sc sq d) (hb : ByAt w td o.Data) (hbs : o.Data.length ≤ 1048576) :
    CallW Try.prog 36 #[iV d.Next sp sc sq, .agg ⟨opV o td⟩] w (KSR w (stepA d o)) := by
  refine go36 (a0_0 := d.Next) (a0_1 := sp) (a0_2 := sc) (a0_3 := sq) (a1_0 := o.Kind) (a1_1 := o.Holder) (a1_2 := o.Id) (a1_3 := o.To) (a1_4 := o.Rights) (a1_5 := o.Cap) (a1_6 := o.N) (a1_7 := td) ?_
  unfold W36; (try delta qn ql qb qi qS qI qP qQ qR qU qA qC H36_0)
  have h := SH.start w
  refine h.alloc (fun w1 h e1 n1 => ?_)
  refine h.alloc (fun w2 h e2 n2 => ?_)
  refine h.alloc (fun w3 h e3 n3 => ?_)
  refine h.alloc (fun w4 h e4 n4 => ?_)
  have h : SH w w4 [BR w3.heap.size 0 0 N0 0, BI w2.heap.size 0 N0 N0 N0, BO w1.heap.size o td, BI w.heap.size d.Next sp sc sq] := h
  refine ⟨_, h.cell 3 rfl rfl, sp, h.cell 3 rfl rfl, sc, h.cell 3 rfl rfl, sq, h.cell 3 rfl rfl, (c12 (hd.ext h.ext).at_ hd.wf.pw.pipes).mono ?_⟩
  rintro _ w10 ⟨b11, rfl, hb11, e10⟩
  have h := h.to e10
  refine ⟨b11, rfl, ?_⟩
  by_cases hok : IOk d
  rotate_left
  · have hbf : b11 = false := by cases b11 with | false => rfl | true => exact absurd (hb11.1 rfl) hok
    have hres : stepA d o = (⟨0, [], [], []⟩, ⟨0, 0, [], 0⟩) := if_neg hok
    rw [hres]
    refine BIf.t (by rw [hbf]; rfl) ?_
    refine h.put 1 rfl rfl rfl (fun w12 h n12 => ?_)
    refine h.put 0 rfl rfl rfl (fun w13 h n13 => ?_)
    refine ⟨_, h.cell 1 rfl rfl, N0, h.cell 1 rfl rfl, N0, h.cell 1 rfl rfl, N0, h.cell 1 rfl rfl, _, h.cell 0 rfl rfl, _, h.cell 0 rfl rfl, N0, h.cell 0 rfl rfl, _, h.cell 0 rfl rfl, ?_⟩
    have h := h.drop.drop.drop.drop
    have h := ((((((SH.bagNil pipeA h).nil none 4).nil none 5).fro 0 rfl))).bagNil portA
    have h := (h.nil none 2).nil none 1
    exact ⟨N0, N0, N0, N0, ⟨0, [], [], []⟩, rfl, rfl, h⟩
  have hbt : b11 = true := hb11.2 hok
  have hres : stepA d o = stepI d o := if_pos hok
  rw [hres]
  refine BIf.f (by rw [hbt]; rfl) ?_
  refine ⟨_, h.cell 3 rfl rfl, sp, h.cell 3 rfl rfl, sc, h.cell 3 rfl rfl, sq, h.cell 3 rfl rfl, (c74 (hd.ext h.ext)).mono ?_⟩
  rintro _ w27 ⟨tp, tc, tq, r, rfl, hr, g⟩
  have h := h.seq g
  refine ⟨_, tp, tc, tq, rfl, ?_⟩
  refine h.alloc (fun w32 h e32 n32 => ?_)
  refine h.put 0 rfl rfl rfl (fun w33 h n33 => ?_)
  have h : SH w w33 (BI w27.heap.size r.Next tp tc tq :: rP tp r.Ports :: bP r.Ports :: rC tc r.Caps :: rQ tq r.Pipes :: bQ r.Pipes :: [BR w3.heap.size 0 0 N0 0, BI w2.heap.size 0 N0 N0 N0, BO w1.heap.size o td, BI w.heap.size d.Next sp sc sq]) := h
  refine ⟨_, h.cell 8 rfl rfl, _, h.cell 8 rfl rfl, _, h.cell 8 rfl rfl, _, h.cell 8 rfl rfl, _, h.cell 8 rfl rfl, _, h.cell 8 rfl rfl, _, h.cell 8 rfl rfl, td, h.cell 8 rfl rfl, ?_⟩
  have herr := step_err d o
  have hs := s75 (F := [BR w3.heap.size 0 0 N0 0, BI w2.heap.size 0 N0 N0 N0, BO w1.heap.size o td, BI w.heap.size d.Next sp sc sq]) (r := r) (o := o) h (by rw [hr]; exact hd.wf) (by rw [hr]; exact hok) hb hbs
  rw [hr] at hs
  generalize stepI d o = res at *
  refine hs.mono ?_
  rintro _ w43 ⟨tp2, tc2, tq2, t, r2, rfl, hr2, h⟩
  refine ⟨_, _, t, _, rfl, ?_⟩
  refine h.alloc (fun w48 h e48 n48 => ?_)
  refine h.put 0 rfl rfl rfl (fun w49 h n49 => ?_)
  have h : SH w w49 [BR w43.heap.size res.2.Code res.2.N t res.2.From, rD t res.2.Data, BI w27.heap.size r2.Next tp2 tc2 tq2, rP tp2 r2.Ports, bP r2.Ports, rC tc2 r2.Caps, rQ tq2 r2.Pipes, bQ r2.Pipes, BR w3.heap.size 0 0 N0 0, BI w2.heap.size 0 N0 N0 N0, BO w1.heap.size o td, BI w.heap.size d.Next sp sc sq] := h
  have h := h.drew
  refine ⟨_, (h.cell 0 rfl rfl : _), BIf.ne (fun hne => ?_) (fun hz => ?_)⟩
  · rcases herr with he | he
    · exact absurd he hne
    refine ⟨_, h.cell 11 rfl rfl, sp, h.cell 11 rfl rfl, sc, h.cell 11 rfl rfl, sq, h.cell 11 rfl rfl, _, h.cell 0 rfl rfl, (c74 (hd.ext h.ext)).mono ?_⟩
    rintro _ w57 ⟨tp3, tc3, tq3, r3, rfl, hr3, g⟩
    have h := h.seq g
    refine ⟨_, tp3, tc3, tq3, rfl, ⟨_, h.cell 5 rfl rfl, rfl⟩, ?_⟩
    refine h.put 14 rfl rfl rfl (fun w63 h n63 => ?_)
    refine ⟨⟨_, h.cell 5 rfl rfl, rfl⟩, ?_⟩
    refine h.put 13 rfl rfl rfl (fun w65 h n65 => ?_)
    refine ⟨_, h.cell 14 rfl rfl, tp3, h.cell 14 rfl rfl, tc3, h.cell 14 rfl rfl, tq3, h.cell 14 rfl rfl, _, h.cell 13 rfl rfl, _, h.cell 13 rfl rfl, N0, h.cell 13 rfl rfl, _, h.cell 13 rfl rfl, ?_⟩
    have h := (h.take 5).nil none 1
    refine ⟨tp3, tc3, tq3, N0, r3, ?_, by rw [hr3, he], ?_⟩
    · rw [he]; rfl
    · rw [he]; exact h
  · refine ⟨_, h.cell 2 rfl rfl, tp2, h.cell 2 rfl rfl, tc2, h.cell 2 rfl rfl, tq2, h.cell 2 rfl rfl, _, h.cell 0 rfl rfl, _, h.cell 0 rfl rfl, t, h.cell 0 rfl rfl, _, h.cell 0 rfl rfl, ?_⟩
    refine h.put 9 rfl rfl rfl (fun w82 h n82 => ?_)
    refine ⟨⟨_, h.cell 0 rfl rfl, _, h.cell 0 rfl rfl, t, h.cell 0 rfl rfl, _, h.cell 0 rfl rfl, rfl⟩, ?_⟩
    refine h.put 8 rfl rfl rfl (fun w87 h n87 => ?_)
    refine ⟨_, h.cell 9 rfl rfl, tp2, h.cell 9 rfl rfl, tc2, h.cell 9 rfl rfl, tq2, h.cell 9 rfl rfl, _, h.cell 8 rfl rfl, _, h.cell 8 rfl rfl, t, h.cell 8 rfl rfl, _, h.cell 8 rfl rfl, ?_⟩
    exact ⟨tp2, tc2, tq2, t, r2, rfl, hr2, (h.dropAt 2).drop.take 6⟩
end Go.Proofs.Ytbimoajgofcmbaa

namespace Go.Proofs.Ytbimoajgofcmbaa
open Go Go.Den
def KS (w0 : World) (F : List Asr) (res : IRes) (v : Value) (w' : World) : Prop := ∃ (tp tc tq t : Sl) (r : RIpc), v = .tuple #[iV r.Next tp tc tq, rV res.2.Code res.2.N t res.2.From] ∧ r.abs = res.1 ∧ SH w0 w' (rD t res.2.Data :: (sP tp tc tq r ++ F))
theorem s95 {w0 w : World} {F : List Asr} {tp tc tq : Sl} {r : RIpc} {n : Int} (h : SH w0 w (sP tp tc tq r ++ F)) : CallW Try.prog 95 #[iV r.Next tp tc tq, .int .i64 n] w (KS w0 F (r.abs, resE n)) := by
  refine go95 ?_
  unfold W95; (try delta qn ql qb qi qS qI qP qQ qR qU qA qC)
  refine h.alloc (fun w1 h e1 n1 => ?_)
  refine h.alloc (fun w2 h e2 n2 => ?_)
  refine h.alloc (fun w3 h e3 n3 => ?_)
  refine ⟨_, h.cell 2 rfl rfl, tp, h.cell 2 rfl rfl, tc, h.cell 2 rfl rfl, tq, h.cell 2 rfl rfl, ?_⟩
  refine h.put 1 rfl rfl rfl (fun w8 h n8 => ?_)
  refine h.put 0 rfl rfl rfl (fun w9 h n9 => ?_)
  refine ⟨_, h.cell 1 rfl rfl, tp, h.cell 1 rfl rfl, tc, h.cell 1 rfl rfl, tq, h.cell 1 rfl rfl, _, h.cell 0 rfl rfl, _, h.cell 0 rfl rfl, N0, h.cell 0 rfl rfl, _, h.cell 0 rfl rfl, ?_⟩
  exact ⟨tp, tc, tq, N0, r, rfl, rfl, h.drop.drop.drop.nil none 1⟩
theorem s96 {w0 w : World} {F : List Asr} {n a1 a2 a3 a4 : Int} {tp tc tq : Sl} {cs : List DCap} (h : SH w0 w (rC tc cs :: F)) (h0 : 0 ≤ n) (h1 : n ≤ 1099511628800) (hf : cs.length ≤ 1048576) :
    CallW Try.prog 96 #[iV n tp tc tq, .int .i64 a1, .int .i64 a2, .int .i64 a3, .int .i64 a4] w (fun v w' => ∃ tc' : Sl, v = iV (n + 1) tp tc' tq ∧ SH w0 w' (rC tc' (cs ++ [⟨n + 1, a1, a2, a3, a4⟩]) :: F)) := by
  refine go96 ?_
  unfold W96; (try delta qn ql qb qi qS qI qP qQ qR qU qA qC)
  refine h.alloc (fun w1 h e1 n1 => ?_)
  refine h.alloc (fun w2 h e2 n2 => ?_)
  refine ⟨_, h.cell 1 rfl rfl, ?_⟩
  dsimp only; rw [w64 (n := n + 1) (by omega) (by omega)]
  refine h.setV 1 rfl rfl (fun w4 h n4 => ?_)
  refine ⟨tc, h.cell 1 rfl rfl, _, h.cell 1 rfl rfl, ?_⟩
  refine LetW_iff.2 (SH.appendR1 (f := DCap.cells) (x := ⟨n + 1, a1, a2, a3, a4⟩) h.p2 rfl rfl rfl (by decide) (by show (_ + _) * 40 ≤ _; omega) (plain_cap' _) (fun tc2 w9 h htc2 _ => ?_))
  refine h.setV 2 rfl rfl (fun w10 h n10 => ?_)
  refine ⟨_, h.cell 2 rfl rfl, tp, h.cell 2 rfl rfl, tc2, h.cell 2 rfl rfl, tq, h.cell 2 rfl rfl, ?_⟩
  refine h.put 1 rfl rfl rfl (fun w15 h n15 => ?_)
  exact ⟨_, h.cell 1 rfl rfl, tp, h.cell 1 rfl rfl, tc2, h.cell 1 rfl rfl, tq, h.cell 1 rfl rfl, tc2, rfl, (h.dropAt 2).dropAt 1⟩
theorem dropC_snoc {cs : List DCap} {id up : Int} {k : Nat} {x : DCap} (hx : cs[k]? = some x) : dropC (cs.take (k + 1)) id up = dropC (cs.take k) id up ++ (if (x.Id != id) = true then [reCap id up x] else []) := by
  unfold dropC
  rw [filter_snoc' hx, List.map_append]
  split <;> rfl
set_option maxHeartbeats 1000000 in
theorem s97 {w0 w : World} {F : List Asr} {tp tc tq : Sl} {r : RIpc} {id : Int} {k0 : Nat} {c : DCap} (h : SH w0 w (rP tp r.Ports :: bP r.Ports :: rC tc r.Caps :: rQ tq r.Pipes :: bQ r.Pipes :: F)) (hw : IWf r.abs) (hk : capIx r.abs id = k0) (hc : r.Caps[k0]? = some c) :
    CallW Try.prog 97 #[iV r.Next tp tc tq, .int .i64 id] w (fun v w' => ∃ tc' : Sl, v = iV r.Next tp tc' tq ∧ SH w0 w' (rP tp r.Ports :: bP r.Ports :: rC tc' (dropC r.Caps id c.Parent) :: rQ tq r.Pipes :: bQ r.Pipes :: F)) := by
  refine go97 ?_
  unfold W97; (try delta qn ql qb qi qS qI qP qQ qR qU qA qC)
  have hf : r.Caps.length ≤ 1048576 := hw.few.1
  have hcl := h.len 2 rfl
  rw [recs_len] at hcl
  have hlk : k0 < r.Caps.length := (List.getElem?_eq_some_iff.1 hc).1
  refine h.alloc (fun w1 h e1 n1 => ?_)
  refine h.alloc (fun w2 h e2 n2 => ?_)
  have h := h.drew
  have hat : IpcAt w2.drew tp tc tq r.abs := ipc_at (F := F) (SH.drop (SH.drop h)) hw
  refine ⟨tc, h.cell 1 rfl rfl, _, h.cell 1 rfl rfl, tp, h.cell 1 rfl rfl, tc, h.cell 1 rfl rfl, tq, h.cell 1 rfl rfl, (c86 hat).mono ?_⟩
  rintro _ w9 ⟨rfl, e9⟩
  have h := h.to e9
  rw [hk]
  obtain ⟨q, hq⟩ := h.rowQ 4 rfl hc
  simp only [Int.toNat_natCast]
  refine ⟨_, rfl, ⟨tc, h.cell 1 rfl rfl, rfl⟩, by omega, by omega, q, hq, _, h.rdR 4 rfl hq hc rfl, ?_⟩
  refine h.alloc (fun w14 h e14 n14 => ?_)
  have h : SH w0 w14 (rC ⟨some ⟨w9.heap.size, 0, none⟩, 0, 0⟩ (dropC (r.Caps.take 0) id c.Parent) :: BI w1.heap.size 0 N0 N0 N0 :: BI w.heap.size r.Next tp tc tq :: rP tp r.Ports :: bP r.Ports :: rC tc r.Caps :: rQ tq r.Pipes :: bQ r.Pipes :: F) := h.drop.nil _ 5
  refine LoopW.m2 (fun (t : Sl) (i : Int) w' => ∃ k : Nat, i = k ∧ k ≤ r.Caps.length ∧ SH w0 w' (rC t (dropC (r.Caps.take k) id c.Parent) :: BI w1.heap.size 0 N0 N0 N0 :: BI w.heap.size r.Next tp tc tq :: rP tp r.Ports :: bP r.Ports :: rC tc r.Caps :: rQ tq r.Pipes :: bQ r.Pipes :: F)) (fun _ (i : Int) _ => (r.Caps.length - i).toNat) ⟨0, rfl, by omega, h⟩ ?_
  clear h
  rintro (t : Sl) (i : Int) w18 ⟨k, rfl, hkk, h⟩ J hJ
  have hkl : (dropC (r.Caps.take k) id c.Parent).length ≤ k := by
    unfold dropC; rw [List.length_map]
    have := List.length_filter_le (fun x : DCap => x.Id != id) (r.Caps.take k); simp at this; omega
  refine ⟨tc, h.cell 2 rfl rfl, BIf.dec (fun hlt => ?_) (fun hge => ?_)⟩
  · have hget : r.Caps[k]? = some r.Caps[k] := List.getElem?_eq_getElem (by omega)
    generalize r.Caps[k] = x at *
    have hsn := dropC_snoc (id := id) (up := c.Parent) hget
    obtain ⟨q2, hq2⟩ := h.rowQ 5 rfl hget
    simp only [Int.toNat_natCast]
    rw [w64 (n := (k : Int) + 1) (by omega) (by omega)]
    refine ⟨tc, h.cell 2 rfl rfl, by omega, by omega, q2, hq2, _, h.rdR 5 rfl hq2 hget rfl, _, h.rdR 5 rfl hq2 hget rfl, _, h.rdR 5 rfl hq2 hget rfl, _, h.rdR 5 rfl hq2 hget rfl, _, h.rdR 5 rfl hq2 hget rfl, ?_⟩
    refine h.alloc (fun w27 h e27 n27 => ?_)
    refine h.put 0 rfl rfl rfl (fun w28 h n28 => ?_)
    refine ⟨_, h.cell 0 rfl rfl, BIf.eq (fun he => ?_) (fun he => ?_)⟩
    · rw [if_neg (by simpa using he), List.append_nil] at hsn
      exact hJ _ _ _ ⟨k + 1, by omega, by omega, by rw [hsn]; exact h.drop⟩ (by omega)
    · rw [if_pos (by simpa using he)] at hsn
      refine JoinW.cut0 (fun w' => SH w0 w' (aB w18.heap.size ((reCap id c.Parent x).cells.map Ce.v) :: rC t (dropC (r.Caps.take k) id c.Parent) :: BI w1.heap.size 0 N0 N0 N0 :: BI w.heap.size r.Next tp tc tq :: rP tp r.Ports :: bP r.Ports :: rC tc r.Caps :: rQ tq r.Pipes :: bQ r.Pipes :: F)) ?_ ?_
      · refine ⟨_, h.cell 0 rfl rfl, BIf.eq (fun hp => ?_) (fun hp => ?_)⟩
        · refine h.setV 0 rfl rfl (fun w41 h n41 => ?_)
          unfold reCap
          rw [if_pos hp]
          exact h
        · unfold reCap
          rw [if_neg hp]
          exact h
      clear h
      intro w31 h
      generalize reCap id c.Parent x = y at *
      refine ⟨_, h.cell 0 rfl rfl, _, h.cell 0 rfl rfl, _, h.cell 0 rfl rfl, _, h.cell 0 rfl rfl, _, h.cell 0 rfl rfl, ?_⟩
      refine LetW_iff.2 (SH.appendR1 (f := DCap.cells) (x := y) h.drop rfl rfl rfl (by decide) (by show (_ + _) * 40 ≤ _; omega) (plain_cap' _) (fun t2 w39 h ht2 _ => ?_))
      exact hJ _ _ _ ⟨k + 1, by omega, by omega, by rw [hsn]; exact h⟩ (by omega)
  · have hke : k = r.Caps.length := by omega
    rw [hke, List.take_length] at h
    refine h.setV 2 rfl rfl (fun w42 h n42 => ?_)
    refine ⟨_, h.cell 2 rfl rfl, tp, h.cell 2 rfl rfl, t, h.cell 2 rfl rfl, tq, h.cell 2 rfl rfl, ?_⟩
    refine h.put 1 rfl rfl rfl (fun w47 h n47 => ?_)
    refine ⟨_, h.cell 1 rfl rfl, tp, h.cell 1 rfl rfl, t, h.cell 1 rfl rfl, tq, h.cell 1 rfl rfl, t, rfl, ?_⟩
    have h := ((h.dropAt 5).dropAt 2).dropAt 1
    exact (h.fro 2 rfl).fro 2 rfl
set_option maxHeartbeats 1000000 in
theorem s98 {w0 w : World} {F : List Asr} {n : Int} {tp tc tq : Sl} {ps : List RPort} {cs : List DCap} (h : SH w0 w (rP tp ps :: bP ps :: rC tc cs :: F)) (hf : cs.length ≤ 1048576) (hfp : ps.length ≤ 1048576) :
    CallW Try.prog 98 #[iV n tp tc tq] w (fun v w' => ∃ tp' : Sl, v = iV n tp' tc tq ∧ SH w0 w' (rP tp' (ps.filter (hasR cs)) :: bP (ps.filter (hasR cs)) :: rC tc cs :: F)) := by
  refine go98 ?_
  unfold W98; (try delta qn ql qb qi qS qI qP qQ qR qU qA qC)
  have hpl := h.len 0 rfl
  have hcl := h.len 2 rfl
  rw [recs_len] at hpl hcl
  refine h.alloc (fun w1 h e1 n1 => ?_)
  refine h.alloc (fun w2 h e2 n2 => ?_)
  refine h.alloc (fun w3 h e3 n3 => ?_)
  have h : SH w0 w3 (rP ⟨some ⟨w2.heap.size, 0, none⟩, 0, 0⟩ ((ps.take 0).filter (hasR cs)) :: BI w1.heap.size 0 N0 N0 N0 :: BI w.heap.size n tp tc tq :: rP tp ps :: bP ps :: rC tc cs :: F) := h.drop.nil _ 2
  refine LoopW.m2 (fun (t : Sl) (i : Int) w' => ∃ k : Nat, i = k ∧ k ≤ ps.length ∧ SH w0 w' (rP t ((ps.take k).filter (hasR cs)) :: BI w1.heap.size 0 N0 N0 N0 :: BI w.heap.size n tp tc tq :: rP tp ps :: bP ps :: rC tc cs :: F)) (fun _ (i : Int) _ => (ps.length - i).toNat) ⟨0, rfl, by omega, h⟩ ?_
  clear h
  rintro (t : Sl) (i : Int) w7 ⟨k, rfl, hk, h⟩ J hJ
  have hkl : ((ps.take k).filter (hasR cs)).length ≤ k := by have := List.length_filter_le (hasR cs) (ps.take k); simp at this; omega
  refine ⟨tp, h.cell 2 rfl rfl, BIf.dec (fun hlt => ?_) (fun hge => ?_)⟩
  · have hget : ps[k]? = some ps[k] := List.getElem?_eq_getElem (by omega)
    generalize ps[k] = x at *
    have hsn := filter_snoc' (p := hasR cs) hget
    simp only [Int.toNat_natCast]
    rw [w64 (n := (k : Int) + 1) (by omega) (by omega)]
    refine LoopW.m2 (fun (bb : Bool) (i : Int) w' => ∃ m : Nat, i = m ∧ m ≤ cs.length ∧ bb = (cs.take m).any (fun c => c.Port == x.Id) ∧ SH w0 w' (rP t ((ps.take k).filter (hasR cs)) :: BI w1.heap.size 0 N0 N0 N0 :: BI w.heap.size n tp tc tq :: rP tp ps :: bP ps :: rC tc cs :: F)) (fun _ (i : Int) _ => (cs.length - i).toNat) ⟨0, rfl, by omega, rfl, h⟩ ?_
    clear h
    rintro (bb : Bool) (i : Int) w12 ⟨m, rfl, hm, hbb, h⟩ J2 hJ2
    refine ⟨tc, h.cell 2 rfl rfl, BIf.dec (fun hlt2 => ?_) (fun hge2 => ?_)⟩
    · have hget2 : cs[m]? = some cs[m] := List.getElem?_eq_getElem (by omega)
      generalize cs[m] = y at *
      have hany := any_snoc (fun c : DCap => c.Port == x.Id) hget2
      simp only [Int.toNat_natCast]
      rw [w64 (n := (m : Int) + 1) (by omega) (by omega)]
      have h := h.drew
      refine BIf.of (fun hbt => ?_) (fun hbf => ?_)
      · exact hJ2 _ _ _ ⟨m + 1, by omega, by omega, by rw [hany, ← hbb, hbt]; rfl, h⟩ (by omega)
      · obtain ⟨q, hq⟩ := h.rowQ 5 rfl hget2
        obtain ⟨q2, hq2⟩ := h.rowQ 3 rfl hget
        refine ⟨tc, h.cell 2 rfl rfl, by omega, by omega, q, hq, _, h.rdR 5 rfl hq hget2 rfl, tp, h.cell 2 rfl rfl, by omega, by omega, q2, hq2, _, h.rdR 3 rfl hq2 hget rfl, ?_⟩
        exact hJ2 _ _ _ ⟨m + 1, by omega, by omega, by rw [hany, ← hbb, hbf]; rfl, h⟩ (by omega)
    · have hme : m = cs.length := by omega
      rw [hme, List.take_length] at hbb
      have hbb : bb = hasR cs x := hbb
      refine BIf.of (fun hp => ?_) (fun hp => ?_)
      · rw [if_pos (by rw [← hbb, hp])] at hsn
        obtain ⟨q2, hq2⟩ := h.rowQ 3 rfl hget
        refine ⟨tp, h.cell 2 rfl rfl, by omega, by omega, q2, hq2, _, h.rdR 3 rfl hq2 hget rfl, x.q, h.rdR 3 rfl hq2 hget rfl, ?_⟩
        refine LetW_iff.2 (SH.appendR1 (f := RPort.cells) (x := x) h rfl rfl rfl (by decide) (by show (_ + _) * 32 ≤ _; omega) (plain_port _) (fun t2 w26 h ht2 _ => ?_))
        exact hJ _ _ _ ⟨k + 1, by omega, by omega, by rw [hsn]; exact h⟩ (by omega)
      · rw [if_neg (by rw [← hbb, hp]; decide), List.append_nil] at hsn
        exact hJ _ _ _ ⟨k + 1, by omega, by omega, by rw [hsn]; exact h⟩ (by omega)
  · have hke : k = ps.length := by omega
    rw [hke, List.take_length] at h
    refine h.setV 2 rfl rfl (fun w27 h n27 => ?_)
    refine ⟨_, h.cell 2 rfl rfl, t, h.cell 2 rfl rfl, tc, h.cell 2 rfl rfl, tq, h.cell 2 rfl rfl, ?_⟩
    refine h.put 1 rfl rfl rfl (fun w32 h n32 => ?_)
    refine ⟨_, h.cell 1 rfl rfl, t, h.cell 1 rfl rfl, tc, h.cell 1 rfl rfl, tq, h.cell 1 rfl rfl, t, rfl, ?_⟩
    have h := ((h.dropAt 3).dropAt 2).dropAt 1
    have h := SH.bagFilter (hasR cs) (h.fro 1 rfl)
    exact h.fro 1 rfl
set_option maxHeartbeats 1000000 in
theorem s116 {w0 w : World} {F : List Asr} {tp tc tq : Sl} {r : RIpc} {top : Int} (h : SH w0 w (sP tp tc tq r ++ F)) (hw : IWf r.abs) (hi : IOk r.abs) : CallW Try.prog 116 #[iV r.Next tp tc tq, .int .i64 top] w (KS w0 F (revF r.abs top)) := by
  refine go116 ?_
  unfold W116; (try delta qn ql qb qi qS qI qP qQ qR qU qA qC)
  have hf : r.Caps.length ≤ 128 := hi.caps
  have h : SH w0 w (rP tp r.Ports :: bP r.Ports :: rC tc r.Caps :: rQ tq r.Pipes :: bQ r.Pipes :: F) := h
  have hcl := h.len 2 rfl
  rw [recs_len] at hcl
  refine h.alloc (fun w1 h e1 n1 => ?_)
  refine h.alloc (fun w2 h e2 n2 => ?_)
  refine h.alloc (fun w3 h e3 n3 => ?_)
  refine h.alloc (fun w4 h e4 n4 => ?_)
  classical
  have h : SH w0 w4 (rC ⟨some ⟨w3.heap.size, 0, none⟩, 0, 0⟩ ((r.Caps.take 0).filter (fun c => !decide (Und r.abs top c.Id))) :: BR w2.heap.size 0 0 N0 0 :: BI w1.heap.size 0 N0 N0 N0 :: BI w.heap.size r.Next tp tc tq :: rP tp r.Ports :: bP r.Ports :: rC tc r.Caps :: rQ tq r.Pipes :: bQ r.Pipes :: F) := h.drop.nil _ 5
  refine LoopW.m2 (fun (t : Sl) (i : Int) w' => ∃ k : Nat, i = k ∧ k ≤ r.Caps.length ∧ SH w0 w' (rC t ((r.Caps.take k).filter (fun c => !decide (Und r.abs top c.Id))) :: BR w2.heap.size 0 0 N0 0 :: BI w1.heap.size 0 N0 N0 N0 :: BI w.heap.size r.Next tp tc tq :: rP tp r.Ports :: bP r.Ports :: rC tc r.Caps :: rQ tq r.Pipes :: bQ r.Pipes :: F)) (fun _ (i : Int) _ => (r.Caps.length - i).toNat) ⟨0, rfl, by omega, h⟩ ?_
  clear h
  rintro (t : Sl) (i : Int) w8 ⟨k, rfl, hk, h⟩ J hJ
  have hkl : ((r.Caps.take k).filter (fun c => !decide (Und r.abs top c.Id))).length ≤ k := by have := List.length_filter_le (fun c : DCap => !decide (Und r.abs top c.Id)) (r.Caps.take k); simp at this; omega
  refine ⟨tc, h.cell 3 rfl rfl, BIf.dec (fun hlt => ?_) (fun hge => ?_)⟩
  · have hget : r.Caps[k]? = some r.Caps[k] := List.getElem?_eq_getElem (by omega)
    generalize r.Caps[k] = x at *
    have hsn := filter_snoc' (p := fun c : DCap => !decide (Und r.abs top c.Id)) hget
    simp only [Int.toNat_natCast]
    rw [w64 (n := (k : Int) + 1) (by omega) (by omega)]
    have h := h.drew
    have hat : IpcAt w8.drew tp tc tq r.abs := ipc_at (F := F) (SH.drop (SH.drop (SH.drop (SH.drop h)))) hw
    obtain ⟨q, hq⟩ := h.rowQ 6 rfl hget
    refine ⟨_, h.cell 3 rfl rfl, tp, h.cell 3 rfl rfl, tc, h.cell 3 rfl rfl, tq, h.cell 3 rfl rfl, tc, h.cell 3 rfl rfl, by omega, by omega, q, hq, _, h.rdR 6 rfl hq hget rfl, (c65 hat hi hget).mono ?_⟩
    rintro _ w18 ⟨b19, rfl, hb19, e18⟩
    have h := h.to e18
    refine ⟨b19, rfl, BIf.of (fun hb => ?_) (fun hb => ?_)⟩
    · have hn : ¬ Und r.abs top x.Id := fun hu => by rw [hb19.2 hu] at hb; cases hb
      rw [if_pos (by simpa using hn)] at hsn
      refine ⟨tc, h.cell 3 rfl rfl, by omega, by omega, q, hq, _, h.rdR 6 rfl hq hget rfl, _, h.rdR 6 rfl hq hget rfl, _, h.rdR 6 rfl hq hget rfl, _, h.rdR 6 rfl hq hget rfl, _, h.rdR 6 rfl hq hget rfl, ?_⟩
      refine LetW_iff.2 (SH.appendR1 (f := DCap.cells) (x := x) h rfl rfl rfl (by decide) (by show (_ + _) * 40 ≤ _; omega) (plain_cap' _) (fun t2 w29 h ht2 _ => ?_))
      exact hJ _ _ _ ⟨k + 1, by omega, by omega, by rw [hsn]; exact h⟩ (by omega)
    · have hu : Und r.abs top x.Id := hb19.1 (by simpa using hb)
      rw [if_neg (by simpa using hu), List.append_nil] at hsn
      exact hJ _ _ _ ⟨k + 1, by omega, by omega, by rw [hsn]; exact h⟩ (by omega)
  · have hke : k = r.Caps.length := by omega
    rw [hke, List.take_length] at h hkl
    have hrev : r.Caps.filter (fun c => !decide (Und r.abs top c.Id)) = revC r.abs top := by
      unfold revC
      refine List.filter_congr (fun x _ => ?_)
      congr
    rw [hrev] at h hkl
    have htl := h.len 0 rfl
    rw [recs_len] at htl
    refine ⟨tc, h.cell 3 rfl rfl, ?_⟩
    refine h.setV 3 rfl rfl (fun w31 h n31 => ?_)
    refine ⟨_, h.cell 3 rfl rfl, tp, h.cell 3 rfl rfl, t, h.cell 3 rfl rfl, tq, h.cell 3 rfl rfl, ?_⟩
    refine h.put 2 rfl rfl rfl (fun w36 h n36 => ?_)
    rw [w64 (n := (tc.len : Int) - (t.len : Int)) (by omega) (by omega)]
    refine h.put 1 rfl rfl rfl (fun w37 h n37 => ?_)
    refine ⟨_, h.cell 2 rfl rfl, tp, h.cell 2 rfl rfl, t, h.cell 2 rfl rfl, tq, h.cell 2 rfl rfl, _, h.cell 1 rfl rfl, _, h.cell 1 rfl rfl, N0, h.cell 1 rfl rfl, _, h.cell 1 rfl rfl, ?_⟩
    have h := (((h.dropAt 6).dropAt 3).dropAt 2).dropAt 1
    have h := ((h.fro 2 rfl).fro 2 rfl).nil none 1
    have e : (tc.len : Int) - t.len = (r.Caps.length : Int) - (revC r.abs top).length := by rw [hcl, htl]
    refine ⟨tp, t, tq, N0, ⟨r.Next, r.Ports, revC r.abs top, r.Pipes⟩, ?_, rfl, h⟩
    rw [e]
    rfl
end Go.Proofs.Ytbimoajgofcmbaa

namespace Go.Proofs.Ytbimoajgofcmbaa
open Go Go.Den
theorem SH.dropL {w0 w : World} : ∀ {X G : List Asr}, SH w0 w (X ++ G) → SH w0 w G
  | [], _, h => h
  | _ :: X, _, h => SH.dropL (X := X) (SH.drop h)
theorem retS {w0 w : World} {F X : List Asr} {N rb ib : Nat} {args : Array Value} {res : IRes} {c0 n0 f0 m0 : Int} {t0 a0 b0 d0 : Sl}
    (hc : CallW Try.prog N args w (KS w0 (BR rb c0 n0 t0 f0 :: BI ib m0 a0 b0 d0 :: (X ++ F)) res)) :
    CallW Try.prog N args w (fun v14 w15 => ∃ n16 : Int, ∃ l17 : Sl, ∃ l18 : Sl, ∃ l19 : Sl, ∃ n20 : Int, ∃ n21 : Int, ∃ l22 : Sl, ∃ n23 : Int, v14 = .tuple #[.agg #[.int .i64 n16, .slice l17.a l17.len l17.cap, .slice l18.a l18.len l18.cap, .slice l19.a l19.len l19.cap], .agg #[.int .i64 n20, .int .i64 n21, .slice l22.a l22.len l22.cap, .int .i64 n23]] ∧ MayN w15 ⟨ib, 0, none⟩ 4 ∧ LetW (puts w15 ⟨ib, 0, none⟩ 0 [.int .i64 n16, .slice l17.a l17.len l17.cap, .slice l18.a l18.len l18.cap, .slice l19.a l19.len l19.cap]) fun w24 => MayN w24 ⟨rb, 0, none⟩ 4 ∧ LetW (puts w24 ⟨rb, 0, none⟩ 0 [.int .i64 n20, .int .i64 n21, .slice l22.a l22.len l22.cap, .int .i64 n23]) fun w25 => ∃ n26 : Int, w25.cell? ⟨ib, 0, none⟩ = some (.int .i64 n26) ∧ ∃ l27 : Sl, w25.cell? ⟨ib, 1, none⟩ = some (.slice l27.a l27.len l27.cap) ∧ ∃ l28 : Sl, w25.cell? ⟨ib, 2, none⟩ = some (.slice l28.a l28.len l28.cap) ∧ ∃ l29 : Sl, w25.cell? ⟨ib, 3, none⟩ = some (.slice l29.a l29.len l29.cap) ∧ ∃ n30 : Int, w25.cell? ⟨rb, 0, none⟩ = some (.int .i64 n30) ∧ ∃ n31 : Int, w25.cell? ⟨rb, 1, none⟩ = some (.int .i64 n31) ∧ ∃ l32 : Sl, w25.cell? ⟨rb, 2, none⟩ = some (.slice l32.a l32.len l32.cap) ∧ ∃ n33 : Int, w25.cell? ⟨rb, 3, none⟩ = some (.int .i64 n33) ∧ KS w0 F res (.tuple #[.agg #[.int .i64 n26, .slice l27.a l27.len l27.cap, .slice l28.a l28.len l28.cap, .slice l29.a l29.len l29.cap], .agg #[.int .i64 n30, .int .i64 n31, .slice l32.a l32.len l32.cap, .int .i64 n33]]) w25) := by
  refine hc.mono ?_
  rintro _ w15 ⟨tp, tc, tq, t, r, rfl, hr, h⟩
  have h : SH w0 w15 (rD t res.2.Data :: rP tp r.Ports :: bP r.Ports :: rC tc r.Caps :: rQ tq r.Pipes :: bQ r.Pipes :: BR rb c0 n0 t0 f0 :: BI ib m0 a0 b0 d0 :: (X ++ F)) := h
  refine ⟨_, tp, tc, tq, _, _, t, _, rfl, ?_⟩
  refine h.put 7 rfl rfl rfl (fun w24 h n24 => ?_)
  refine h.put 6 rfl rfl rfl (fun w25 h n25 => ?_)
  refine ⟨_, h.cell 7 rfl rfl, tp, h.cell 7 rfl rfl, tc, h.cell 7 rfl rfl, tq, h.cell 7 rfl rfl, _, h.cell 6 rfl rfl, _, h.cell 6 rfl rfl, t, h.cell 6 rfl rfl, _, h.cell 6 rfl rfl, ?_⟩
  have h := (h.dropAt 7).dropAt 6
  have h : SH w0 w25 ([rD t res.2.Data, rP tp r.Ports, bP r.Ports, rC tc r.Caps, rQ tq r.Pipes, bQ r.Pipes] ++ (X ++ F)) := h
  have h2 : SH w0 w25 (X ++ ([rD t res.2.Data, rP tp r.Ports, bP r.Ports, rC tc r.Caps, rQ tq r.Pipes, bQ r.Pipes] ++ F)) := h.perm (by
    have := (List.perm_append_comm (l₁ := [rD t res.2.Data, rP tp r.Ports, bP r.Ports, rC tc r.Caps, rQ tq r.Pipes, bQ r.Pipes]) (l₂ := X)).append_right F
    rw [List.append_assoc, List.append_assoc] at this
    exact this)
  exact ⟨tp, tc, tq, t, r, rfl, hr, SH.dropL h2⟩
theorem getM {M : List Asr} {A B C : Asr} {G : List Asr} : (A :: B :: (M ++ (C :: G)))[M.length + 2]? = some C := by
  simp
theorem errS {w0 w : World} {F M : List Asr} {rb ib b : Nat} {r : RIpc} {tp tc tq : Sl} {n : Int} {res : IRes} (hres : res = (r.abs, resE n))
    (h : SH w0 w (BR rb 0 0 N0 0 :: BI ib 0 N0 N0 N0 :: (M ++ (BI b r.Next tp tc tq :: (sP tp tc tq r ++ F))))) :
    ∃ n10 : Int, w.cell? ⟨b, 0, none⟩ = some (.int .i64 n10) ∧ ∃ l11 : Sl, w.cell? ⟨b, 1, none⟩ = some (.slice l11.a l11.len l11.cap) ∧ ∃ l12 : Sl, w.cell? ⟨b, 2, none⟩ = some (.slice l12.a l12.len l12.cap) ∧ ∃ l13 : Sl, w.cell? ⟨b, 3, none⟩ = some (.slice l13.a l13.len l13.cap) ∧ CallW Try.prog 95 #[.agg #[.int .i64 n10, .slice l11.a l11.len l11.cap, .slice l12.a l12.len l12.cap, .slice l13.a l13.len l13.cap], .int .i64 n] w (fun v14 w15 => ∃ n16 : Int, ∃ l17 : Sl, ∃ l18 : Sl, ∃ l19 : Sl, ∃ n20 : Int, ∃ n21 : Int, ∃ l22 : Sl, ∃ n23 : Int, v14 = .tuple #[.agg #[.int .i64 n16, .slice l17.a l17.len l17.cap, .slice l18.a l18.len l18.cap, .slice l19.a l19.len l19.cap], .agg #[.int .i64 n20, .int .i64 n21, .slice l22.a l22.len l22.cap, .int .i64 n23]] ∧ MayN w15 ⟨ib, 0, none⟩ 4 ∧ LetW (puts w15 ⟨ib, 0, none⟩ 0 [.int .i64 n16, .slice l17.a l17.len l17.cap, .slice l18.a l18.len l18.cap, .slice l19.a l19.len l19.cap]) fun w24 => MayN w24 ⟨rb, 0, none⟩ 4 ∧ LetW (puts w24 ⟨rb, 0, none⟩ 0 [.int .i64 n20, .int .i64 n21, .slice l22.a l22.len l22.cap, .int .i64 n23]) fun w25 => ∃ n26 : Int, w25.cell? ⟨ib, 0, none⟩ = some (.int .i64 n26) ∧ ∃ l27 : Sl, w25.cell? ⟨ib, 1, none⟩ = some (.slice l27.a l27.len l27.cap) ∧ ∃ l28 : Sl, w25.cell? ⟨ib, 2, none⟩ = some (.slice l28.a l28.len l28.cap) ∧ ∃ l29 : Sl, w25.cell? ⟨ib, 3, none⟩ = some (.slice l29.a l29.len l29.cap) ∧ ∃ n30 : Int, w25.cell? ⟨rb, 0, none⟩ = some (.int .i64 n30) ∧ ∃ n31 : Int, w25.cell? ⟨rb, 1, none⟩ = some (.int .i64 n31) ∧ ∃ l32 : Sl, w25.cell? ⟨rb, 2, none⟩ = some (.slice l32.a l32.len l32.cap) ∧ ∃ n33 : Int, w25.cell? ⟨rb, 3, none⟩ = some (.int .i64 n33) ∧ KS w0 F res (.tuple #[.agg #[.int .i64 n26, .slice l27.a l27.len l27.cap, .slice l28.a l28.len l28.cap, .slice l29.a l29.len l29.cap], .agg #[.int .i64 n30, .int .i64 n31, .slice l32.a l32.len l32.cap, .int .i64 n33]]) w25) := by
  subst hres
  refine ⟨_, h.cell (M.length + 2) getM rfl, tp, h.cell (M.length + 2) getM rfl, tc, h.cell (M.length + 2) getM rfl, tq, h.cell (M.length + 2) getM rfl, ?_⟩
  refine retS (X := M ++ [BI b r.Next tp tc tq]) (c0 := 0) (n0 := 0) (f0 := 0) (m0 := 0) (t0 := N0) (a0 := N0) (b0 := N0) (d0 := N0) (s95 (r := r) ?_)
  refine h.perm ?_
  have := List.perm_append_comm (l₁ := BR rb 0 0 N0 0 :: BI ib 0 N0 N0 N0 :: (M ++ [BI b r.Next tp tc tq])) (l₂ := sP tp tc tq r)
  have := this.append_right F
  simpa using this
theorem s115 {w0 w : World} {F : List Asr} {tp tc tq td : Sl} {r : RIpc} {o : DIpcOp} {c : DCap} (h : SH w0 w (sP tp tc tq r ++ F)) (hn : 0 ≤ r.Next ∧ r.Next ≤ 1099511628800) (hf : r.Caps.length ≤ 1048576) :
    CallW Try.prog 115 #[iV r.Next tp tc tq, .agg ⟨opV o td⟩, .agg ⟨c.cells⟩] w (KS w0 F (giveI r.abs o c)) := by
  refine go115 (a0_0 := r.Next) (a0_1 := tp) (a0_2 := tc) (a0_3 := tq) (a1_0 := o.Kind) (a1_1 := o.Holder) (a1_2 := o.Id) (a1_3 := o.To) (a1_4 := o.Rights) (a1_5 := o.Cap) (a1_6 := o.N) (a1_7 := td) (a2_0 := c.Id) (a2_1 := c.Holder) (a2_2 := c.Port) (a2_3 := c.Rights) (a2_4 := c.Parent) ?_
  unfold W115; (try delta qn ql qb qi qS qI qP qQ qR qU qA qC H115_1 H115_0)
  have h : SH w0 w (rP tp r.Ports :: bP r.Ports :: rC tc r.Caps :: rQ tq r.Pipes :: bQ r.Pipes :: F) := h
  have hcl := h.len 2 rfl
  rw [recs_len] at hcl
  refine h.alloc (fun w1 h e1 n1 => ?_)
  refine h.alloc (fun w2 h e2 n2 => ?_)
  refine h.alloc (fun w3 h e3 n3 => ?_)
  refine h.alloc (fun w4 h e4 n4 => ?_)
  refine h.alloc (fun w5 h e5 n5 => ?_)
  have h : SH w0 w5 (BR w4.heap.size 0 0 N0 0 :: BI w3.heap.size 0 N0 N0 N0 :: BC w2.heap.size c :: BO w1.heap.size o td :: BI w.heap.size r.Next tp tc tq :: rP tp r.Ports :: bP r.Ports :: rC tc r.Caps :: rQ tq r.Pipes :: bQ r.Pipes :: F) := h
  generalize w4.heap.size = rb at *
  generalize w3.heap.size = ib at *
  generalize w2.heap.size = cb at *
  generalize w1.heap.size = ob at *
  generalize w.heap.size = b at *
  refine ⟨_, h.cell 3 rfl rfl, c84.mono ?_⟩
  rintro _ w8 ⟨rfl, rfl⟩
  refine ⟨_, rfl, ?_⟩
  refine JoinW.cut1 (fun (x : Bool) w' => x = decide (o.To < 0 ∨ 64 ≤ o.To ∨ o.Rights < 1) ∧ w' = w8) (BIf.of (fun hx => ⟨?_, rfl⟩) (fun hx => ⟨_, h.cell 3 rfl rfl, ?_, rfl⟩)) ?_
  · rw [Bool.eq_iff_iff]; simp at hx ⊢; omega
  · rw [Bool.eq_iff_iff]; simp at hx ⊢; omega
  rintro (x : Bool) w12 ⟨rfl, rfl⟩
  refine JoinW.cut1 (fun (x : Bool) w' => x = decide (o.To < 0 ∨ 64 ≤ o.To ∨ o.Rights < 1 ∨ 7 < o.Rights) ∧ w' = w12) (BIf.dec (fun hx => ⟨(decide_eq_true (by omega)).symm, rfl⟩) (fun hx => ⟨_, h.cell 3 rfl rfl, by rw [Bool.eq_iff_iff, decide_eq_true_iff, decide_eq_true_iff]; omega, rfl⟩)) ?_
  rintro (x : Bool) w15 ⟨rfl, rfl⟩
  refine BIf.dec (fun hbd => errS (M := [_, _]) (by unfold giveI; rw [if_pos hbd]) h) (fun hbd => ?_)
  refine ⟨_, h.cell 2 rfl rfl, c87.mono ?_⟩
  rintro _ w42 ⟨rfl, rfl⟩
  refine ⟨_, rfl, ?_⟩
  refine JoinW.cut1 (fun (x : Bool) w' => x = decide (amongB 4 c.Rights = false ∨ amongB o.Rights c.Rights = false) ∧ w' = w42) ?_ ?_
  · refine BIf.of (fun hx => ⟨(decide_eq_true (.inl (by simpa using hx))).symm, rfl⟩) (fun hx => ⟨_, h.cell 3 rfl rfl, _, h.cell 2 rfl rfl, c87.mono ?_⟩)
    rintro _ w130 ⟨rfl, rfl⟩
    refine ⟨_, rfl, ?_, rfl⟩
    rw [Bool.eq_iff_iff]
    simp at hx
    simp [hx]
  rintro (x : Bool) w46 ⟨rfl, rfl⟩
  refine BIf.dec (fun hpm => errS (M := [_, _]) (by unfold giveI; rw [if_neg hbd, if_pos hpm]) h) (fun hpm => ?_)
  refine ⟨tc, h.cell 4 rfl rfl, BIf.dec (fun hfull => errS (M := [_, _]) (by unfold giveI; rw [if_neg hbd, if_neg hpm, if_pos (by show 128 ≤ r.Caps.length; omega)]) h) (fun hfull => ?_)⟩
  have hres : giveI r.abs o c = (addCap r.abs o.To c.Port o.Rights c.Id, resN (r.Next + 1)) := by unfold giveI; rw [if_neg hbd, if_neg hpm, if_neg (by show ¬ 128 ≤ r.Caps.length; omega)]; rfl
  rw [hres]
  refine ⟨_, h.cell 4 rfl rfl, tp, h.cell 4 rfl rfl, tc, h.cell 4 rfl rfl, tq, h.cell 4 rfl rfl, _, h.cell 3 rfl rfl, _, h.cell 2 rfl rfl, _, h.cell 3 rfl rfl, _, h.cell 2 rfl rfl, ?_⟩
  refine (s96 ((((((((h.fro 6 rfl).fro 6 rfl).fro 6 rfl).fro 6 rfl).fro 6 rfl).fro 6 rfl).fro 6 rfl).fro 7 rfl) hn.1 hn.2 hf).mono ?_
  rintro _ w105 ⟨tc2, rfl, h⟩
  refine ⟨_, tp, tc2, tq, rfl, ?_⟩
  refine h.put 5 rfl rfl rfl (fun w110 h n110 => ?_)
  have h := h.drew
  refine ⟨_, h.cell 5 rfl rfl, tp, h.cell 5 rfl rfl, tc2, h.cell 5 rfl rfl, tq, h.cell 5 rfl rfl, _, h.cell 5 rfl rfl, ?_⟩
  refine h.put 2 rfl rfl rfl (fun w116 h n116 => ?_)
  refine ⟨⟨_, h.cell 5 rfl rfl, rfl⟩, ?_⟩
  refine h.put 1 rfl rfl rfl (fun w118 h n118 => ?_)
  refine ⟨_, h.cell 2 rfl rfl, tp, h.cell 2 rfl rfl, tc2, h.cell 2 rfl rfl, tq, h.cell 2 rfl rfl, _, h.cell 1 rfl rfl, _, h.cell 1 rfl rfl, N0, h.cell 1 rfl rfl, _, h.cell 1 rfl rfl, ?_⟩
  have h := (((((((((h.dropAt 5).dropAt 4).dropAt 3).dropAt 2).dropAt 1).fro 0 rfl).fro 2 rfl).fro 2 rfl)).nil none 1
  refine ⟨tp, tc2, tq, N0, ⟨r.Next + 1, r.Ports, r.Caps ++ [⟨r.Next + 1, o.To, c.Port, o.Rights, c.Id⟩], r.Pipes⟩, rfl, rfl, ?_⟩
  exact h
end Go.Proofs.Ytbimoajgofcmbaa

namespace Go.Proofs.Ytbimoajgofcmbaa
open Go Go.Den
set_option maxHeartbeats 2000000 in
theorem s117 {w0 w : World} {F : List Asr} {tp tc tq td : Sl} {r : RIpc} {o : DIpcOp} {c : DCap} {k0 : Nat} (h : SH w0 w (sP tp tc tq r ++ F)) (hw : IWf r.abs) (hi : IOk r.abs) (hb : ByAt w0 td o.Data) (hbs : o.Data.length ≤ 1048576) (c2 : r.abs.Caps[k0]? = some c) :
    CallW Try.prog 117 #[iV r.Next tp tc tq, .agg ⟨opV o td⟩, .agg ⟨c.cells⟩] w (KS w0 F (sendI r.abs o c)) := by
  refine go117 (a0_0 := r.Next) (a0_1 := tp) (a0_2 := tc) (a0_3 := tq) (a1_0 := o.Kind) (a1_1 := o.Holder) (a1_2 := o.Id) (a1_3 := o.To) (a1_4 := o.Rights) (a1_5 := o.Cap) (a1_6 := o.N) (a1_7 := td) (a2_0 := c.Id) (a2_1 := c.Holder) (a2_2 := c.Port) (a2_3 := c.Rights) (a2_4 := c.Parent) ?_
  unfold W117; (try delta qn ql qb qi qS qI qP qQ qR qU qA qC H117_2 H117_1 H117_0 H117_3 H117_4)
  have h : SH w0 w (rP tp r.Ports :: bP r.Ports :: rC tc r.Caps :: rQ tq r.Pipes :: bQ r.Pipes :: F) := h
  have hfc : r.Caps.length ≤ 128 := hi.caps
  have hfp : r.Ports.length ≤ 32 := by rw [← abs_ports]; exact hi.ports
  have hdl := hb.len
  have htp := h.len 0 rfl
  have hcl := h.len 2 rfl
  rw [recs_len] at hcl htp
  refine h.alloc (fun w1 h e1 n1 => ?_)
  refine h.alloc (fun w2 h e2 n2 => ?_)
  refine h.alloc (fun w3 h e3 n3 => ?_)
  refine h.alloc (fun w4 h e4 n4 => ?_)
  refine h.alloc (fun w5 h e5 n5 => ?_)
  have h : SH w0 w5 (BR w4.heap.size 0 0 N0 0 :: BI w3.heap.size 0 N0 N0 N0 :: BC w2.heap.size c :: BO w1.heap.size o td :: BI w.heap.size r.Next tp tc tq :: rP tp r.Ports :: bP r.Ports :: rC tc r.Caps :: rQ tq r.Pipes :: bQ r.Pipes :: F) := h
  generalize w4.heap.size = rb at *
  generalize w3.heap.size = ib at *
  generalize w2.heap.size = cb at *
  generalize w1.heap.size = ob at *
  generalize w.heap.size = b at *
  refine ⟨_, h.cell 2 rfl rfl, c87.mono ?_⟩
  rintro _ w8 ⟨rfl, rfl⟩
  refine ⟨_, rfl, ?_⟩
  refine BIf.of (fun hx => errS (M := [_, _]) (by unfold sendI; rw [if_pos (by simpa using hx)]) h) (fun hx => ?_)
  have ha1 : ¬ amongB 1 c.Rights = false := by simpa using hx
  refine ⟨td, h.cell 3 rfl rfl, BIf.dec (fun hl => errS (M := [_, _]) (by unfold sendI; rw [if_neg ha1, if_pos (by omega)]) h) (fun hl => ?_)⟩
  refine JoinW.cut0 (fun w' => sendI r.abs o c = pushI r.abs o c ∧ SH w0 w' (BR rb 0 0 N0 0 :: BI ib 0 N0 N0 N0 :: BC cb c :: BO ob o td :: BI b r.Next tp tc tq :: rP tp r.Ports :: bP r.Ports :: rC tc r.Caps :: rQ tq r.Pipes :: bQ r.Pipes :: F)) ?_ ?_
  · have hat : IpcAt w8 tp tc tq r.abs := ipc_at (F := F) (SH.drop (SH.drop (SH.drop (SH.drop (SH.drop h))))) hw
    refine ⟨_, h.cell 3 rfl rfl, BIf.ne (fun hc0 => ?_) (fun hc0 => ⟨by unfold sendI; rw [if_neg ha1, if_neg (by omega), if_neg (by omega)], h⟩)⟩
    refine ⟨_, h.cell 4 rfl rfl, tp, h.cell 4 rfl rfl, tc, h.cell 4 rfl rfl, tq, h.cell 4 rfl rfl, _, h.cell 3 rfl rfl, (c86 hat).mono ?_⟩
    rintro _ w186 ⟨rfl, e186⟩
    have h := (h.to e186)
    refine ⟨_, rfl, ?_⟩
    rcases capIx_cases r.abs o.Cap with ⟨e1, e2, e3⟩ | ⟨k2, c', e1, e2, e3, e4⟩
    · rw [e1]
      have h := h.drew
      refine JoinW.cut1 (fun (x : Bool) w' => x = true ∧ w' = w186.drew) (BIf.t rfl ⟨rfl, rfl⟩) ?_
      rintro (x : Bool) w190 ⟨rfl, rfl⟩
      exact BIf.t rfl (errS (M := [_, _]) (by unfold sendI; rw [if_neg ha1, if_neg (by omega), if_pos hc0, e2]) h)
    · have e2 : r.Caps[k2]? = some c' := e2
      have hlk : k2 < r.Caps.length := (List.getElem?_eq_some_iff.1 e2).1
      have h := h.drew
      obtain ⟨q, hq⟩ := h.rowQ 7 rfl e2
      rw [e1]
      simp only [Int.toNat_natCast]
      refine JoinW.cut1 (fun (x : Bool) w' => x = (c'.Holder != o.Holder) ∧ w' = w186.drew) (BIf.f (by simp) ⟨tc, h.cell 4 rfl rfl, by omega, by omega, q, hq, _, h.rdR 7 rfl hq e2 rfl, _, h.cell 3 rfl rfl, rfl, rfl⟩) ?_
      rintro (x : Bool) w190 ⟨rfl, rfl⟩
      refine BIf.ne (fun hh => errS (M := [_, _]) (by unfold sendI; rw [if_neg ha1, if_neg (by omega), if_pos hc0, e3]; exact if_pos hh) h) (fun hh => ?_)
      refine ⟨tc, h.cell 4 rfl rfl, by omega, by omega, q, hq, _, h.rdR 7 rfl hq e2 rfl, c87.mono ?_⟩
      rintro _ w219 ⟨rfl, rfl⟩
      refine ⟨_, rfl, ?_⟩
      refine BIf.of (fun hx4 => errS (M := [_, _]) (by unfold sendI; rw [if_neg ha1, if_neg (by omega), if_pos hc0, e3]; dsimp only; rw [if_neg (by omega), if_pos (by simpa using hx4)]) h) (fun hx4 => ⟨?_, h⟩)
      unfold sendI; rw [if_neg ha1, if_neg (by omega), if_pos hc0, e3]; dsimp only; rw [if_neg (by omega), if_neg (by simpa using hx4)]
  clear h
  rintro w60 ⟨hst2, h⟩
  refine LoopW.m2 (fun (bb : Bool) (i : Int) w' => ∃ k : Nat, i = k ∧ k ≤ r.Caps.length ∧ bb = (r.Caps.take k).any (fun x => x.Port == c.Port && amongB 2 x.Rights) ∧ SH w0 w' (BR rb 0 0 N0 0 :: BI ib 0 N0 N0 N0 :: BC cb c :: BO ob o td :: BI b r.Next tp tc tq :: rP tp r.Ports :: bP r.Ports :: rC tc r.Caps :: rQ tq r.Pipes :: bQ r.Pipes :: F)) (fun _ (i : Int) _ => (r.Caps.length - i).toNat) ⟨0, rfl, by omega, rfl, h⟩ ?_
  clear h
  rintro (bb : Bool) (i : Int) wl ⟨k, rfl, hk, hbb, h⟩ J hJ
  refine ⟨tc, h.cell 4 rfl rfl, BIf.dec (fun hlt => ?_) (fun hge => ?_)⟩
  · have hget : r.Caps[k]? = some r.Caps[k] := List.getElem?_eq_getElem (by omega)
    generalize r.Caps[k] = y at *
    have hany := any_snoc (fun x : DCap => x.Port == c.Port && amongB 2 x.Rights) hget
    have h := h.drew
    obtain ⟨q, hq⟩ := h.rowQ 7 rfl hget
    simp only [Int.toNat_natCast]
    rw [w64 (n := (k : Int) + 1) (by omega) (by omega)]
    refine BIf.of (fun hx => hJ _ _ _ ⟨k + 1, by omega, by omega, by rw [hany, ← hbb, hx]; rfl, h⟩ (by omega)) (fun hx => ?_)
    refine ⟨tc, h.cell 4 rfl rfl, by omega, by omega, q, hq, _, h.rdR 7 rfl hq hget rfl, _, h.cell 2 rfl rfl, ?_⟩
    refine BIf.of (fun he => ?_) (fun he => hJ _ _ _ ⟨k + 1, by omega, by omega, by rw [hany, ← hbb, hx, he]; rfl, h⟩ (by omega))
    refine ⟨tc, h.cell 4 rfl rfl, by omega, by omega, q, hq, _, h.rdR 7 rfl hq hget rfl, c87.mono ?_⟩
    rintro _ w74 ⟨rfl, rfl⟩
    refine ⟨_, rfl, ?_⟩
    exact hJ _ _ _ ⟨k + 1, by omega, by omega, by rw [hany, ← hbb, hx, he]; rfl, h⟩ (by omega)
  have hke : k = r.Caps.length := by omega
  rw [hke, List.take_length] at hbb
  have hbb : bb = heardB r.abs c := hbb
  subst hbb
  clear hJ
  refine BIf.of (fun hhd => errS (M := [_, _]) (by rw [hst2]; unfold pushI; rw [if_pos (by simpa using hhd)]) h) (fun hhd => ?_)
  have hhd2 : ¬ heardB r.abs c = false := by simpa using hhd
  have hat2 : IpcAt wl tp tc tq r.abs := ipc_at (F := F) (SH.drop (SH.drop (SH.drop (SH.drop (SH.drop h))))) hw
  refine ⟨_, h.cell 4 rfl rfl, tp, h.cell 4 rfl rfl, tc, h.cell 4 rfl rfl, tq, h.cell 4 rfl rfl, _, h.cell 2 rfl rfl, (c85 hat2).mono ?_⟩
  rintro _ w106 ⟨rfl, e106⟩
  have h := h.to e106
  refine ⟨_, rfl, ?_⟩
  rcases portIx_cases r.abs c.Port with ⟨e1, e2, e3⟩ | ⟨kp, P, e1, e2, e3, e4⟩
  · have := (hi.cap k0 c c2).port
    omega
  obtain ⟨x, hx, rfl⟩ := map_get e2
  have hx : r.Ports[kp]? = some x := hx
  have hlk : kp < r.Ports.length := (List.getElem?_eq_some_iff.1 hx).1
  have hq8 : x.Q.length ≤ 8 := by have := (hi.port kp x.abs e2).few; have e : x.abs.Queue.length = x.Q.length := List.length_map ..; omega
  obtain ⟨q, hq⟩ := h.rowQ 5 rfl hx
  rw [e1]
  simp only [Int.toNat_natCast]
  refine ⟨tp, h.cell 4 rfl rfl, by omega, by omega, q, hq, x.q, h.rdR 5 rfl hq hx rfl, ?_⟩
  have g : SH w0 w106 (rM x.q x.Q :: bM x.Q :: bP (r.Ports.eraseIdx kp) :: BR rb 0 0 N0 0 :: BI ib 0 N0 N0 N0 :: BC cb c :: BO ob o td :: BI b r.Next tp tc tq :: rP tp r.Ports :: rC tc r.Caps :: rQ tq r.Pipes :: bQ r.Pipes :: F) := SH.allOut (As := [rM x.q x.Q, bM x.Q]) (((((((((h.fro 5 rfl).fro 5 rfl).fro 5 rfl).fro 5 rfl).fro 5 rfl).fro 5 rfl).fro 6 rfl)).bagOut hx)
  have hql := g.len 0 rfl
  rw [recs_len] at hql
  have hqa : x.abs.Queue.length = x.Q.length := List.length_map ..
  refine BIf.dec (fun h8 => errS (M := [_, _]) (by rw [hst2]; unfold pushI; rw [if_neg hhd2, e3]; exact if_pos (by omega)) h) (fun h8 => ?_)
  have hres : sendI r.abs o c = (setQ r.abs kp x.abs (x.abs.Queue ++ [⟨o.Holder, o.Data, o.Cap⟩]), resN 0) := by
    rw [hst2]; unfold pushI; rw [if_neg hhd2, e3, e1, Int.toNat_natCast]; exact if_neg (by omega)
  rw [hres]
  clear h
  have g := g.drew
  refine ⟨tp, g.cell 7 rfl rfl, tp, g.cell 7 rfl rfl, by omega, by omega, q, hq, x.q, g.rdR 8 rfl hq hx rfl, _, g.cell 6 rfl rfl, td, g.cell 6 rfl rfl, _, g.cell 6 rfl rfl, ?_⟩
  refine g.alloc (fun w142 g e142 n142 => ?_)
  refine ⟨⟨_, g.cell 7 rfl rfl, rfl⟩, ⟨td, g.cell 7 rfl rfl, rfl⟩, ⟨_, g.cell 7 rfl rfl, rfl⟩, ⟨x.q, g.rdR 9 rfl hq hx rfl, rfl⟩, ⟨tp, g.cell 8 rfl rfl, rfl⟩, ⟨tp, g.cell 8 rfl rfl, rfl⟩, ?_⟩
  refine SH.appendN (k := .u8) (m := []) (us := o.Data) (g.drop.nil (some ⟨w106.drew.heap.size, 0, none⟩) 1) (hb.ext g.ext).row rfl rfl (by decide) (by show (_ + _) * 1 ≤ _; simp; omega) (fun t149 w150 g ht149 _ => ?_)
  refine ⟨⟨_, g.cell 7 rfl rfl, rfl⟩, ⟨_, g.cell 7 rfl rfl, rfl⟩, ⟨x.q, g.rdR 9 rfl hq hx rfl, rfl⟩, ⟨tp, g.cell 8 rfl rfl, rfl⟩, ⟨tp, g.cell 8 rfl rfl, rfl⟩, ?_⟩
  refine g.alloc (fun w156 g e156 n156 => ?_)
  have hrow : RowAt w156 (some ⟨w150.heap.size, 0, none⟩) (1 * 3) ([(⟨o.Holder, t149, o.Cap, o.Data⟩ : RMsg)].flatMap RMsg.cells) := row_one (g.blkAt 0 rfl) rfl
  refine ⟨⟨x.q, g.rdR 10 rfl hq hx rfl, rfl⟩, ⟨tp, g.cell 9 rfl rfl, rfl⟩, ⟨tp, g.cell 9 rfl rfl, rfl⟩, ?_⟩
  refine SH.appendR (f := RMsg.cells) (us := [⟨o.Holder, t149, o.Cap, o.Data⟩]) (g.drop.p1) hrow rfl (fun _ => rfl) rfl rfl (by decide) (by show (_ + _) * 40 ≤ _; simp; omega) plain_msg (fun q2 w161 g hq2l _ => ?_)
  refine ⟨⟨tp, g.cell 8 rfl rfl, rfl⟩, by omega, by omega, q, hq, ?_⟩
  have g : SH w0 w161 (rM q2 (x.Q ++ [⟨o.Holder, t149, o.Cap, o.Data⟩]) :: rD t149 o.Data :: bM x.Q :: bP (r.Ports.eraseIdx kp) :: BR rb 0 0 N0 0 :: BI ib 0 N0 N0 N0 :: BC cb c :: BO ob o td :: BI b r.Next tp tc tq :: rP tp (r.Ports.set kp x) :: rC tc r.Caps :: rQ tq r.Pipes :: bQ r.Pipes :: F) := by rw [← set_at hx]; exact g
  refine g.setR 9 (⟨x.Id, q2, x.Q ++ [⟨o.Holder, t149, o.Cap, o.Data⟩]⟩ : RPort) rfl hq hlk (by show 1 < 2; omega) rfl (fun w164 g n164 => ?_)
  have g : SH w0 w164 (rM q2 (x.Q ++ [⟨o.Holder, t149, o.Cap, o.Data⟩]) :: rD t149 o.Data :: bM x.Q :: bP (r.Ports.eraseIdx kp) :: BR rb 0 0 N0 0 :: BI ib 0 N0 N0 N0 :: BC cb c :: BO ob o td :: BI b r.Next tp tc tq :: rP tp (r.Ports.set kp ⟨x.Id, q2, x.Q ++ [⟨o.Holder, t149, o.Cap, o.Data⟩]⟩) :: rC tc r.Caps :: rQ tq r.Pipes :: bQ r.Pipes :: F) := g
  refine ⟨_, g.cell 8 rfl rfl, tp, g.cell 8 rfl rfl, tc, g.cell 8 rfl rfl, tq, g.cell 8 rfl rfl, ?_⟩
  refine g.put 5 rfl rfl rfl (fun w169 g n169 => ?_)
  refine g.put 4 rfl rfl rfl (fun w170 g n170 => ?_)
  refine ⟨_, g.cell 5 rfl rfl, tp, g.cell 5 rfl rfl, tc, g.cell 5 rfl rfl, tq, g.cell 5 rfl rfl, _, g.cell 4 rfl rfl, _, g.cell 4 rfl rfl, N0, g.cell 4 rfl rfl, _, g.cell 4 rfl rfl, ?_⟩
  have g : SH w0 w170 (rM q2 (x.Q ++ [⟨o.Holder, t149, o.Cap, o.Data⟩]) :: rD t149 o.Data :: bM x.Q :: bP (r.Ports.eraseIdx kp) :: BR rb 0 0 N0 0 :: BI ib r.Next tp tc tq :: BC cb c :: BO ob o td :: BI b r.Next tp tc tq :: rP tp (r.Ports.set kp ⟨x.Id, q2, x.Q ++ [⟨o.Holder, t149, o.Cap, o.Data⟩]⟩) :: rC tc r.Caps :: rQ tq r.Pipes :: bQ r.Pipes :: F) := g
  have g := SH.bagSnoc (f := msgA) (x := (⟨o.Holder, t149, o.Cap, o.Data⟩ : RMsg)) (((g.fro 0 rfl).fro 2 rfl).fro 2 rfl)
  have g := SH.bagIn (f := portA) (y := (⟨x.Id, q2, x.Q ++ [⟨o.Holder, t149, o.Cap, o.Data⟩]⟩ : RPort)) hx (SH.allIn (As := [rM q2 (x.Q ++ [⟨o.Holder, t149, o.Cap, o.Data⟩]), bM (x.Q ++ [⟨o.Holder, t149, o.Cap, o.Data⟩])]) g.p1)
  have g := ((((((((g.dropAt 5).dropAt 4).dropAt 3).dropAt 2).dropAt 1).fro 0 rfl).fro 1 rfl)).nil none 1
  refine ⟨tp, tc, tq, N0, ⟨r.Next, r.Ports.set kp ⟨x.Id, q2, x.Q ++ [⟨o.Holder, t149, o.Cap, o.Data⟩]⟩, r.Caps, r.Pipes⟩, rfl, ?_, ?_⟩
  · unfold RIpc.abs setQ
    rw [List.map_set]
    unfold RPort.abs
    rw [List.map_append]
    rfl
  · exact g
end Go.Proofs.Ytbimoajgofcmbaa
