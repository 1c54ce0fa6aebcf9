/- Part 4 of 5: plain readings of code, rules for them, and a proof over them, joined by a program. Conditions: none. -/
import Derived.Test.YtenhcpjlkmbedaaCache3
/- A cache of sectors (plain): what a step does, and that room does not matter. Conditions: none. -/
namespace Go.Cc
structure Line where
  Sector : Int
  Used : Int
  Dirty : Bool
  Pins : Int
  Data : List Int
structure Cache where
  Cap : Int
  Clock : Int
  Disk : List Int
  Lines : List Line
structure COp where
  Kind : Int
  Sector : Int
  At : Int
  N : Int
  Data : List Int
structure Wr where
  Sector : Int
  Data : List Int
structure Res where
  Code : Int
  Data : List Int
  Writes : List Wr
def secOf (d : List Int) (s : Nat) : List Int := (d.drop (128 * s)).take 128
/-- Bytes written over others. -/
def over (d : List Int) (at_ : Nat) (x : List Int) : List Int := d.take at_ ++ x ++ d.drop (at_ + x.length)
def putSec (d : List Int) (s : Nat) (x : List Int) : List Int := over d (128 * s) x
def ixOf (ls : List Line) (s : Int) : Option Nat := ls.findIdx? (fun l => l.Sector == s)
def better (k : Nat) (l : Line) (b : Option (Nat × Int)) : Option (Nat × Int) := match b with
  | none => some (k, l.Used)
  | some b => if l.Used < b.2 then some (k, l.Used) else some b
/-- Who goes: the one used longest ago of those without a pin; the first of them. -/
def oldest : List Line → Nat → Option (Nat × Int) → Option (Nat × Int)
  | [], _, best => best
  | l :: r, k, best => oldest r (k + 1) (if l.Pins = 0 then better k l best else best)
def wrL (c : Cache) (i : Nat) (l : Line) : Cache × List Wr := if l.Dirty then (⟨c.Cap, c.Clock, putSec c.Disk l.Sector.toNat l.Data, c.Lines.set i ⟨l.Sector, l.Used, false, l.Pins, l.Data⟩⟩, [⟨l.Sector, l.Data⟩]) else (c, [])
def cutL (c : Cache) (i : Nat) : Cache := ⟨c.Cap, c.Clock, c.Disk, c.Lines.eraseIdx i⟩
def place (ls : List Line) (s : Int) : Nat := (ls.takeWhile (fun l => decide (l.Sector < s))).length
def insL (c : Cache) (s : Int) : Cache := ⟨c.Cap, c.Clock + 1, c.Disk, c.Lines.take (place c.Lines s) ++ [⟨s, c.Clock + 1, false, 0, secOf c.Disk s.toNat⟩] ++ c.Lines.drop (place c.Lines s)⟩
def touch (c : Cache) (i : Nat) (l : Line) : Cache := ⟨c.Cap, c.Clock + 1, c.Disk, c.Lines.set i ⟨l.Sector, c.Clock + 1, l.Dirty, l.Pins, l.Data⟩⟩
/-- There is room, or somebody goes. -/
def room (c : Cache) : Option (Cache × List Wr) := if (c.Lines.length : Int) = c.Cap then (match oldest c.Lines 0 none with
  | none => none
  | some (o, _) => match c.Lines[o]? with
    | none => none
    | some l => some (cutL (wrL c o l).1 o, (wrL c o l).2)) else some (c, [])
def fetch (c : Cache) (s : Int) : Option (Cache × Nat × List Wr) := match ixOf c.Lines s with
  | some i => (match c.Lines[i]? with
    | none => none
    | some l => some (touch c i l, i, []))
  | none => match room c with
    | none => none
    | some (c1, w) => some (insL c1 s, place c1.Lines s, w)
def opLen (o : COp) : Int := if o.Kind = 2 then (o.Data.length : Int) else o.N
def BadArg (n : Nat) (o : COp) : Prop := o.Kind < 1 ∨ 7 < o.Kind ∨ (o.Kind < 7 ∧ (o.Sector < 0 ∨ (n : Int) ≤ o.Sector)) ∨ (o.Kind ≤ 2 ∧ (o.At < 0 ∨ opLen o < 0 ∨ 128 < o.At ∨ 128 - o.At < opLen o))
instance (n : Nat) (o : COp) : Decidable (BadArg n o) := by unfold BadArg; infer_instance
/-! ## What is kept -/
structure LOk (n : Nat) (disk : List Int) (clock : Int) (l : Line) : Prop where
  s0 : 0 ≤ l.Sector
  sn : l.Sector < n
  len : l.Data.length = 128
  pins : l.Pins = 0
  u1 : 1 ≤ l.Used
  un : l.Used ≤ clock
  clean : l.Dirty = false → l.Data = secOf disk l.Sector.toNat
structure LsOk (n : Nat) (disk : List Int) (clock : Int) (ls : List Line) : Prop where
  each : ∀ l, l ∈ ls → LOk n disk clock l
  srt : ls.Pairwise (fun a b => a.Sector < b.Sector)
  dif : ls.Pairwise (fun a b => a.Used ≠ b.Used)
structure COk (n : Nat) (c : Cache) : Prop where
  cap : 1 ≤ c.Cap
  clock : 0 ≤ c.Clock
  disk : c.Disk.length = 128 * n
  few : (c.Lines.length : Int) ≤ c.Cap
  ls : LsOk n c.Disk c.Clock c.Lines
/-- What is seen of a sector. -/
def view (disk : List Int) (ls : List Line) (s : Nat) : List Int := match ls.find? (fun l => l.Sector == (s : Int)) with
  | some l => l.Data
  | none => secOf disk s
def look (c : Cache) : Nat → List Int := view c.Disk c.Lines
theorem over_len {d x : List Int} {k : Nat} (h : k + x.length ≤ d.length) : (over d k x).length = d.length := by
  unfold over
  rw [List.length_append, List.length_append, List.length_take, List.length_drop]
  omega
theorem sec_len {d : List Int} {n s : Nat} (hd : d.length = 128 * n) (hs : s < n) : (secOf d s).length = 128 := by
  unfold secOf
  rw [List.length_take, List.length_drop]
  omega
theorem sec_get {d : List Int} {s j : Nat} (hj : j < 128) : (secOf d s)[j]? = d[128 * s + j]? := by
  unfold secOf
  rw [List.getElem?_take_of_lt hj, List.getElem?_drop]
theorem over_get {d x : List Int} {k j : Nat} (h : k + x.length ≤ d.length) : (over d k x)[j]? = if j < k then d[j]? else if j < k + x.length then x[j - k]? else d[j]? := by
  unfold over
  have hl : (d.take k).length = k := by rw [List.length_take]; omega
  split
  · rename_i h1
    rw [List.getElem?_append_left (by rw [List.length_append, hl]; omega), List.getElem?_append_left (by omega), List.getElem?_take_of_lt h1]
  · split
    · rename_i h1 h2
      rw [List.getElem?_append_left (by rw [List.length_append, hl]; omega), List.getElem?_append_right (by omega), hl]
    · rename_i h1 h2
      rw [List.getElem?_append_right (by rw [List.length_append, hl]; omega), List.length_append, hl, List.getElem?_drop]
      congr 1; omega
theorem sec_put {d x : List Int} {n s t : Nat} (hd : d.length = 128 * n) (hs : s < n) (hx : x.length = 128) : secOf (putSec d s x) t = if t = s then x else secOf d t := by
  have hle : 128 * s + x.length ≤ d.length := by omega
  apply List.ext_getElem?
  intro j
  by_cases hj : j < 128
  · rw [sec_get hj]
    unfold putSec
    rw [over_get hle, hx]
    by_cases hts : t = s
    · subst hts
      rw [if_pos rfl, if_neg (by omega), if_pos (by omega)]
      congr 1; omega
    · rw [if_neg hts, sec_get hj]
      by_cases hlt : t < s
      · rw [if_pos (by omega)]
      · rw [if_neg (by omega), if_neg (by omega)]
  · have h1 : (secOf (putSec d s x) t).length ≤ 128 := by unfold secOf; rw [List.length_take]; omega
    rw [List.getElem?_eq_none (by omega)]
    split
    · rw [List.getElem?_eq_none (by omega)]
    · have h2 : (secOf d t).length ≤ 128 := by unfold secOf; rw [List.length_take]; omega
      rw [List.getElem?_eq_none (by omega)]
end Go.Cc

/- A cache of sectors (plain): fetching a sector changes nothing of what is seen. Conditions: none. -/
namespace Go.Cc
def app (d : List Int) (w : List Wr) : List Int := w.foldl (fun d x => putSec d x.Sector.toNat x.Data) d
def WrOk (n : Nat) (w : List Wr) : Prop := ∀ x, x ∈ w → 0 ≤ x.Sector ∧ x.Sector < n ∧ x.Data.length = 128
theorem mem_set_ne {ls : List Line} {i : Nat} {l y z : Line} (hl : ls[i]? = some l) (hz : z ∈ ls) (hne : z ≠ l) : z ∈ ls.set i y := by
  obtain ⟨j, hj⟩ := List.getElem?_of_mem hz
  have hij : i ≠ j := fun e => by subst e; rw [hl] at hj; cases hj; exact hne rfl
  exact List.mem_of_getElem? (by rw [List.getElem?_set_ne hij]; exact hj)
theorem mem_set_self {ls : List Line} {i : Nat} {l y : Line} (hl : ls[i]? = some l) : y ∈ ls.set i y :=
  List.mem_of_getElem? (List.getElem?_set_self (List.getElem?_eq_some_iff.1 hl).1)
theorem LsOk.uniq {n : Nat} {d : List Int} {k : Int} {ls : List Line} (h : LsOk n d k ls) {x y : Line} (hx : x ∈ ls) (hy : y ∈ ls) (e : x.Sector = y.Sector) : x = y := by
  obtain ⟨i, hi⟩ := List.getElem?_of_mem hx
  obtain ⟨j, hj⟩ := List.getElem?_of_mem hy
  obtain ⟨h1, e1⟩ := List.getElem?_eq_some_iff.1 hi
  obtain ⟨h2, e2⟩ := List.getElem?_eq_some_iff.1 hj
  have hp := List.pairwise_iff_getElem.1 h.srt
  rcases Nat.lt_trichotomy i j with hlt | hee | hlt
  · have := hp i j h1 h2 hlt; rw [e1, e2] at this; omega
  · subst hee; rw [← e1, ← e2]
  · have := hp j i h2 h1 hlt; rw [e1, e2] at this; omega
theorem view_in {n : Nat} {d : List Int} {k : Int} {ls : List Line} (h : LsOk n d k ls) {l : Line} (hl : l ∈ ls) : view d ls l.Sector.toNat = l.Data := by
  have h0 := (h.each l hl).s0
  unfold view
  cases hf : ls.find? (fun x => x.Sector == ((l.Sector.toNat : Nat) : Int)) with
  | none =>
    have := List.find?_eq_none.1 hf l hl
    exfalso; apply this
    rw [beq_iff_eq]; omega
  | some x =>
    have h1 := List.find?_some hf
    have h2 := List.mem_of_find?_eq_some hf
    rw [beq_iff_eq] at h1
    have := h.uniq h2 hl (by omega)
    rw [this]
theorem view_out {d : List Int} {ls : List Line} {s : Nat} (h : ∀ l, l ∈ ls → l.Sector ≠ s) : view d ls s = secOf d s := by
  unfold view
  cases hf : ls.find? (fun x => x.Sector == (s : Int)) with
  | none => rfl
  | some x =>
    have h1 := List.find?_some hf
    rw [beq_iff_eq] at h1
    exact absurd h1 (h x (List.mem_of_find?_eq_some hf))
theorem view_cases {n : Nat} {d : List Int} {k : Int} {ls : List Line} (h : LsOk n d k ls) (s : Nat) : (∃ l, l ∈ ls ∧ l.Sector = (s : Int) ∧ view d ls s = l.Data) ∨ ((∀ l, l ∈ ls → l.Sector ≠ s) ∧ view d ls s = secOf d s) := by
  by_cases hx : ∃ l, l ∈ ls ∧ l.Sector = (s : Int)
  · obtain ⟨l, hl, e⟩ := hx
    refine .inl ⟨l, hl, e, ?_⟩
    have := view_in h hl
    rwa [e, Int.toNat_natCast] at this
  · have hno : ∀ l, l ∈ ls → l.Sector ≠ s := fun l hl e => hx ⟨l, hl, e⟩
    exact .inr ⟨hno, view_out hno⟩
theorem set_id {α : Type} {l : List α} {i : Nat} {x : α} (h : l[i]? = some x) : l.set i x = l := by
  apply List.ext_getElem?
  intro j
  by_cases hij : i = j
  · subst hij
    rw [List.getElem?_set_self (List.getElem?_eq_some_iff.1 h).1, h]
  · rw [List.getElem?_set_ne hij]
theorem LsOk.set {n : Nat} {d d' : List Int} {k k' : Int} {ls : List Line} {i : Nat} {l y : Line} (h : LsOk n d k ls) (hl : ls[i]? = some l) (hy : y.Sector = l.Sector) (hok : LOk n d' k' y)
    (ho : ∀ z, z ∈ ls → z ≠ l → LOk n d' k' z ∧ z.Used ≠ y.Used) : LsOk n d' k' (ls.set i y) := by
  have hlm := List.mem_of_getElem? hl
  have oth : ∀ {j : Nat} {z : Line}, j ≠ i → ls[j]? = some z → z ∈ ls ∧ z ≠ l := fun {j z} hj hz => by
    refine ⟨List.mem_of_getElem? hz, fun e => ?_⟩
    subst e
    obtain ⟨h1, e1⟩ := List.getElem?_eq_some_iff.1 hz
    obtain ⟨h2, e2⟩ := List.getElem?_eq_some_iff.1 hl
    have hp := List.pairwise_iff_getElem.1 h.srt
    rcases Nat.lt_trichotomy i j with hlt | hee | hlt
    · have := hp i j h2 h1 hlt; rw [e1, e2] at this; omega
    · exact hj hee.symm
    · have := hp j i h1 h2 hlt; rw [e1, e2] at this; omega
  refine ⟨fun z hz => ?_, ?_, ?_⟩
  · obtain ⟨j, hj⟩ := List.getElem?_of_mem hz
    by_cases hij : i = j
    · subst hij
      rw [List.getElem?_set_self (List.getElem?_eq_some_iff.1 hl).1] at hj
      cases hj; exact hok
    · rw [List.getElem?_set_ne hij] at hj
      obtain ⟨a, b⟩ := oth (Ne.symm hij) hj
      exact (ho z a b).1
  · have e : (ls.set i y).map Line.Sector = ls.map Line.Sector := by
      rw [List.map_set, hy]
      exact set_id (by rw [List.getElem?_map, hl]; rfl)
    have h1 : ((ls.set i y).map Line.Sector).Pairwise (· < ·) := by rw [e]; exact List.pairwise_map.2 h.srt
    exact List.pairwise_map.1 h1
  · rw [List.pairwise_iff_getElem]
    intro a b ha hb hab
    rw [List.length_set] at ha hb
    have hp := List.pairwise_iff_getElem.1 h.dif a b ha hb hab
    rw [List.getElem_set, List.getElem_set]
    split
    · rename_i h1
      split
      · omega
      · rename_i h2
        obtain ⟨m1, m2⟩ := oth (j := b) (fun e => h2 e.symm) (List.getElem?_eq_getElem hb)
        exact fun e => (ho _ m1 m2).2 e.symm
    · rename_i h1
      split
      · obtain ⟨m1, m2⟩ := oth (j := a) (fun e => h1 e.symm) (List.getElem?_eq_getElem ha)
        exact (ho _ m1 m2).2
      · exact hp
theorem dif_of {n : Nat} {d : List Int} {k : Int} {ls : List Line} (h : LsOk n d k ls) {x y : Line} (hx : x ∈ ls) (hy : y ∈ ls) (hne : x ≠ y) : x.Used ≠ y.Used := by
  obtain ⟨i, hi⟩ := List.getElem?_of_mem hx
  obtain ⟨j, hj⟩ := List.getElem?_of_mem hy
  obtain ⟨h1, e1⟩ := List.getElem?_eq_some_iff.1 hi
  obtain ⟨h2, e2⟩ := List.getElem?_eq_some_iff.1 hj
  have hp := List.pairwise_iff_getElem.1 h.dif
  rcases Nat.lt_trichotomy i j with hlt | hee | hlt
  · have := hp i j h1 h2 hlt; rw [e1, e2] at this; exact this
  · subst hee; rw [hi] at hj; cases hj; exact absurd rfl hne
  · have := hp j i h2 h1 hlt; rw [e1, e2] at this; exact fun e => this e.symm
theorem LOk.up {n : Nat} {d : List Int} {k k' : Int} {l : Line} (h : LOk n d k l) (hk : k ≤ k') : LOk n d k' l := ⟨h.s0, h.sn, h.len, h.pins, h.u1, by have := h.un; omega, h.clean⟩
theorem sec_ne {n : Nat} {d : List Int} {k : Int} {ls : List Line} (h : LsOk n d k ls) {x y : Line} (hx : x ∈ ls) (hy : y ∈ ls) (hne : x ≠ y) : x.Sector.toNat ≠ y.Sector.toNat := fun e => by
  have h1 := (h.each x hx).s0
  have h2 := (h.each y hy).s0
  exact hne (h.uniq hx hy (by omega))
/-- A line written to the disk. -/
theorem wrL_ok {n : Nat} {c : Cache} {i : Nat} {l : Line} (h : COk n c) (hl : c.Lines[i]? = some l) : COk n (wrL c i l).1 ∧ (wrL c i l).1.Cap = c.Cap ∧ (wrL c i l).1.Clock = c.Clock ∧ (wrL c i l).1.Lines.length = c.Lines.length ∧ (∀ t, look (wrL c i l).1 t = look c t) ∧ WrOk n (wrL c i l).2 ∧ (wrL c i l).1.Disk = app c.Disk (wrL c i l).2 ∧ ∃ l', (wrL c i l).1.Lines[i]? = some l' ∧ l'.Sector = l.Sector ∧ l'.Dirty = false := by
  have hlm := List.mem_of_getElem? hl
  have hlo := h.ls.each l hlm
  have hs0 := hlo.s0
  have hsn := hlo.sn
  unfold wrL
  split
  · rename_i hd
    have hlt : l.Sector.toNat < n := by omega
    have hp := fun t => sec_put (t := t) h.disk hlt hlo.len
    have hls : LsOk n (putSec c.Disk l.Sector.toNat l.Data) c.Clock (c.Lines.set i ⟨l.Sector, l.Used, false, l.Pins, l.Data⟩) := by
      refine h.ls.set hl rfl ⟨hlo.s0, hlo.sn, hlo.len, hlo.pins, hlo.u1, hlo.un, fun _ => ?_⟩ (fun z hz hne => ?_)
      · show l.Data = secOf _ l.Sector.toNat
        rw [hp, if_pos rfl]
      · have hzo := h.ls.each z hz
        refine ⟨⟨hzo.s0, hzo.sn, hzo.len, hzo.pins, hzo.u1, hzo.un, fun hc => ?_⟩, (show z.Used ≠ l.Used from dif_of h.ls hz hlm hne)⟩
        rw [hp, if_neg (sec_ne h.ls hz hlm hne)]
        exact hzo.clean hc
    refine ⟨⟨h.cap, h.clock, ?_, by show ((c.Lines.set i _).length : Int) ≤ _; rw [List.length_set]; exact h.few, hls⟩, rfl, rfl, List.length_set, fun t => ?_, fun x hx => ?_, rfl, _, List.getElem?_set_self (List.getElem?_eq_some_iff.1 hl).1, rfl, rfl⟩
    · show (putSec c.Disk l.Sector.toNat l.Data).length = _
      unfold putSec
      rw [over_len (by rw [hlo.len, h.disk]; omega), h.disk]
    · show view _ _ t = view _ _ t
      by_cases ht : l.Sector = (t : Int)
      · have h1 := view_in hls (mem_set_self hl)
        have h2 := view_in h.ls hlm
        have e : l.Sector.toNat = t := by omega
        have h1 : view (putSec c.Disk l.Sector.toNat l.Data) (c.Lines.set i ⟨l.Sector, l.Used, false, l.Pins, l.Data⟩) l.Sector.toNat = l.Data := h1
        rw [e] at h1 h2
        rw [e, h1, h2]
      · rcases view_cases h.ls t with ⟨z, hz, e1, e2⟩ | ⟨hno, e2⟩
        · have hzl : z ≠ l := fun e => ht (by rw [← e]; exact e1)
          have h1 := view_in hls (mem_set_ne hl hz hzl)
          have e : z.Sector.toNat = t := by omega
          rw [e] at h1
          rw [h1, e2]
        · rw [e2, view_out (fun z hz => ?_), hp, if_neg (fun e => hno l hlm (by omega))]
          rcases List.mem_or_eq_of_mem_set hz with hz | rfl
          · exact hno z hz
          · exact ht
    · rw [List.mem_singleton.1 hx]; exact ⟨hs0, hsn, hlo.len⟩
  · rename_i hd
    exact ⟨h, rfl, rfl, rfl, fun _ => rfl, fun x hx => by simp at hx, rfl, l, hl, rfl, by simpa using hd⟩
/-- A clean line goes. -/
theorem cutL_ok {n : Nat} {c : Cache} {i : Nat} {l : Line} (h : COk n c) (hl : c.Lines[i]? = some l) (hd : l.Dirty = false) : COk n (cutL c i) ∧ (cutL c i).Lines.length + 1 = c.Lines.length ∧ ∀ t, look (cutL c i) t = look c t := by
  have hlm := List.mem_of_getElem? hl
  have hsub := List.eraseIdx_sublist c.Lines i
  have hi := (List.getElem?_eq_some_iff.1 hl).1
  have hlen : (c.Lines.eraseIdx i).length = c.Lines.length - 1 := List.length_eraseIdx_of_lt hi
  have hls : LsOk n c.Disk c.Clock (c.Lines.eraseIdx i) := ⟨fun z hz => h.ls.each z (hsub.subset hz), h.ls.srt.sublist hsub, h.ls.dif.sublist hsub⟩
  refine ⟨⟨h.cap, h.clock, h.disk, by show ((c.Lines.eraseIdx i).length : Int) ≤ _; have := h.few; show _ ≤ c.Cap; omega, hls⟩, by show (c.Lines.eraseIdx i).length + 1 = _; omega, fun t => ?_⟩
  show view c.Disk (c.Lines.eraseIdx i) t = view c.Disk c.Lines t
  have hne : ∀ z, z ∈ c.Lines.eraseIdx i → z ≠ l := fun z hz e => by
    subst e
    obtain ⟨j, hj⟩ := List.getElem?_of_mem hz
    rw [List.getElem?_eraseIdx] at hj
    have hp := List.pairwise_iff_getElem.1 h.ls.srt
    obtain ⟨h2, e2⟩ := List.getElem?_eq_some_iff.1 hl
    split at hj
    · obtain ⟨h1, e1⟩ := List.getElem?_eq_some_iff.1 hj
      have := hp j i h1 h2 (by omega); rw [e1, e2] at this; omega
    · obtain ⟨h1, e1⟩ := List.getElem?_eq_some_iff.1 hj
      have := hp i (j + 1) h2 h1 (by omega); rw [e1, e2] at this; omega
  rcases view_cases h.ls t with ⟨z, hz, e1, e2⟩ | ⟨hno, e2⟩
  · by_cases hzl : z = l
    · subst hzl
      rw [e2, view_out (fun x hx e => hne x hx (h.ls.uniq (hsub.subset hx) hlm (by omega)))]
      have := (h.ls.each z hlm).clean hd
      rw [this]; congr 1; omega
    · have hz2 : z ∈ c.Lines.eraseIdx i := by
        obtain ⟨j, hj⟩ := List.getElem?_of_mem hz
        have hji : j ≠ i := fun e => by subst e; rw [hl] at hj; cases hj; exact hzl rfl
        by_cases hlt : j < i
        · exact List.mem_of_getElem? (i := j) (by rw [List.getElem?_eraseIdx, if_pos hlt]; exact hj)
        · exact List.mem_of_getElem? (i := j - 1) (by rw [List.getElem?_eraseIdx, if_neg (by omega), show j - 1 + 1 = j by omega]; exact hj)
      have h1 := view_in hls hz2
      have e : z.Sector.toNat = t := by omega
      rw [e] at h1
      rw [h1, e2]
  · rw [e2, view_out (fun x hx => hno x (hsub.subset hx))]
theorem oldest_some : ∀ (ls : List Line) (k : Nat) (b : Option (Nat × Int)), (∀ l, l ∈ ls → l.Pins = 0) → (∀ o u, b = some (o, u) → o < k) → (b ≠ none ∨ ls ≠ []) → ∃ o u, oldest ls k b = some (o, u) ∧ o < k + ls.length
  | [], k, b, _, hb, hne => by
    cases b with
    | none => simp at hne
    | some p => exact ⟨p.1, p.2, rfl, by have := hb p.1 p.2 rfl; simpa using this⟩
  | l :: r, k, b, hp, hb, _ => by
    unfold oldest
    rw [if_pos (hp l (by simp))]
    obtain ⟨o, u, h1, h2⟩ := oldest_some r (k + 1) (better k l b) (fun x hx => hp x (by simp [hx])) (fun o u e => by
        unfold better at e
        cases b with
        | none => simp only [Option.some.injEq, Prod.mk.injEq] at e; omega
        | some p =>
          simp only at e
          split at e
          · simp only [Option.some.injEq, Prod.mk.injEq] at e; omega
          · have := hb p.1 p.2 rfl
            simp only [Option.some.injEq] at e
            subst e; omega) (.inl (by
        unfold better
        cases b with
        | none => simp
        | some p => simp only; split <;> simp))
    exact ⟨o, u, h1, by simp only [List.length_cons]; omega⟩
/-- There is room. -/
theorem room_ok {n : Nat} {c : Cache} (h : COk n c) : ∃ c1 w, room c = some (c1, w) ∧ COk n c1 ∧ c1.Cap = c.Cap ∧ c1.Clock = c.Clock ∧ (c1.Lines.length : Int) < c1.Cap ∧ (∀ t, look c1 t = look c t) ∧ WrOk n w ∧ c1.Disk = app c.Disk w ∧ ∀ z, z ∈ c1.Lines → ∃ y, y ∈ c.Lines ∧ y.Sector = z.Sector := by
  unfold room
  have hcap := h.cap
  have hfew := h.few
  split
  · rename_i hfull
    obtain ⟨o, u, h1, h2⟩ := oldest_some c.Lines 0 none (fun l hl => (h.ls.each l hl).pins) (fun o u e => by cases e) (.inr (fun e => by rw [e] at hfull; simp at hfull; omega))
    rw [h1]
    obtain ⟨l, hl⟩ : ∃ l, c.Lines[o]? = some l := ⟨_, List.getElem?_eq_getElem (by omega)⟩
    simp only [hl]
    obtain ⟨a1, a2, a3, a4, a5, a6, a7, l', a8, a9, a10⟩ := wrL_ok h hl
    obtain ⟨b1, b2, b3⟩ := cutL_ok a1 a8 a10
    refine ⟨_, _, rfl, b1, a2, a3, by show ((cutL _ o).Lines.length : Int) < (wrL c o l).1.Cap; rw [a2]; omega, fun t => (b3 t).trans (a5 t), a6, a7, fun z hz => ?_⟩
    have hz1 : z ∈ (wrL c o l).1.Lines := (List.eraseIdx_sublist _ o).subset hz
    unfold wrL at hz1
    split at hz1
    · rcases List.mem_or_eq_of_mem_set hz1 with hz2 | rfl
      · exact ⟨z, hz2, rfl⟩
      · exact ⟨l, List.mem_of_getElem? hl, rfl⟩
    · exact ⟨z, hz1, rfl⟩
  · rename_i hroom
    exact ⟨c, [], rfl, h, rfl, rfl, by omega, fun _ => rfl, fun x hx => by simp at hx, rfl, fun z hz => ⟨z, hz, rfl⟩⟩
end Go.Cc

/- A cache of sectors (plain): a step; what is read and what is in the end on the disk do not hang on the room. Conditions: none. -/
namespace Go.Cc
theorem place_spec (s : Int) : ∀ (ls : List Line), ls.Pairwise (fun a b => a.Sector < b.Sector) → (∀ z, z ∈ ls → z.Sector ≠ s) → (∀ z, z ∈ ls.take (place ls s) → z.Sector < s) ∧ (∀ z, z ∈ ls.drop (place ls s) → s < z.Sector) ∧ place ls s ≤ ls.length
  | [], _, _ => by simp [place]
  | l :: r, hp, hn => by
    obtain ⟨h1, h2⟩ := List.pairwise_cons.1 hp
    obtain ⟨i1, i2, i3⟩ := place_spec s r h2 (fun z hz => hn z (by simp [hz]))
    have hl := hn l (by simp)
    by_cases hlt : l.Sector < s
    · have e : place (l :: r) s = place r s + 1 := by
        unfold place
        rw [List.takeWhile_cons_of_pos (by simpa using hlt)]; rfl
      rw [e]
      refine ⟨fun z hz => ?_, fun z hz => ?_, by simp only [List.length_cons]; omega⟩
      · rw [List.take_succ_cons] at hz
        rcases List.mem_cons.1 hz with rfl | hz
        · exact hlt
        · exact i1 z hz
      · rw [List.drop_succ_cons] at hz
        exact i2 z hz
    · have e : place (l :: r) s = 0 := by
        unfold place
        rw [List.takeWhile_cons_of_neg (by simpa using hlt)]; rfl
      rw [e]
      refine ⟨fun z hz => by simp at hz, fun z hz => ?_, by omega⟩
      rw [List.drop_zero] at hz
      rcases List.mem_cons.1 hz with rfl | hz
      · omega
      · have := h1 z hz; omega
/-- A sector that is not there gets a line. -/
theorem insL_ok {n : Nat} {c : Cache} {s : Int} (h : COk n c) (h0 : 0 ≤ s) (hn : s < n) (hf : (c.Lines.length : Int) < c.Cap) (hno : ∀ z, z ∈ c.Lines → z.Sector ≠ s) :
    COk n (insL c s) ∧ (insL c s).Lines[place c.Lines s]? = some ⟨s, c.Clock + 1, false, 0, secOf c.Disk s.toNat⟩ ∧ ∀ t, look (insL c s) t = look c t := by
  obtain ⟨p1, p2, p3⟩ := place_spec s c.Lines h.ls.srt hno
  have hk := h.clock
  generalize hK : place c.Lines s = k at *
  have hy : LOk n c.Disk (c.Clock + 1) ⟨s, c.Clock + 1, false, 0, secOf c.Disk s.toNat⟩ := ⟨h0, hn, sec_len h.disk (by show s.toNat < n; omega), rfl, by show (1 : Int) ≤ c.Clock + 1; omega, Int.le_refl _, fun _ => rfl⟩
  have hmem : ∀ z, z ∈ c.Lines.take k ++ [(⟨s, c.Clock + 1, false, 0, secOf c.Disk s.toNat⟩ : Line)] ++ c.Lines.drop k ↔ z = ⟨s, c.Clock + 1, false, 0, secOf c.Disk s.toNat⟩ ∨ z ∈ c.Lines := fun z => by
    have h1 : z ∈ c.Lines ↔ z ∈ c.Lines.take k ∨ z ∈ c.Lines.drop k := by
      conv => lhs; rw [← List.take_append_drop k c.Lines]
      exact List.mem_append
    rw [List.mem_append, List.mem_append, List.mem_singleton, h1]
    constructor
    · rintro ((a | a) | a)
      · exact .inr (.inl a)
      · exact .inl a
      · exact .inr (.inr a)
    · rintro (a | a | a)
      · exact .inl (.inr a)
      · exact .inl (.inl a)
      · exact .inr a
  have hpw : ∀ (R : Line → Line → Prop), c.Lines.Pairwise R → (∀ z, z ∈ c.Lines.take k → R z ⟨s, c.Clock + 1, false, 0, secOf c.Disk s.toNat⟩) → (∀ z, z ∈ c.Lines.drop k → R ⟨s, c.Clock + 1, false, 0, secOf c.Disk s.toNat⟩ z) → (c.Lines.take k ++ [(⟨s, c.Clock + 1, false, 0, secOf c.Disk s.toNat⟩ : Line)] ++ c.Lines.drop k).Pairwise R := fun R hp a b => by
    rw [← List.take_append_drop k c.Lines] at hp
    obtain ⟨q1, q2, q3⟩ := List.pairwise_append.1 hp
    refine List.pairwise_append.2 ⟨List.pairwise_append.2 ⟨q1, List.pairwise_singleton _ _, fun x hx y hy => by rw [List.mem_singleton.1 hy]; exact a x hx⟩, q2, fun x hx y hy => ?_⟩
    rcases List.mem_append.1 hx with hx | hx
    · exact q3 x hx y hy
    · rw [List.mem_singleton.1 hx]; exact b y hy
  have hls : LsOk n c.Disk (c.Clock + 1) (c.Lines.take k ++ [(⟨s, c.Clock + 1, false, 0, secOf c.Disk s.toNat⟩ : Line)] ++ c.Lines.drop k) := by
    refine ⟨fun z hz => ?_, hpw _ h.ls.srt (fun z hz => p1 z hz) (fun z hz => p2 z hz), hpw _ h.ls.dif (fun z hz => ?_) (fun z hz => ?_)⟩
    · rcases (hmem z).1 hz with rfl | hz
      · exact hy
      · exact (h.ls.each z hz).up (by omega)
    · have := (h.ls.each z (List.mem_of_mem_take hz)).un
      show z.Used ≠ c.Clock + 1; omega
    · have := (h.ls.each z (List.mem_of_mem_drop hz)).un
      show c.Clock + 1 ≠ z.Used; omega
  have hlen : (c.Lines.take k ++ [(⟨s, c.Clock + 1, false, 0, secOf c.Disk s.toNat⟩ : Line)] ++ c.Lines.drop k).length = c.Lines.length + 1 := by
    rw [List.length_append, List.length_append, List.length_take, List.length_drop, List.length_singleton]; omega
  have e : insL c s = ⟨c.Cap, c.Clock + 1, c.Disk, c.Lines.take k ++ [⟨s, c.Clock + 1, false, 0, secOf c.Disk s.toNat⟩] ++ c.Lines.drop k⟩ := by unfold insL; rw [hK]
  rw [e]
  refine ⟨⟨h.cap, by show (0 : Int) ≤ c.Clock + 1; omega, h.disk, by show ((_ ++ _ ++ _ : List Line).length : Int) ≤ c.Cap; rw [hlen]; omega, hls⟩, ?_, fun t => ?_⟩
  · show (c.Lines.take k ++ [(⟨s, c.Clock + 1, false, 0, secOf c.Disk s.toNat⟩ : Line)] ++ c.Lines.drop k)[k]? = _
    have hl : (c.Lines.take k).length = k := by rw [List.length_take]; omega
    rw [List.append_assoc, List.getElem?_append_right (by omega), hl, Nat.sub_self]; rfl
  · show view c.Disk (c.Lines.take k ++ [(⟨s, c.Clock + 1, false, 0, secOf c.Disk s.toNat⟩ : Line)] ++ c.Lines.drop k) t = view c.Disk c.Lines t
    by_cases ht : s = (t : Int)
    · have h1 := view_in hls ((hmem _).2 (.inl rfl))
      have h1 : view c.Disk (c.Lines.take k ++ [(⟨s, c.Clock + 1, false, 0, secOf c.Disk s.toNat⟩ : Line)] ++ c.Lines.drop k) s.toNat = secOf c.Disk s.toNat := h1
      have e2 : s.toNat = t := by omega
      rw [e2] at h1
      rw [view_out (ls := c.Lines) (fun z hz => by rw [← ht]; exact hno z hz), ← h1, e2]
    · rcases view_cases h.ls t with ⟨z, hz, e1, e2⟩ | ⟨hno2, e2⟩
      · have h1 := view_in hls ((hmem z).2 (.inr hz))
        have e3 : z.Sector.toNat = t := by omega
        rw [e3] at h1
        rw [h1, e2]
      · rw [e2, view_out (fun z hz => ?_)]
        rcases (hmem z).1 hz with rfl | hz
        · exact ht
        · exact hno2 z hz
/-- A line is used. -/
theorem touch_ok {n : Nat} {c : Cache} {i : Nat} {l : Line} (h : COk n c) (hl : c.Lines[i]? = some l) : COk n (touch c i l) ∧ (touch c i l).Lines[i]? = some ⟨l.Sector, c.Clock + 1, l.Dirty, l.Pins, l.Data⟩ ∧ ∀ t, look (touch c i l) t = look c t := by
  have hlm := List.mem_of_getElem? hl
  have hlo := h.ls.each l hlm
  have hk := h.clock
  have hls : LsOk n c.Disk (c.Clock + 1) (c.Lines.set i ⟨l.Sector, c.Clock + 1, l.Dirty, l.Pins, l.Data⟩) := by
    refine h.ls.set hl rfl ⟨hlo.s0, hlo.sn, hlo.len, hlo.pins, by show (1 : Int) ≤ c.Clock + 1; omega, Int.le_refl _, hlo.clean⟩ (fun z hz hne => ⟨(h.ls.each z hz).up (by omega), ?_⟩)
    have := (h.ls.each z hz).un
    show z.Used ≠ c.Clock + 1; omega
  refine ⟨⟨h.cap, by show (0 : Int) ≤ c.Clock + 1; omega, h.disk, by show ((c.Lines.set i _).length : Int) ≤ _; rw [List.length_set]; exact h.few, hls⟩, List.getElem?_set_self (List.getElem?_eq_some_iff.1 hl).1, fun t => ?_⟩
  show view c.Disk (c.Lines.set i ⟨l.Sector, c.Clock + 1, l.Dirty, l.Pins, l.Data⟩) t = view c.Disk c.Lines t
  rcases view_cases h.ls t with ⟨z, hz, e1, e2⟩ | ⟨hno, e2⟩
  · by_cases hzl : z = l
    · have h1 := view_in hls (mem_set_self hl)
      have h1 : view c.Disk (c.Lines.set i ⟨l.Sector, c.Clock + 1, l.Dirty, l.Pins, l.Data⟩) l.Sector.toNat = l.Data := h1
      have e3 : l.Sector.toNat = t := by rw [← hzl]; omega
      rw [e3] at h1
      rw [h1, e2, hzl]
    · have h1 := view_in hls (mem_set_ne hl hz hzl)
      have e3 : z.Sector.toNat = t := by omega
      rw [e3] at h1
      rw [h1, e2]
  · rw [e2, view_out (fun z hz => ?_)]
    rcases List.mem_or_eq_of_mem_set hz with hz | rfl
    · exact hno z hz
    · exact hno l hlm
/-- A sector is fetched: nothing of what is seen has turned. -/
theorem fetch_ok {n : Nat} {c : Cache} {s : Int} (h : COk n c) (h0 : 0 ≤ s) (hn : s < n) : ∃ c' i w l, fetch c s = some (c', i, w) ∧ COk n c' ∧ c'.Cap = c.Cap ∧ c'.Clock = c.Clock + 1 ∧ c'.Lines[i]? = some l ∧ l.Sector = s ∧ l.Data = look c s.toNat ∧ (∀ t, look c' t = look c t) ∧ WrOk n w ∧ c'.Disk = app c.Disk w := by
  unfold fetch ixOf
  cases hf : c.Lines.findIdx? (fun l => l.Sector == s) with
  | some i =>
    obtain ⟨hi, hp, _⟩ := List.findIdx?_eq_some_iff_getElem.1 hf
    have hl : c.Lines[i]? = some c.Lines[i] := List.getElem?_eq_getElem hi
    simp only [hl]
    have hs : c.Lines[i].Sector = s := by simpa using hp
    obtain ⟨a1, a2, a3⟩ := touch_ok h hl
    refine ⟨_, _, _, _, rfl, a1, rfl, rfl, a2, hs, ?_, a3, fun x hx => by simp at hx, rfl⟩
    have := view_in h.ls (List.getElem_mem hi)
    rw [hs] at this
    exact this.symm
  | none =>
    have hno : ∀ z, z ∈ c.Lines → z.Sector ≠ s := fun z hz e => by
      have := List.findIdx?_eq_none_iff.1 hf z hz
      rw [e] at this; simp at this
    obtain ⟨c1, w, b0, b1, b2, b3, b4, b5, b6, b7, b8⟩ := room_ok h
    simp only [b0]
    have hno1 : ∀ z, z ∈ c1.Lines → z.Sector ≠ s := fun z hz e => by
      obtain ⟨y, hy, e2⟩ := b8 z hz
      exact hno y hy (e2.trans e)
    obtain ⟨d1, d2, d3⟩ := insL_ok b1 h0 hn b4 hno1
    refine ⟨_, _, _, _, rfl, d1, b2, by show c1.Clock + 1 = _; rw [b3], d2, rfl, ?_, fun t => (d3 t).trans (b5 t), b6, b7⟩
    show secOf c1.Disk s.toNat = _
    rw [← b5 s.toNat]
    exact (view_out (fun z hz e => hno1 z hz (by omega))).symm
end Go.Cc

/- A cache of sectors (plain): a step and a run; the room does not matter. Conditions: none. -/
namespace Go.Cc
def flush1 (a : Cache × List Wr) (i : Nat) : Cache × List Wr := match a.1.Lines[i]? with
  | none => a
  | some l => ((wrL a.1 i l).1, a.2 ++ (wrL a.1 i l).2)
def flushC (c : Cache) : Cache × List Wr := (List.range c.Lines.length).foldl flush1 (c, [])
def setData (c : Cache) (i : Nat) (l : Line) (x : List Int) : Cache := ⟨c.Cap, c.Clock, c.Disk, c.Lines.set i ⟨l.Sector, l.Used, true, l.Pins, x⟩⟩
/-- A step that pins and forgets nothing. -/
def stepC (n : Nat) (c : Cache) (o : COp) : Cache × Res :=
  if BadArg n o then (c, ⟨1, [], []⟩)
  else if o.Kind = 7 then ((flushC c).1, ⟨0, [], (flushC c).2⟩)
  else if o.Kind = 4 then (c, ⟨3, [], []⟩)
  else if o.Kind = 5 then (match ixOf c.Lines o.Sector with
    | none => (c, ⟨0, [], []⟩)
    | some i => match c.Lines[i]? with
      | none => (c, ⟨0, [], []⟩)
      | some l => ((wrL c i l).1, ⟨0, [], (wrL c i l).2⟩))
  else match fetch c o.Sector with
    | none => (c, ⟨21, [], []⟩)
    | some (c1, i, w) => match c1.Lines[i]? with
      | none => (c, ⟨21, [], []⟩)
      | some l => if o.Kind = 1 then (c1, ⟨0, (l.Data.drop o.At.toNat).take o.N.toNat, w⟩)
        else (setData c1 i l (over l.Data o.At.toNat o.Data), ⟨0, [], w⟩)
/-- What a step answers, of what is seen. -/
def codeV (n : Nat) (o : COp) : Int := if BadArg n o then 1 else if o.Kind = 4 then 3 else 0
def dataV (n : Nat) (V : Nat → List Int) (o : COp) : List Int := if BadArg n o then [] else if o.Kind = 1 then ((V o.Sector.toNat).drop o.At.toNat).take o.N.toNat else []
def viewV (n : Nat) (V : Nat → List Int) (o : COp) (t : Nat) : List Int := if BadArg n o then V t else if o.Kind = 2 ∧ o.Sector = (t : Int) then over (V t) o.At.toNat o.Data else V t
theorem app_app (d : List Int) (a b : List Wr) : app d (a ++ b) = app (app d a) b := List.foldl_append
theorem wrL_other {c : Cache} {i j : Nat} {l : Line} (hij : j ≠ i) : (wrL c i l).1.Lines[j]? = c.Lines[j]? := by
  unfold wrL
  split
  · exact List.getElem?_set_ne (Ne.symm hij)
  · rfl
structure FlJ (n : Nat) (c : Cache) (k : Nat) (a : Cache × List Wr) : Prop where
  ok : COk n a.1
  cap : a.1.Cap = c.Cap
  clock : a.1.Clock = c.Clock
  len : a.1.Lines.length = c.Lines.length
  look : ∀ t, look a.1 t = look c t
  wr : WrOk n a.2
  disk : a.1.Disk = app c.Disk a.2
  clean : ∀ j l, j < k → a.1.Lines[j]? = some l → l.Dirty = false
theorem flush_j {n : Nat} {c : Cache} (h : COk n c) : ∀ k, k ≤ c.Lines.length → FlJ n c k ((List.range k).foldl flush1 (c, []))
  | 0, _ => ⟨h, rfl, rfl, rfl, fun _ => rfl, fun x hx => by simp at hx, rfl, fun j l hj => by omega⟩
  | k + 1, hk => by
    have ih := flush_j h k (by omega)
    rw [List.range_succ, List.foldl_append]
    generalize (List.range k).foldl flush1 (c, []) = a at *
    show FlJ n c (k + 1) (flush1 a k)
    obtain ⟨l, hl⟩ : ∃ l, a.1.Lines[k]? = some l := ⟨_, List.getElem?_eq_getElem (by rw [ih.len]; omega)⟩
    have e : flush1 a k = ((wrL a.1 k l).1, a.2 ++ (wrL a.1 k l).2) := by unfold flush1; rw [hl]
    rw [e]
    obtain ⟨a1, a2, a3, a4, a5, a6, a7, l', a8, a9, a10⟩ := wrL_ok ih.ok hl
    refine ⟨a1, a2.trans ih.cap, a3.trans ih.clock, a4.trans ih.len, fun t => (a5 t).trans (ih.look t), fun x hx => ?_, ?_, fun j z hj hz => ?_⟩
    · rcases List.mem_append.1 hx with hx | hx
      · exact ih.wr x hx
      · exact a6 x hx
    · show (wrL a.1 k l).1.Disk = app c.Disk (a.2 ++ (wrL a.1 k l).2)
      rw [app_app, ← ih.disk]; exact a7
    · by_cases hjk : j = k
      · subst hjk
        have hz : (wrL a.1 j l).1.Lines[j]? = some z := hz
        rw [a8] at hz; cases hz; exact a10
      · have hz : (wrL a.1 k l).1.Lines[j]? = some z := hz
        rw [wrL_other hjk] at hz
        exact ih.clean j z (by omega) hz
theorem flush_ok {n : Nat} {c : Cache} (h : COk n c) : FlJ n c c.Lines.length (flushC c) := flush_j h _ (Nat.le_refl _)
/-- Behind a flush the disk holds what is seen. -/
theorem flush_disk {n : Nat} {c : Cache} (h : COk n c) (t : Nat) : secOf (flushC c).1.Disk t = look c t := by
  have f := flush_ok h
  rw [← f.look t]
  unfold look
  rcases view_cases f.ok.ls t with ⟨z, hz, e1, e2⟩ | ⟨_, e2⟩
  · obtain ⟨j, hj⟩ := List.getElem?_of_mem hz
    have hc := f.clean j z (by have := (List.getElem?_eq_some_iff.1 hj).1; rw [f.len] at this; exact this) hj
    rw [e2, (f.ok.ls.each z hz).clean hc]
    congr 1; omega
  · exact e2.symm
structure StepV (n : Nat) (c : Cache) (o : COp) (r : Cache × Res) : Prop where
  ok : COk n r.1
  cap : r.1.Cap = c.Cap
  clock : r.1.Clock ≤ c.Clock + 1
  code : r.2.Code = codeV n o
  data : r.2.Data = dataV n (look c) o
  view : ∀ t, look r.1 t = viewV n (look c) o t
  wr : WrOk n r.2.Writes
  disk : r.1.Disk = app c.Disk r.2.Writes
theorem step_ok {n : Nat} {c : Cache} {o : COp} (h : COk n c) (h3 : o.Kind ≠ 3) (h6 : o.Kind ≠ 6) : StepV n c o (stepC n c o) := by
  unfold stepC
  by_cases hb : BadArg n o
  · rw [if_pos hb]
    exact ⟨h, rfl, by show c.Clock ≤ _; omega, by unfold codeV; rw [if_pos hb], by unfold dataV; rw [if_pos hb], fun t => by unfold viewV; rw [if_pos hb], fun x hx => by simp at hx, rfl⟩
  rw [if_neg hb]
  have hb2 := hb
  unfold BadArg at hb2
  by_cases k7 : o.Kind = 7
  · rw [if_pos k7]
    have f := flush_ok h
    refine ⟨f.ok, f.cap, by show (flushC c).1.Clock ≤ _; rw [f.clock]; omega, ?_, ?_, fun t => ?_, f.wr, f.disk⟩
    · unfold codeV; rw [if_neg hb, if_neg (by omega)]
    · unfold dataV; rw [if_neg hb, if_neg (by omega)]
    · unfold viewV; rw [if_neg hb, if_neg (by omega)]; exact f.look t
  rw [if_neg k7]
  by_cases k4 : o.Kind = 4
  · rw [if_pos k4]
    exact ⟨h, rfl, by show c.Clock ≤ _; omega, by unfold codeV; rw [if_neg hb, if_pos k4], by unfold dataV; rw [if_neg hb, if_neg (by omega)], fun t => by unfold viewV; rw [if_neg hb, if_neg (by omega)], fun x hx => by simp at hx, rfl⟩
  rw [if_neg k4]
  by_cases k5 : o.Kind = 5
  · rw [if_pos k5]
    have e1 : codeV n o = 0 := by unfold codeV; rw [if_neg hb, if_neg (by omega)]
    have e2 : dataV n (look c) o = [] := by unfold dataV; rw [if_neg hb, if_neg (by omega)]
    have e3 : ∀ t, viewV n (look c) o t = look c t := fun t => by unfold viewV; rw [if_neg hb, if_neg (by omega)]
    have same : StepV n c o (c, ⟨0, [], []⟩) := ⟨h, rfl, by show c.Clock ≤ _; omega, e1.symm, e2.symm, fun t => (e3 t).symm, fun x hx => by simp at hx, rfl⟩
    split
    · exact same
    · rename_i i _
      split
      · exact same
      · rename_i l hl
        obtain ⟨a1, a2, a3, a4, a5, a6, a7, _⟩ := wrL_ok h hl
        exact ⟨a1, a2, by show (wrL c i l).1.Clock ≤ _; rw [a3]; omega, e1.symm, e2.symm, fun t => (a5 t).trans (e3 t).symm, a6, a7⟩
  rw [if_neg k5]
  have hs0 : 0 ≤ o.Sector := by omega
  have hsn : o.Sector < n := by omega
  obtain ⟨c1, i, w, l, f0, f1, f2, f3, f4, f5, f6, f7, f8, f9⟩ := fetch_ok h hs0 hsn
  rw [f0]
  simp only [f4]
  have hlm := List.mem_of_getElem? f4
  have hlo := f1.ls.each l hlm
  by_cases k1 : o.Kind = 1
  · rw [if_pos k1]
    refine ⟨f1, f2, by show c1.Clock ≤ _; omega, ?_, ?_, fun t => ?_, f8, f9⟩
    · unfold codeV; rw [if_neg hb, if_neg (by omega)]
    · unfold dataV; rw [if_neg hb, if_pos k1]; show (l.Data.drop _).take _ = _; rw [f6]
    · unfold viewV; rw [if_neg hb, if_neg (by omega)]; exact f7 t
  · rw [if_neg k1]
    have k2 : o.Kind = 2 := by omega
    have hat : o.At.toNat + o.Data.length ≤ 128 := by
      have hol : opLen o = (o.Data.length : Int) := by unfold opLen; rw [if_pos k2]
      omega
    have hlen : (over l.Data o.At.toNat o.Data).length = 128 := by rw [over_len (by rw [hlo.len]; exact hat)]; exact hlo.len
    have hls : LsOk n c1.Disk c1.Clock (c1.Lines.set i ⟨l.Sector, l.Used, true, l.Pins, over l.Data o.At.toNat o.Data⟩) :=
      f1.ls.set f4 rfl ⟨hlo.s0, hlo.sn, hlen, hlo.pins, hlo.u1, hlo.un, fun hc => by cases hc⟩ (fun z hz hne => ⟨f1.ls.each z hz, (show z.Used ≠ l.Used from dif_of f1.ls hz hlm hne)⟩)
    refine ⟨⟨f1.cap, f1.clock, f1.disk, by show ((c1.Lines.set i _).length : Int) ≤ _; rw [List.length_set]; exact f1.few, hls⟩, f2, by show c1.Clock ≤ _; omega, ?_, ?_, fun t => ?_, f8, f9⟩
    · unfold codeV; rw [if_neg hb, if_neg (by omega)]
    · unfold dataV; rw [if_neg hb, if_neg (by omega)]
    · unfold viewV
      rw [if_neg hb]
      show view c1.Disk (c1.Lines.set i ⟨l.Sector, l.Used, true, l.Pins, over l.Data o.At.toNat o.Data⟩) t = _
      by_cases ht : o.Sector = (t : Int)
      · rw [if_pos ⟨k2, ht⟩]
        have h1 := view_in hls (mem_set_self f4)
        have h1 : view c1.Disk (c1.Lines.set i ⟨l.Sector, l.Used, true, l.Pins, over l.Data o.At.toNat o.Data⟩) l.Sector.toNat = over l.Data o.At.toNat o.Data := h1
        have e3 : l.Sector.toNat = t := by omega
        have e4 : o.Sector.toNat = t := by omega
        rw [e3] at h1
        rw [h1, f6, e4]
      · rw [if_neg (fun hh => ht hh.2), ← f7 t]
        show _ = view c1.Disk c1.Lines t
        rcases view_cases f1.ls t with ⟨z, hz, e1, e2⟩ | ⟨hno, e2⟩
        · have hzl : z ≠ l := fun e => ht (by rw [← f5, ← e]; exact e1)
          have h1 := view_in hls (mem_set_ne f4 hz hzl)
          have e3 : z.Sector.toNat = t := by omega
          rw [e3] at h1
          rw [h1, e2]
        · rw [e2, view_out (fun z hz => ?_)]
          rcases List.mem_or_eq_of_mem_set hz with hz | rfl
          · exact hno z hz
          · exact hno l hlm
/-! ## A run -/
def runC (n : Nat) (c : Cache) (ops : List COp) : Cache × List Res := ops.foldl (fun a o => ((stepC n a.1 o).1, a.2 ++ [(stepC n a.1 o).2])) (c, [])
def runV (n : Nat) (V : Nat → List Int) (ops : List COp) : (Nat → List Int) × List (Int × List Int) := ops.foldl (fun a o => (viewV n a.1 o, a.2 ++ [(codeV n o, dataV n a.1 o)])) (V, [])
structure RunV (n : Nat) (c : Cache) (k : Nat) (a : Cache × List Res) (b : (Nat → List Int) × List (Int × List Int)) : Prop where
  ok : COk n a.1
  cap : a.1.Cap = c.Cap
  clock : a.1.Clock ≤ c.Clock + (k : Int)
  res : a.2.map (fun r => (r.Code, r.Data)) = b.2
  len : a.2.length = k
  view : look a.1 = b.1
  wr : ∀ r, r ∈ a.2 → WrOk n r.Writes
  disk : a.1.Disk = app c.Disk (a.2.flatMap Res.Writes)
theorem run_ok {n : Nat} {c : Cache} (h : COk n c) : ∀ (ops : List COp), (∀ o, o ∈ ops → o.Kind ≠ 3 ∧ o.Kind ≠ 6) → RunV n c ops.length (runC n c ops) (runV n (look c) ops) := by
  intro ops
  suffices H : ∀ (l : List COp) (k : Nat) (a : Cache × List Res) (b : (Nat → List Int) × List (Int × List Int)), RunV n c k a b → (∀ o, o ∈ l → o.Kind ≠ 3 ∧ o.Kind ≠ 6) →
      RunV n c (k + l.length) (l.foldl (fun a o => ((stepC n a.1 o).1, a.2 ++ [(stepC n a.1 o).2])) a) (l.foldl (fun a o => (viewV n a.1 o, a.2 ++ [(codeV n o, dataV n a.1 o)])) b) by
    intro hk
    have := H ops 0 (c, []) (look c, []) ⟨h, rfl, by show c.Clock ≤ _; omega, rfl, rfl, rfl, fun r hr => by simp at hr, rfl⟩ hk
    rwa [Nat.zero_add] at this
  intro l
  induction l with
  | nil => intro k a b hr _; exact hr
  | cons o l ih =>
    intro k a b hr hk
    have hs := step_ok hr.ok (hk o (by simp)).1 (hk o (by simp)).2
    have hn : RunV n c (k + 1) ((stepC n a.1 o).1, a.2 ++ [(stepC n a.1 o).2]) (viewV n b.1 o, b.2 ++ [(codeV n o, dataV n b.1 o)]) := by
      refine ⟨hs.ok, hs.cap.trans hr.cap, ?_, ?_, ?_, ?_, fun r hrm => ?_, ?_⟩
      · have h1 := hs.clock; have h2 := hr.clock; show (stepC n a.1 o).1.Clock ≤ _; omega
      · show (a.2 ++ [(stepC n a.1 o).2]).map _ = _
        rw [List.map_append, hr.res]
        show _ ++ [((stepC n a.1 o).2.Code, (stepC n a.1 o).2.Data)] = _
        have h1 := hs.data
        rw [hr.view] at h1
        rw [hs.code, h1]
      · show (a.2 ++ [_]).length = _; rw [List.length_append, hr.len]; rfl
      · funext t
        have h1 := hs.view t
        rw [hr.view] at h1
        exact h1
      · rcases List.mem_append.1 hrm with hrm | hrm
        · exact hr.wr r hrm
        · rw [List.mem_singleton.1 hrm]; exact hs.wr
      · show (stepC n a.1 o).1.Disk = app c.Disk ((a.2 ++ [(stepC n a.1 o).2]).flatMap Res.Writes)
        rw [List.flatMap_append, app_app, ← hr.disk, hs.disk]
        simp
    have := ih (k + 1) _ _ hn (fun x hx => hk x (by simp [hx]))
    rw [List.length_cons, show k + (l.length + 1) = k + 1 + l.length by omega]
    exact this
end Go.Cc

/- A cache of sectors (plain): two runs with other room read alike and leave one disk. Conditions: none. -/
namespace Go.Cc
def new (cap : Int) (disk : List Int) : Cache := ⟨cap, 0, disk, []⟩
theorem new_ok {n : Nat} {cap : Int} {disk : List Int} (h1 : 1 ≤ cap) (hd : disk.length = 128 * n) : COk n (new cap disk) :=
  ⟨h1, Int.le_refl _, hd, by show ((0 : Nat) : Int) ≤ cap; omega, ⟨fun l hl => by simp [new] at hl, List.Pairwise.nil, List.Pairwise.nil⟩⟩
theorem new_look (cap : Int) (disk : List Int) : look (new cap disk) = secOf disk := rfl
theorem disk_ext {n : Nat} {a b : List Int} (ha : a.length = 128 * n) (hb : b.length = 128 * n) (h : ∀ t, t < n → secOf a t = secOf b t) : a = b := by
  apply List.ext_getElem?
  intro j
  by_cases hj : j < 128 * n
  · have h1 := sec_get (d := a) (s := j / 128) (j := j % 128) (by omega)
    have h2 := sec_get (d := b) (s := j / 128) (j := j % 128) (by omega)
    have e : 128 * (j / 128) + j % 128 = j := by omega
    rw [e] at h1 h2
    rw [← h1, ← h2, h _ (by omega)]
  · rw [List.getElem?_eq_none (by omega), List.getElem?_eq_none (by omega)]
theorem run_snoc {n : Nat} {c : Cache} {ops : List COp} {o : COp} : runC n c (ops ++ [o]) = ((stepC n (runC n c ops).1 o).1, (runC n c ops).2 ++ [(stepC n (runC n c ops).1 o).2]) := by
  unfold runC
  rw [List.foldl_append]; rfl
/-- The law: codes and data do not hang on the room; behind a flush the disks are alike, and each is the first one with the writes done. -/
theorem room_alike {n : Nat} {c1 c2 : Int} {disk : List Int} (h1 : 1 ≤ c1) (h2 : 1 ≤ c2) (hd : disk.length = 128 * n) {ops : List COp} (hk : ∀ o, o ∈ ops → o.Kind ≠ 3 ∧ o.Kind ≠ 6) {fl : COp} (hf : fl.Kind = 7) :
    (runC n (new c1 disk) (ops ++ [fl])).2.map (fun r => (r.Code, r.Data)) = (runC n (new c2 disk) (ops ++ [fl])).2.map (fun r => (r.Code, r.Data)) ∧
    (runC n (new c1 disk) (ops ++ [fl])).1.Disk = (runC n (new c2 disk) (ops ++ [fl])).1.Disk ∧
    (runC n (new c1 disk) (ops ++ [fl])).1.Disk = app disk ((runC n (new c1 disk) (ops ++ [fl])).2.flatMap Res.Writes) ∧
    (∀ r, r ∈ (runC n (new c1 disk) (ops ++ [fl])).2 → WrOk n r.Writes) ∧
    (runC n (new c1 disk) (ops ++ [fl])).2.length = ops.length + 1 := by
  have hk2 : ∀ o, o ∈ ops ++ [fl] → o.Kind ≠ 3 ∧ o.Kind ≠ 6 := fun o ho => by
    rcases List.mem_append.1 ho with ho | ho
    · exact hk o ho
    · rw [List.mem_singleton.1 ho]; omega
  have a := run_ok (new_ok h1 hd) _ hk2
  have b := run_ok (new_ok h2 hd) _ hk2
  rw [new_look] at a b
  refine ⟨a.res.trans b.res.symm, ?_, a.disk, a.wr, by rw [a.len, List.length_append]; rfl⟩
  have key : ∀ {c : Int}, 1 ≤ c → ∀ t, secOf (runC n (new c disk) (ops ++ [fl])).1.Disk t = (runV n (secOf disk) ops).1 t := fun {c} hc t => by
    have g := run_ok (new_ok hc hd) ops hk
    rw [new_look] at g
    rw [run_snoc]
    have e : stepC n (runC n (new c disk) ops).1 fl = ((flushC (runC n (new c disk) ops).1).1, ⟨0, [], (flushC (runC n (new c disk) ops).1).2⟩) := by
      unfold stepC
      rw [if_neg (by unfold BadArg; omega), if_pos hf]
    show secOf (stepC n (runC n (new c disk) ops).1 fl).1.Disk t = _
    rw [e]
    show secOf (flushC (runC n (new c disk) ops).1).1.Disk t = _
    rw [flush_disk g.ok, g.view]
  exact disk_ext a.ok.disk b.ok.disk (fun t _ => (key h1 t).trans (key h2 t).symm)
end Go.Cc

/- A cache of sectors (plain): a step of the reference, of all kinds; what is safe stays so. Conditions: none. -/
namespace Go.Cc
def pinL (c : Cache) (i : Nat) (l : Line) (k : Int) : Cache := ⟨c.Cap, c.Clock, c.Disk, c.Lines.set i ⟨l.Sector, l.Used, l.Dirty, k, l.Data⟩⟩
def lineOf (c : Cache) (s : Int) : Option (Nat × Line) := match ixOf c.Lines s with
  | none => none
  | some i => match c.Lines[i]? with
    | none => none
    | some l => some (i, l)
def full8 (c : Cache) (s : Int) : Bool := match lineOf c s with
  | none => false
  | some (_, l) => decide (l.Pins = 8)
def fetchedS (c : Cache) (o : COp) : Cache × Res :=
  if o.Kind ≠ 3 ∧ (opLen o < 0 ∨ 128 < opLen o ∨ o.At < 0 ∨ 128 - opLen o < o.At) then (c, ⟨1, [], []⟩)
  else if o.Kind = 3 ∧ full8 c o.Sector = true then (c, ⟨18, [], []⟩)
  else match fetch c o.Sector with
    | none => (c, ⟨21, [], []⟩)
    | some (c1, i, w) => match c1.Lines[i]? with
      | none => (c, ⟨21, [], []⟩)
      | some l => if o.Kind = 1 then (c1, ⟨0, (l.Data.drop o.At.toNat).take o.N.toNat, w⟩)
        else if o.Kind = 3 then (pinL c1 i l (l.Pins + 1), ⟨0, [], w⟩)
        else (setData c1 i l (over l.Data o.At.toNat o.Data), ⟨0, [], w⟩)
/-- The reference's step. -/
def stepS (n : Nat) (c : Cache) (o : COp) : Cache × Res :=
  if o.Kind = 7 then ((flushC c).1, ⟨0, [], (flushC c).2⟩)
  else if o.Kind < 1 ∨ 7 < o.Kind ∨ o.Sector < 0 ∨ (n : Int) ≤ o.Sector then (c, ⟨1, [], []⟩)
  else if o.Kind = 4 then (match lineOf c o.Sector with
    | none => (c, ⟨3, [], []⟩)
    | some (i, l) => if l.Pins = 0 then (c, ⟨3, [], []⟩) else (pinL c i l (l.Pins - 1), ⟨0, [], []⟩))
  else if o.Kind = 5 then (match lineOf c o.Sector with
    | none => (c, ⟨0, [], []⟩)
    | some (i, l) => ((wrL c i l).1, ⟨0, [], (wrL c i l).2⟩))
  else if o.Kind = 6 then (match lineOf c o.Sector with
    | none => (c, ⟨0, [], []⟩)
    | some (i, l) => if 0 < l.Pins then (c, ⟨21, [], []⟩) else (cutL c i, ⟨0, [], []⟩))
  else fetchedS c o
theorem lineOf_no {n : Nat} {c : Cache} (h : COk n c) {s : Int} {i : Nat} {l : Line} (hl : lineOf c s = some (i, l)) : l.Pins = 0 := by
  unfold lineOf at hl
  split at hl
  · cases hl
  · split at hl
    · cases hl
    · rename_i i' _ l' hl'
      cases hl
      exact (h.ls.each l (List.mem_of_getElem? hl')).pins
/-- While nothing is pinned it is the same step. -/
theorem stepS_eq {n : Nat} {c : Cache} {o : COp} (h : COk n c) (h3 : o.Kind ≠ 3) (h6 : o.Kind ≠ 6) : stepS n c o = stepC n c o := by
  unfold stepS stepC
  by_cases k7 : o.Kind = 7
  · rw [if_pos k7, if_neg (by unfold BadArg; omega), if_pos k7]
  rw [if_neg k7]
  by_cases hs : o.Kind < 1 ∨ 7 < o.Kind ∨ o.Sector < 0 ∨ (n : Int) ≤ o.Sector
  · rw [if_pos hs, if_pos (by unfold BadArg; omega)]
  rw [if_neg hs]
  by_cases k4 : o.Kind = 4
  · rw [if_pos k4, if_neg (by unfold BadArg; omega), if_neg k7, if_pos k4]
    split
    · rfl
    · rename_i i l hl
      rw [if_pos (lineOf_no h hl)]
  rw [if_neg k4]
  by_cases k5 : o.Kind = 5
  · rw [if_pos k5, if_neg (by unfold BadArg; omega), if_neg k7, if_neg k4, if_pos k5]
    unfold lineOf
    cases ixOf c.Lines o.Sector with
    | none => rfl
    | some i =>
      cases hl : c.Lines[i]? with
      | none => simp only [hl]
      | some l => simp only [hl]
  rw [if_neg k5, if_neg h6]
  unfold fetchedS
  by_cases hb : BadArg n o
  · rw [if_pos hb, if_pos (by unfold BadArg at hb; refine ⟨h3, ?_⟩; omega)]
  · rw [if_neg hb, if_neg k7, if_neg k4, if_neg k5, if_neg (by unfold BadArg at hb; omega), if_neg (fun hh => h3 hh.1)]
    cases fetch c o.Sector with
    | none => rfl
    | some r =>
      obtain ⟨c1, i, w⟩ := r
      simp only
      cases hl : c1.Lines[i]? with
      | none => simp only [hl]
      | some l =>
        simp only [hl]
        by_cases k1 : o.Kind = 1
        · rw [if_pos k1, if_pos k1]
        · rw [if_neg k1, if_neg k1, if_neg h3]
end Go.Cc

/- A cache of sectors (plain): what the reference's step, of all kinds, keeps (for the draws). Conditions: none. -/
namespace Go.Cc
structure LSafe (n : Nat) (k : Int) (l : Line) : Prop where
  s0 : 0 ≤ l.Sector
  sn : l.Sector < n
  len : l.Data.length = 128
  p0 : 0 ≤ l.Pins
  p8 : l.Pins ≤ k
theorem LSafe.up {n : Nat} {k k' : Int} {l : Line} (h : LSafe n k l) (hk : k ≤ k') : LSafe n k' l := ⟨h.s0, h.sn, h.len, h.p0, Int.le_trans h.p8 hk⟩
structure Safe (n : Nat) (c : Cache) : Prop where
  disk : c.Disk.length = 128 * n
  few : (c.Lines.length : Int) ≤ c.Cap
  cap : 1 ≤ c.Cap
  clock : 0 ≤ c.Clock
  ls : ∀ l, l ∈ c.Lines → LSafe n c.Clock l
theorem Safe.set {n : Nat} {c : Cache} {i : Nat} {l y : Line} {d : List Int} {k : Int} (h : Safe n c) (_hl : c.Lines[i]? = some l) (hd : d.length = 128 * n) (hk : c.Clock ≤ k) (hy : LSafe n k y) : Safe n ⟨c.Cap, k, d, c.Lines.set i y⟩ :=
  ⟨hd, by show ((c.Lines.set i y).length : Int) ≤ _; rw [List.length_set]; exact h.few, h.cap, Int.le_trans h.clock hk, fun z hz => by
    rcases List.mem_or_eq_of_mem_set hz with hz | rfl
    · exact (h.ls z hz).up hk
    · exact hy⟩
theorem safe_wr {n : Nat} {c : Cache} {i : Nat} {l : Line} (h : Safe n c) (hl : c.Lines[i]? = some l) : Safe n (wrL c i l).1 ∧ (wrL c i l).1.Cap = c.Cap ∧ (wrL c i l).1.Clock = c.Clock ∧ (wrL c i l).1.Lines.length = c.Lines.length := by
  have hs := h.ls l (List.mem_of_getElem? hl)
  have s0 := hs.s0
  have sn := hs.sn
  unfold wrL
  split
  · refine ⟨h.set hl ?_ (Int.le_refl _) ⟨hs.s0, hs.sn, hs.len, hs.p0, hs.p8⟩, rfl, rfl, List.length_set⟩
    unfold putSec
    rw [over_len (by rw [hs.len, h.disk]; omega), h.disk]
  · exact ⟨h, rfl, rfl, rfl⟩
theorem safe_cut {n : Nat} {c : Cache} {i : Nat} {l : Line} (h : Safe n c) (hl : c.Lines[i]? = some l) : Safe n (cutL c i) ∧ (cutL c i).Lines.length + 1 = c.Lines.length := by
  have hi := (List.getElem?_eq_some_iff.1 hl).1
  have hlen : (c.Lines.eraseIdx i).length = c.Lines.length - 1 := List.length_eraseIdx_of_lt hi
  have hf := h.few
  exact ⟨⟨h.disk, by show ((c.Lines.eraseIdx i).length : Int) ≤ c.Cap; omega, h.cap, h.clock, fun z hz => h.ls z ((List.eraseIdx_sublist _ i).subset hz)⟩, by show (c.Lines.eraseIdx i).length + 1 = _; omega⟩
theorem place_le (s : Int) (ls : List Line) : place ls s ≤ ls.length := by
  unfold place
  exact (List.takeWhile_prefix _).length_le
theorem safe_ins {n : Nat} {c : Cache} {s : Int} (h : Safe n c) (h0 : 0 ≤ s) (hn : s < n) (hf : (c.Lines.length : Int) < c.Cap) : Safe n (insL c s) ∧ (insL c s).Lines[place c.Lines s]? = some ⟨s, c.Clock + 1, false, 0, secOf c.Disk s.toNat⟩ := by
  have hk := place_le s c.Lines
  have hck := h.clock
  have hy : LSafe n (c.Clock + 1) ⟨s, c.Clock + 1, false, 0, secOf c.Disk s.toNat⟩ := ⟨h0, hn, sec_len h.disk (by show s.toNat < n; omega), Int.le_refl _, by show (0 : Int) ≤ c.Clock + 1; omega⟩
  refine ⟨⟨h.disk, ?_, h.cap, by show (0 : Int) ≤ c.Clock + 1; omega, fun z hz => ?_⟩, ?_⟩
  · show ((c.Lines.take (place c.Lines s) ++ [_] ++ c.Lines.drop (place c.Lines s) : List Line).length : Int) ≤ c.Cap
    rw [List.length_append, List.length_append, List.length_take, List.length_drop, List.length_singleton]; omega
  · have hz : z ∈ c.Lines.take (place c.Lines s) ++ [(⟨s, c.Clock + 1, false, 0, secOf c.Disk s.toNat⟩ : Line)] ++ c.Lines.drop (place c.Lines s) := hz
    rcases List.mem_append.1 hz with hz | hz
    · rcases List.mem_append.1 hz with hz | hz
      · exact (h.ls z (List.mem_of_mem_take hz)).up (by show c.Clock ≤ c.Clock + 1; omega)
      · rw [List.mem_singleton.1 hz]; exact hy
    · exact (h.ls z (List.mem_of_mem_drop hz)).up (by show c.Clock ≤ c.Clock + 1; omega)
  · show (c.Lines.take (place c.Lines s) ++ [(⟨s, c.Clock + 1, false, 0, secOf c.Disk s.toNat⟩ : Line)] ++ c.Lines.drop (place c.Lines s))[place c.Lines s]? = _
    have hl : (c.Lines.take (place c.Lines s)).length = place c.Lines s := by rw [List.length_take]; omega
    rw [List.append_assoc, List.getElem?_append_right (by omega), hl, Nat.sub_self]; rfl
theorem safe_fetch {n : Nat} {c : Cache} {s : Int} (h : Safe n c) (h0 : 0 ≤ s) (hn : s < n) : fetch c s = none ∨ ∃ c1 i w l, fetch c s = some (c1, i, w) ∧ Safe n c1 ∧ c1.Cap = c.Cap ∧ c1.Clock = c.Clock + 1 ∧ c1.Lines[i]? = some l ∧ l.Pins ≤ c.Clock := by
  unfold fetch
  cases hf : ixOf c.Lines s with
  | some i =>
    have hf2 : c.Lines.findIdx? (fun l => l.Sector == s) = some i := hf
    obtain ⟨hi, _, _⟩ := List.findIdx?_eq_some_iff_getElem.1 hf2
    have hl : c.Lines[i]? = some c.Lines[i] := List.getElem?_eq_getElem hi
    simp only [hl]
    have hs := h.ls _ (List.getElem_mem hi)
    exact .inr ⟨_, _, _, _, rfl, h.set hl h.disk (by omega) ⟨hs.s0, hs.sn, hs.len, hs.p0, by have := hs.p8; show c.Lines[i].Pins ≤ c.Clock + 1; omega⟩, rfl, rfl, List.getElem?_set_self hi, hs.p8⟩
  | none =>
    unfold room
    by_cases hfull : (c.Lines.length : Int) = c.Cap
    · rw [if_pos hfull]
      cases ho : oldest c.Lines 0 none with
      | none => exact .inl rfl
      | some p =>
        obtain ⟨o, u⟩ := p
        cases hl : c.Lines[o]? with
        | none => simp only [hl]; exact .inl trivial
        | some l =>
          simp only [hl]
          obtain ⟨a1, a2, a3, a4⟩ := safe_wr h hl
          obtain ⟨l', hl'⟩ : ∃ l', (wrL c o l).1.Lines[o]? = some l' := ⟨_, List.getElem?_eq_getElem (by rw [a4]; exact (List.getElem?_eq_some_iff.1 hl).1)⟩
          obtain ⟨b1, b2⟩ := safe_cut a1 hl'
          have hlt : ((cutL (wrL c o l).1 o).Lines.length : Int) < (cutL (wrL c o l).1 o).Cap := by show _ < (wrL c o l).1.Cap; rw [a2]; omega
          obtain ⟨d1, d2⟩ := safe_ins b1 h0 hn hlt
          exact .inr ⟨_, _, _, _, rfl, d1, a2, by show (wrL c o l).1.Clock + 1 = _; rw [a3], d2, h.clock⟩
    · rw [if_neg hfull]
      have hfew := h.few
      obtain ⟨d1, d2⟩ := safe_ins h h0 hn (by omega)
      exact .inr ⟨_, _, _, _, rfl, d1, rfl, rfl, d2, h.clock⟩
theorem safe_flush {n : Nat} {c : Cache} (h : Safe n c) : ∀ k, Safe n ((List.range k).foldl flush1 (c, [])).1 ∧ ((List.range k).foldl flush1 (c, [])).1.Clock = c.Clock
  | 0 => ⟨h, rfl⟩
  | k + 1 => by
    obtain ⟨i1, i2⟩ := safe_flush h k
    rw [List.range_succ, List.foldl_append]
    generalize (List.range k).foldl flush1 (c, []) = a at *
    show Safe n (flush1 a k).1 ∧ (flush1 a k).1.Clock = c.Clock
    unfold flush1
    cases hl : a.1.Lines[k]? with
    | none => exact ⟨i1, i2⟩
    | some l =>
      obtain ⟨a1, _, a3, _⟩ := safe_wr i1 hl
      exact ⟨a1, a3.trans i2⟩
theorem lineOf_get {c : Cache} {s : Int} {i : Nat} {l : Line} (h : lineOf c s = some (i, l)) : c.Lines[i]? = some l := by
  unfold lineOf at h
  split at h
  · cases h
  · split at h
    · cases h
    · rename_i hl; cases h; exact hl
theorem stepS_safe {n : Nat} {c : Cache} (o : COp) (h : Safe n c) : Safe n (stepS n c o).1 ∧ (stepS n c o).1.Clock ≤ c.Clock + 1 := by
  have same : Safe n c ∧ c.Clock ≤ c.Clock + 1 := ⟨h, by omega⟩
  unfold stepS
  split
  · obtain ⟨a, b⟩ := safe_flush h c.Lines.length
    exact ⟨a, by show (flushC c).1.Clock ≤ _; unfold flushC; rw [b]; omega⟩
  split
  · exact same
  rename_i hk7 hs
  split
  · split
    · exact same
    · rename_i i l hl
      have hg := lineOf_get hl
      have hl2 := h.ls l (List.mem_of_getElem? hg)
      have p0 := hl2.p0
      have p8 := hl2.p8
      split
      · exact same
      · exact ⟨h.set hg h.disk (Int.le_refl _) ⟨hl2.s0, hl2.sn, hl2.len, by show (0 : Int) ≤ l.Pins - 1; omega, by show l.Pins - 1 ≤ c.Clock; omega⟩, by show c.Clock ≤ _; omega⟩
  split
  · split
    · exact same
    · rename_i i l hl
      obtain ⟨a1, _, a3, _⟩ := safe_wr h (lineOf_get hl)
      exact ⟨a1, by show (wrL c i l).1.Clock ≤ _; rw [a3]; omega⟩
  split
  · split
    · exact same
    · rename_i i l hl
      split
      · exact same
      · exact ⟨(safe_cut h (lineOf_get hl)).1, by show c.Clock ≤ _; omega⟩
  unfold fetchedS
  split
  · exact same
  rename_i hargs
  split
  · exact same
  rename_i hpin
  rcases safe_fetch (s := o.Sector) h (by omega) (by omega) with e | ⟨c1, i, w, l, e, f1, f2, f3, f4, f5⟩
  · rw [e]; exact same
  rw [e]
  simp only [f4]
  have hl2 := f1.ls l (List.mem_of_getElem? f4)
  have p0 := hl2.p0
  have p8 := hl2.p8
  split
  · exact ⟨f1, by show c1.Clock ≤ _; omega⟩
  rename_i k1
  split
  · exact ⟨f1.set f4 f1.disk (Int.le_refl _) ⟨hl2.s0, hl2.sn, hl2.len, by show (0 : Int) ≤ l.Pins + 1; omega, by show l.Pins + 1 ≤ c1.Clock; omega⟩, by show c1.Clock ≤ _; omega⟩
  · have hat : o.At.toNat + o.Data.length ≤ 128 := by
      have k2 : o.Kind = 2 := by omega
      have hol : opLen o = (o.Data.length : Int) := by unfold opLen; rw [if_pos k2]
      omega
    exact ⟨f1.set f4 f1.disk (Int.le_refl _) ⟨hl2.s0, hl2.sn, by show (over l.Data o.At.toNat o.Data).length = 128; rw [over_len (by rw [hl2.len]; exact hat)]; exact hl2.len, hl2.p0, hl2.p8⟩, by show c1.Clock ≤ _; omega⟩
end Go.Cc

/- Draws: the cursor (seat a). Conditions: none. -/
set_option linter.unusedVariables false
set_option linter.unusedSimpArgs false
namespace Go.Proofs.Ytenhcpjlkmbedaa
open Go Go.Den
theorem s138 {w0 w : World} {As : List Asr} (h : SH w0 w As) (n : Nat) {cb : Nat} {s : Sl} (hA : As[n]? = some (aC cb s)) (hb : CurB w0 s) :
    CallW Try.prog 138 #[.pointer (some ⟨cb, 0, none⟩)] w (KD w0 As (fun x => 0 ≤ x ∧ x ≤ 255)) := by
  refine go138 ?_
  unfold W138
  have hn := (List.getElem?_eq_some_iff.1 hA).1
  obtain ⟨i, x, hi, h2⟩ := h.openC n hA
  have g : ∀ {A : Asr}, (As.set n A)[n]? = some A := List.getElem?_set_self hn
  refine ⟨_, rfl, _, h2.cellP n g rfl, _, rfl, ?_⟩
  refine h2.setVP n g rfl (fun w4 h4 _ => ?_)
  rw [List.set_set] at h4
  have h5 := h4.drew
  refine ⟨_, rfl, _, h5.cellP n g rfl, by decide, _, rfl, _, h5.cellP n g rfl, by decide, _, rfl, _, h5.drew.cellP n g rfl, _, rfl, s, h5.drew.cellP n g rfl, ?_⟩
  refine BIf.dec (fun hlt => ?_) (fun hge => ?_)
  · have h6 := h5.drew.drew
    obtain ⟨q, m, hq, hc, hm⟩ := hb.at_ i.toNat (by omega)
    have hfew := hb.few
    refine ⟨_, rfl, s, h6.cellP n g rfl, _, rfl, _, h6.cellP n g rfl, hi.1, hlt, q, hq, m, h6.ext.cell hc, _, rfl, _, h6.cellP n g rfl, _, rfl, ?_⟩
    refine h6.setVP n g rfl (fun w22 h7 _ => ?_)
    rw [List.set_set] at h7
    refine ⟨_, rfl, andI_255 _, h7.closeC n hA rfl ?_⟩
    rw [w64 (by omega) (by omega)]; omega
  · exact ⟨_, rfl, andI_255 _, h5.drew.closeC n hA rfl hi⟩
theorem s79 {w0 w : World} {As : List Asr} {k : Int} (h : SH w0 w As) (n : Nat) {cb : Nat} {s : Sl} (hA : As[n]? = some (aC cb s)) (hb : CurB w0 s) :
    CallW Try.prog 79 #[.pointer (some ⟨cb, 0, none⟩), .int .i64 k] w (KD w0 As (below k)) := by
  refine go79 ?_
  unfold W79
  refine BIf.dec (fun h0 => ⟨0, rfl, ⟨Int.le_refl 0, .inr ⟨h0, rfl⟩⟩, h⟩) (fun h0 => ?_)
  have hmod : ∀ x : Int, 0 ≤ x → below k (Int.tmod x k) := fun x hx => by
    have h1 : 0 ≤ x % k := Int.emod_nonneg x (by omega)
    have h2 : x % k < k := Int.emod_lt_of_pos x (by omega)
    rw [Int.tmod_eq_emod_of_nonneg hx]
    exact ⟨h1, .inl h2⟩
  refine BIf.dec (fun h1 => ?_) (fun h1 => ?_)
  · refine (s138 h n hA hb).mono ?_
    rintro _ w2 ⟨x, rfl, hx, h⟩
    exact ⟨x, rfl, by omega, _, rfl, hmod _ hx.1, h⟩
  · refine (s138 h n hA hb).mono ?_
    rintro _ w5 ⟨x, rfl, hx, h⟩
    refine ⟨x, rfl, (s138 h n hA hb).mono ?_⟩
    rintro _ w8 ⟨y, rfl, hy, h⟩
    refine ⟨y, rfl, (s138 h n hA hb).mono ?_⟩
    rintro _ w11 ⟨z, rfl, hz, h⟩
    refine ⟨z, rfl, by omega, _, rfl, ?_, h⟩
    rw [w64 (n := x * 65536) (by omega) (by omega), w64 (n := y * 256) (by omega) (by omega), w64 (n := x * 65536 + y * 256) (by omega) (by omega), w64 (by omega) (by omega)]
    exact hmod _ (by omega)
theorem s80 {w0 w : World} {As : List Asr} {k : Int} (h : SH w0 w As) (n : Nat) {cb : Nat} {s : Sl} (hA : As[n]? = some (aC cb s)) (hb : CurB w0 s) :
    CallW Try.prog 80 #[.pointer (some ⟨cb, 0, none⟩), .int .i64 k] w (KDb w0 As) := by
  refine go80 ?_
  unfold W80
  refine (s79 h n hA hb).mono ?_
  rintro _ w2 ⟨x, rfl, hx, h⟩
  exact ⟨x, rfl, _, rfl, h⟩
theorem s66 {w0 w : World} {F : List Asr} {s : Sl} (h : SH w0 w F) (hb : CurB w0 s) :
    CallW Try.prog 66 #[.slice s.a s.len s.cap] w (fun v w' => ∃ cb, v = .pointer (some ⟨cb, 0, none⟩) ∧ SH w0 w' (aC cb s :: F)) := by
  refine go66 ?_
  unfold W66
  have hfew := hb.few
  refine LoopW.m2 (fun (x i : Int) w' => ∃ m : Nat, i = m ∧ m ≤ s.len ∧ w' = w) (fun _ (i : Int) _ => (s.len - i).toNat) ⟨0, rfl, by omega, rfl⟩ ?_
  rintro (x : Int) (i : Int) w ⟨m, rfl, hm, rfl⟩ J hJ
  refine BIf.dec (fun hlt => ?_) (fun hge => ?_)
  · obtain ⟨q, y, hq, hc, hy⟩ := hb.at_ m (by omega)
    simp only [Int.toNat_natCast]
    refine ⟨by omega, hlt, q, hq, y, h.ext.cell hc, ?_⟩
    rw [w64 (n := (m : Int) + 1) (by omega) (by omega)]
    exact hJ _ _ _ ⟨m + 1, by omega, by omega, rfl⟩ (by omega)
  · refine h.alloc (fun w7 h e7 n7 => ?_)
    exact ⟨w.heap.size, rfl, SH.closeC (As := aC w.heap.size s :: _) 0 rfl h rfl (by omega)⟩
theorem c19 {s : Sl} {w : World} : CallW Try.prog 19 #[.slice s.a s.len s.cap] w (fun v w' => v = .bool (decide ((s.len : Int) > 1048576)) ∧ w' = w) := by
  refine go19 ?_
  unfold W19
  exact ⟨rfl, rfl⟩
end Go.Proofs.Ytenhcpjlkmbedaa

/- Draws: some bytes (seat a). Conditions: none. -/
set_option linter.unusedVariables false
set_option linter.unusedSimpArgs false
namespace Go.Proofs.Ytenhcpjlkmbedaa
open Go Go.Den
abbrev rD (t : Sl) (l : List Int) : Asr := aRow t 1 (nums .u8 l)
structure ByR (l : List Int) : Prop where
  rng : ∀ x, x ∈ l → 0 ≤ x ∧ x ≤ 255
  few : l.length ≤ 2000
theorem zeroD (n : Nat) : List.replicate n (([Value.int .u8 0] : List Value).map Ce.v) = nums .u8 (List.replicate n 0) := by
  unfold nums
  rw [List.map_replicate]; rfl
theorem byR_zero {n : Nat} (h : n ≤ 2000) : ByR (List.replicate n 0) := ⟨fun x hx => by rw [(List.mem_replicate.1 hx).2]; omega, by rw [List.length_replicate]; exact h⟩
theorem wu8q {n : Int} (h0 : 0 ≤ n) (h1 : n ≤ 255) : IntKind.u8.wrap n = n := by
  show n % 256 = n
  omega
theorem s136 {w0 w : World} {As : List Asr} {n : Int} (h : SH w0 w As) (k : Nat) {cb : Nat} {s : Sl} (hA : As[k]? = some (aC cb s)) (hb : CurB w0 s) (hn : n ≤ 100) :
    CallW Try.prog 136 #[.pointer (some ⟨cb, 0, none⟩), .int .i64 n] w (fun v w' => ∃ (t : Sl) (l : List Int), v = .slice t.a t.len t.cap ∧ ByR l ∧ SH w0 w' (rD t l :: As)) := by
  refine go136 ?_
  unfold W136
  refine h.alloc (fun w1 h e1 n1 => ?_)
  have h := h.drop
  refine LoopW.m2 (fun (t : Sl) (i : Int) w' => ∃ (m : Nat) (l : List Int), i = m ∧ m ≤ 100 ∧ l.length = m ∧ (∀ x, x ∈ l → 0 ≤ x ∧ x ≤ 255) ∧ SH w0 w' (rD t l :: As)) (fun _ (i : Int) _ => (n - i).toNat) ⟨0, [], rfl, by omega, rfl, fun x hx => by simp at hx, h.nil _ 1⟩ ?_
  clear h
  rintro (t : Sl) (i : Int) w5 ⟨m, l, rfl, hm, hl, hr, h⟩ J hJ
  refine BIf.dec (fun hlt => ?_) (fun hge => ?_)
  · refine (s138 h (k + 1) (by simpa using hA) hb).mono ?_
    rintro _ w7 ⟨x, rfl, hx, h⟩
    refine ⟨x, rfl, ?_⟩
    rw [wu8q (n := x) hx.1 hx.2, w64 (n := (m : Int) + 1) (by omega) (by omega)]
    refine LetW_iff.2 (SH.appendN1 h rfl rfl (by decide) (by rw [hl]; show _ * 1 ≤ _; omega) (fun t2 w11 h hl2 _ => ?_))
    exact hJ _ _ _ ⟨m + 1, l ++ [x], by omega, by omega, by rw [List.length_append, hl]; rfl, fun z hz => by
      rcases List.mem_append.1 hz with hz | hz
      · exact hr z hz
      · rw [List.mem_singleton.1 hz]; exact hx, h⟩ (by omega)
  · exact ⟨t, l, rfl, ⟨hr, by omega⟩, h⟩
end Go.Proofs.Ytenhcpjlkmbedaa

/- A cache in memory: rows and bags; where a sector's line lies, both sides. Conditions: none. -/
set_option linter.unusedVariables false
set_option linter.unusedSimpArgs false
namespace Go.Proofs.Ytenhcpjlkmbedaa
open Go Go.Den Go.Cc
structure RLine where
  Sector : Int
  Used : Int
  Dirty : Bool
  Pins : Int
  D : Sl
  Data : List Int
def RLine.cells (x : RLine) : List Value := [.int .i64 x.Sector, .int .i64 x.Used, .bool x.Dirty, .int .i64 x.Pins, .slice x.D.a x.D.len x.D.cap]
def RLine.abs (x : RLine) : Line := ⟨x.Sector, x.Used, x.Dirty, x.Pins, x.Data⟩
def lineA (x : RLine) : Asr := rD x.D x.Data
abbrev rL (t : Sl) (l : List RLine) : Asr := aRow t 5 (recs RLine.cells l)
abbrev bL (l : List RLine) : Asr := aBag lineA l
abbrev kV (cap clock : Int) (td tl : Sl) : List Value := [.int .i64 cap, .int .i64 clock, .slice td.a td.len td.cap, .slice tl.a tl.len tl.cap]
/-- A cache in a block. -/
abbrev BK (b : Nat) (cap clock : Int) (td tl : Sl) : Asr := aB b ((kV cap clock td tl).map Ce.v)
def ixI (ls : List Line) (s : Int) : Int := match ixOf ls s with
  | some i => (i : Int)
  | none => -1
theorem ixI_at {ls : List Line} {s : Int} {k : Nat} {x : Line} (hx : ls[k]? = some x) (he : x.Sector = s) (hn : ∀ j y, j < k → ls[j]? = some y → y.Sector ≠ s) : ixI ls s = k := by
  obtain ⟨hk, e⟩ := List.getElem?_eq_some_iff.1 hx
  have h : ixOf ls s = some k := List.findIdx?_eq_some_iff_getElem.2 ⟨hk, by rw [e, he]; simp, fun j hj => by
    have := hn j _ hj (List.getElem?_eq_getElem (by omega))
    simpa using this⟩
  unfold ixI; rw [h]
theorem ixI_no {ls : List Line} {s : Int} (hn : ∀ j y, j < ls.length → ls[j]? = some y → y.Sector ≠ s) : ixI ls s = -1 := by
  have h : ixOf ls s = none := List.findIdx?_eq_none_iff.2 (fun x hx => by
    obtain ⟨j, hj⟩ := List.getElem?_of_mem hx
    have := hn j x (List.getElem?_eq_some_iff.1 hj).1 hj
    simpa using this)
  unfold ixI; rw [h]
theorem map_at {ls : List RLine} {j : Nat} {y : Line} (h : (ls.map RLine.abs)[j]? = some y) : ∃ x, ls[j]? = some x ∧ x.abs = y := by
  rw [List.getElem?_map] at h
  cases hx : ls[j]? with
  | none => rw [hx] at h; cases h
  | some x => rw [hx] at h; exact ⟨x, rfl, by simpa using h⟩
/-- The program's. -/
theorem s175 {w0 w : World} {As : List Asr} {b : Nat} {cap clock : Int} {td tl : Sl} {ls : List RLine} {s : Int} (h : SH w0 w As) (i j : Nat) (hi : As[i]? = some (BK b cap clock td tl)) (hj : As[j]? = some (rL tl ls)) (hf : ls.length ≤ 1048576) :
    CallW Try.prog 175 #[.pointer (some ⟨b, 0, none⟩), .int .i64 s] w (fun v w' => v = .int .i64 (ixI (ls.map RLine.abs) s) ∧ w' = w) := by
  refine go175 ?_
  unfold W175
  have hl : tl.len = ls.length := by have := h.len j hj; rw [recs_len] at this; exact this
  refine ⟨_, rfl, tl, h.cellP i hi rfl, ?_⟩
  refine LoopW.m1 (fun (k : Int) w' => ∃ m : Nat, k = m ∧ m ≤ ls.length ∧ (∀ a x, a < m → ls[a]? = some x → x.Sector ≠ s) ∧ w' = w) (fun (k : Int) _ => ((ls.length : Int) - k).toNat) ⟨0, rfl, by omega, fun a x ha => by omega, rfl⟩ ?_
  rintro (k : Int) w5 ⟨m, rfl, hm, hno, rfl⟩ J hJ
  refine BIf.dec (fun hlt => ?_) (fun hge => ?_)
  · obtain ⟨x, hx⟩ : ∃ x, ls[m]? = some x := ⟨_, List.getElem?_eq_getElem (by omega)⟩
    obtain ⟨q, hq⟩ := h.rowQ j hj hx
    simp only [Int.toNat_natCast]
    refine ⟨_, rfl, tl, h.cellP i hi rfl, by omega, by omega, q, hq, _, h.rdR j hj hq hx rfl, ?_⟩
    rw [w64 (n := (m : Int) + 1) (by omega) (by omega)]
    refine BIf.eq (fun he => ⟨?_, by trivial⟩) (fun hne => ?_)
    · rw [ixI_at (k := m) (x := x.abs) (by rw [List.getElem?_map, hx]; rfl) he (fun a y ha hy => by
        obtain ⟨x2, h2, rfl⟩ := map_at hy
        exact hno a x2 ha h2)]
    · refine hJ _ _ ⟨m + 1, by omega, by omega, fun a y ha hy => ?_, rfl⟩ (by omega)
      by_cases ham : a = m
      · subst ham; rw [hx] at hy; cases hy; exact hne
      · exact hno a y (by omega) hy
  · refine ⟨?_, by trivial⟩
    rw [ixI_no (fun a y ha hy => by
      obtain ⟨x2, h2, rfl⟩ := map_at hy
      exact hno a x2 (by rw [List.length_map] at ha; omega) h2)]
end Go.Proofs.Ytenhcpjlkmbedaa

/- A cache in memory: the program's write and drop. Conditions: none. -/
set_option linter.unusedVariables false
set_option linter.unusedSimpArgs false
namespace Go.Proofs.Ytenhcpjlkmbedaa
open Go Go.Den Go.Cc
structure RWr where
  Sector : Int
  D : Sl
  Data : List Int
def RWr.cells (x : RWr) : List Value := [.int .i64 x.Sector, .slice x.D.a x.D.len x.D.cap]
def RWr.abs (x : RWr) : Wr := ⟨x.Sector, x.Data⟩
def wrA (x : RWr) : Asr := rD x.D x.Data
abbrev rW (t : Sl) (l : List RWr) : Asr := aRow t 2 (recs RWr.cells l)
abbrev bW (l : List RWr) : Asr := aBag wrA l
abbrev BR (b : Nat) (code : Int) (td tw : Sl) : Asr := aB b (([.int .i64 code, .slice td.a td.len td.cap, .slice tw.a tw.len tw.cap] : List Value).map Ce.v)
abbrev N0 : Sl := ⟨none, 0, 0⟩
def RLine.clean (x : RLine) : RLine := ⟨x.Sector, x.Used, false, x.Pins, x.D, x.Data⟩
theorem plain_wr (x : RWr) : ∀ v, v ∈ x.cells → plainB v = true := fun v hv => by
  simp only [RWr.cells, List.mem_cons, List.not_mem_nil, or_false] at hv
  rcases hv with rfl | rfl <;> rfl
theorem plain_line (x : RLine) : ∀ v, v ∈ x.cells → plainB v = true := fun v hv => by
  simp only [RLine.cells, List.mem_cons, List.not_mem_nil, or_false] at hv
  rcases hv with rfl | rfl | rfl | rfl | rfl <;> rfl
theorem cut_some {s : Sl} {q : Addr} {i z : Nat} (hq : s.a = some q) (hi : i < s.cap) : cutA s.a s.cap i z = some (q.add (i * z)) := by
  unfold cutA; rw [if_neg (by omega), hq]; rfl
/-- The bytes of a line. -/
theorem line_at {w0 w : World} {As : List Asr} {ls : List RLine} {i : Nat} {x : RLine} (h : SH w0 w As) (n : Nat) (hA : As[n]? = some (bL ls)) (hx : ls[i]? = some x) : ∃ G, SH w0 w (rD x.D x.Data :: G) :=
  ⟨_, SH.bagOut (h.front hA) hx⟩
theorem put_sec {disk x : List Int} {s : Nat} (hx : x.length = 128) : disk.take (s * 128) ++ x ++ disk.drop (s * 128 + x.length) = putSec disk s x := by
  unfold putSec over
  rw [Nat.mul_comm s 128]
set_option maxHeartbeats 1000000 in
theorem s176 {w0 w : World} {F : List Asr} {b rb i : Nat} {cap clock code : Int} {td tl tt tw : Sl} {disk : List Int} {ls : List RLine} {ws : List RWr} {x : RLine}
    (h : SH w0 w (BK b cap clock td tl :: rD td disk :: rL tl ls :: bL ls :: BR rb code tt tw :: rW tw ws :: bW ws :: F))
    (hx : ls[i]? = some x) (h0 : 0 ≤ x.Sector) (hn : (x.Sector + 1) * 128 ≤ disk.length) (hd : disk.length ≤ 131072) (hxl : x.Data.length = 128) (hws : ws.length ≤ 1000) (hls : ls.length ≤ 1000) :
    CallW Try.prog 176 #[.pointer (some ⟨b, 0, none⟩), .int .i64 (i : Int), .pointer (some ⟨rb, 0, none⟩)] w (fun v w' => v = .tuple #[] ∧ ∃ (tw' : Sl) (y : RWr), y.abs = ⟨x.Sector, x.Data⟩ ∧ SH w0 w' (BK b cap clock td tl :: rD td (putSec disk x.Sector.toNat x.Data) :: rL tl (ls.set i x.clean) :: bL (ls.set i x.clean) :: BR rb code tt tw' :: rW tw' (ws ++ [y]) :: bW (ws ++ [y]) :: F)) := by
  refine go176 ?_
  unfold W176
  have hi := (List.getElem?_eq_some_iff.1 hx).1
  have htl := h.len 2 rfl
  rw [recs_len] at htl
  have htd := h.len 1 rfl
  rw [nums_len] at htd
  obtain ⟨q, hq⟩ := h.rowQ 2 rfl hx
  simp only [Int.toNat_natCast]
  refine ⟨_, rfl, tl, h.cellP 0 rfl rfl, by omega, by omega, q, hq, ?_⟩
  have h := h.drew
  refine ⟨_, rfl, td, h.cellP 0 rfl rfl, _, rfl, _, h.rdR 2 rfl hq hx rfl, ?_⟩
  rw [w64 (n := x.Sector * 128) (by omega) (by omega)]
  refine ⟨by omega, by omega, _, rfl, x.D, h.rdR 2 rfl hq hx rfl, ?_⟩
  obtain ⟨G, g⟩ := line_at h 3 rfl hx
  have hxD := g.len 0 rfl
  rw [nums_len, hxl] at hxD
  have hto : (x.Sector * 128).toNat = x.Sector.toNat * 128 := by omega
  rw [hto, show min x.D.len (td.len - x.Sector.toNat * 128) * 1 = x.D.len by omega]
  refine ⟨_, g.rowN 0 rfl, plain_u8, ?_⟩
  have hcap := h.lenCap 1 rfl
  obtain ⟨bd, hbd, _⟩ := h.addr 1 rfl (by omega)
  obtain ⟨hm, h⟩ := SH.putN (o := x.Sector.toNat * 128) x.Data 0 h.p1 hbd (by omega)
  rw [List.length_map]
  rw [Nat.add_zero, put_sec hxl] at h
  refine .inr ⟨_, cut_some hbd (by omega), fun j hj => by rw [Nat.mul_one]; exact hm j (Nat.zero_le _) (by omega), ?_⟩
  rw [Nat.mul_one]
  generalize Den.puts _ _ 0 (x.Data.map (Value.int .u8)) = w10 at *
  have h : SH w0 w10 (BK b cap clock td tl :: rD td (putSec disk x.Sector.toNat x.Data) :: rL tl (ls.set i x) :: bL ls :: BR rb code tt tw :: rW tw ws :: bW ws :: F) := by rw [set_id hx]; exact h.p1
  refine ⟨_, rfl, h.setR 2 (k := i) (x := x) x.clean rfl hq hi (by show 2 < 5; decide) rfl (fun w13 h n13 => ?_)⟩
  have h : SH w0 w13 (BK b cap clock td tl :: rD td (putSec disk x.Sector.toNat x.Data) :: rL tl (ls.set i x.clean) :: bL ls :: BR rb code tt tw :: rW tw ws :: bW ws :: F) := h
  have hx2 : (ls.set i x.clean)[i]? = some x.clean := List.getElem?_set_self hi
  have h := h.drew
  refine ⟨_, rfl, tw, h.cellP 4 rfl rfl, _, rfl, _, h.rdR 2 rfl hq hx2 rfl, _, rfl, x.D, h.rdR 2 rfl hq hx2 rfl, ?_⟩
  obtain ⟨G2, g2⟩ := line_at h 3 rfl hx
  refine SH.appendN (m := []) (h.nil none 1) (g2.rowN 0 rfl) rfl rfl (by decide) (by show (_ + _) * 1 ≤ _; rw [hxl]; decide) (fun l20 w21 h hl20 _ => ?_)
  refine ⟨⟨_, h.rdR 3 rfl hq hx2 rfl, rfl⟩, ⟨tw, h.cellP 5 rfl rfl, rfl⟩, ?_⟩
  have h : SH w0 w21 (rW tw ws :: rD l20 x.Data :: BK b cap clock td tl :: rD td (putSec disk x.Sector.toNat x.Data) :: rL tl (ls.set i x.clean) :: bL ls :: BR rb code tt tw :: bW ws :: F) := h.front (n := 6) rfl
  refine LetW_iff.2 ?_
  refine ⟨⟨tw, (h.to (ext_alloc _ _)).cellP 6 rfl rfl, rfl⟩, ?_⟩
  refine SH.appendR1 (f := RWr.cells) (x := ⟨x.Sector, l20, x.Data⟩) h rfl rfl rfl (by decide) (by show (_ + _) * 32 ≤ _; omega) (plain_wr _) (fun l26 w27 h hl26 _ => ?_)
  refine ⟨_, rfl, h.setVP 6 rfl rfl (fun w29 h n29 => ?_)⟩
  refine ⟨by trivial, l26, ⟨x.Sector, l20, x.Data⟩, rfl, ?_⟩
  have h : SH w0 w29 (rW l26 (ws ++ [⟨x.Sector, l20, x.Data⟩]) :: wrA ⟨x.Sector, l20, x.Data⟩ :: BK b cap clock td tl :: rD td (putSec disk x.Sector.toNat x.Data) :: rL tl (ls.set i x.clean) :: bL ls :: BR rb code tt l26 :: bW ws :: F) := h
  have h := SH.bagSnoc (((h.front (n := 7) rfl).front (n := 2) rfl))
  have h : SH w0 w29 (bL ls :: BR rb code tt l26 :: rW l26 (ws ++ [⟨x.Sector, l20, x.Data⟩]) :: bW (ws ++ [⟨x.Sector, l20, x.Data⟩]) :: BK b cap clock td tl :: rD td (putSec disk x.Sector.toNat x.Data) :: rL tl (ls.set i x.clean) :: F) := (((h.front (n := 1) rfl).front (n := 6) rfl).front (n := 6) rfl)
  have h := SH.bagOut h hx
  have h := SH.bagIn (f := lineA) (x := x) (y := x.clean) hx h
  exact (((h.front (n := 6) rfl).front (n := 6) rfl).front (n := 6) rfl)
/-- A line goes. -/
theorem s177 {w0 w : World} {F : List Asr} {b i : Nat} {cap clock : Int} {td tl : Sl} {disk : List Int} {ls : List RLine}
    (h : SH w0 w (BK b cap clock td tl :: rD td disk :: rL tl ls :: bL ls :: F)) (hi : i < ls.length) (hls : ls.length ≤ 1000) :
    CallW Try.prog 177 #[.pointer (some ⟨b, 0, none⟩), .int .i64 (i : Int)] w (fun v w' => v = .tuple #[] ∧ ∃ tl' : Sl, SH w0 w' (BK b cap clock td tl' :: rD td disk :: rL tl' (ls.eraseIdx i) :: bL (ls.eraseIdx i) :: F)) := by
  refine go177 ?_
  unfold W177
  have htl := h.len 2 rfl
  rw [recs_len] at htl
  have hcap := h.lenCap 2 rfl
  simp only [Int.toNat_natCast]
  have h := h.drew
  refine ⟨_, rfl, tl, h.cellP 0 rfl rfl, by omega, by omega, _, rfl, tl, h.cellP 0 rfl rfl, ?_⟩
  rw [w64 (n := (i : Int) + 1) (by omega) (by omega)]
  refine ⟨by omega, by omega, ?_⟩
  have hto : ((i : Int) + 1).toNat = i + 1 := by omega
  rw [hto]
  refine SH.appendR (f := RLine.cells) (l := []) (us := ls.take i) (h.nil none 5) (RowAt.pre (f := RLine.cells) (z := 5) (i := i) (fun _ => rfl) (h.rowR 2 rfl) (by omega)) (by rw [List.length_take]; show min i ls.length = i - 0; omega) (fun _ => rfl) rfl rfl (by decide) (by show (_ + _) * 56 ≤ _; simp; omega) plain_line (fun l5 w6 h hl5 _ => ?_)
  refine ⟨⟨tl, h.cellP 1 rfl rfl, rfl⟩, ?_⟩
  have h : SH w0 w6 (rL l5 (ls.take i) :: BK b cap clock td tl :: rD td disk :: rL tl ls :: bL ls :: F) := h
  refine SH.appendR (f := RLine.cells) (us := ls.drop (i + 1)) h (RowAt.suf (f := RLine.cells) (z := 5) (i := i + 1) (fun _ => rfl) (h.rowR 3 rfl) htl hcap (by omega)) (by rw [List.length_drop]; show _ = tl.len - (i + 1); omega) (fun _ => rfl) rfl rfl (by decide) (by show (_ + _) * 56 ≤ _; simp; omega) plain_line (fun l8 w9 h hl8 _ => ?_)
  refine ⟨_, rfl, h.setVP 1 rfl rfl (fun w11 h n11 => ?_)⟩
  refine ⟨by trivial, l8, ?_⟩
  rw [← List.eraseIdx_eq_take_drop_succ] at h
  have h : SH w0 w11 (rL l8 (ls.eraseIdx i) :: BK b cap clock td l8 :: rD td disk :: rL tl ls :: bL ls :: F) := h
  have h := SH.bagErase (i := i) (((h.dropAt 3).front (n := 3) rfl))
  exact (((h.front (n := 1) rfl).front (n := 3) rfl).front (n := 3) rfl)
end Go.Proofs.Ytenhcpjlkmbedaa

/- A cache in memory: a sector's bytes, both sides; the program fetches. Conditions: none. -/
set_option linter.unusedVariables false
set_option linter.unusedSimpArgs false
namespace Go.Proofs.Ytenhcpjlkmbedaa
open Go Go.Den Go.Cc
theorem row_cut {w : World} {s : Sl} {m : List Int} {a n : Nat} (h : RowAt w s.a s.len (m.map (Value.int .u8))) (hl : s.len = m.length) (hc : s.len ≤ s.cap) (ha : a + n ≤ m.length) : RowAt w (cutA s.a s.cap a 1) n (((m.drop a).take n).map (Value.int .u8)) := by
  refine ⟨by simp; omega, fun hn => ?_⟩
  obtain ⟨p, hp, hcell⟩ := h.2 (by omega)
  refine ⟨p.add (a * 1), cut_some hp (by omega), fun j v hj => ?_⟩
  rw [add_add, Nat.mul_one]
  refine hcell _ v ?_
  rw [List.getElem?_map] at hj ⊢
  have hjn : j < n := by
    rcases Nat.lt_or_ge j n with h1 | h1
    · exact h1
    · rw [List.getElem?_eq_none (by rw [List.length_take]; omega)] at hj; cases hj
  rw [List.getElem?_take_of_lt hjn, List.getElem?_drop] at hj
  exact hj
theorem s95 {w0 w : World} {As : List Asr} {n : Nat} {td : Sl} {disk : List Int} {s : Nat} (h : SH w0 w As) (hA : As[n]? = some (rD td disk)) (hs : (s + 1) * 128 ≤ disk.length) (hd : disk.length ≤ 131072) :
    CallW Try.prog 95 #[.slice td.a td.len td.cap, .int .i64 (s : Int)] w (fun v w' => ∃ t : Sl, v = .slice t.a t.len t.cap ∧ SH w0 w' (rD t (secOf disk s) :: As)) := by
  refine go95 ?_
  unfold W95
  have hl := h.len n hA
  rw [nums_len] at hl
  have hc := h.lenCap n hA
  have e1 : IntKind.i64.wrap (IntKind.i64.wrap ((s : Int) + 1) * 128) = (((s + 1) * 128 : Nat) : Int) := by rw [w64 (n := (s : Int) + 1) (by omega) (by omega), w64 (by omega) (by omega)]; omega
  have e2 : IntKind.i64.wrap ((s : Int) * 128) = ((s * 128 : Nat) : Int) := by rw [w64 (by omega) (by omega)]; omega
  rw [e1, e2]
  refine ⟨by omega, by omega, by omega, by omega, ?_⟩
  rw [Int.toNat_natCast, Int.toNat_natCast, show (s + 1) * 128 - s * 128 = 128 by omega]
  refine SH.appendN (m := []) (us := secOf disk s) (h.nil none 1) (by unfold secOf; rw [Nat.mul_comm 128 s]; exact row_cut (n := 128) (h.rowN n hA) hl hc (by omega)) rfl rfl (by decide) (by show (_ + _) * 1 ≤ _; unfold secOf; rw [List.length_take]; simp; omega) (fun t w2 h _ _ => ⟨t, rfl, h⟩)
theorem s143 {w0 w : World} {As : List Asr} {n : Nat} {td : Sl} {disk : List Int} {s : Nat} (h : SH w0 w As) (hA : As[n]? = some (rD td disk)) (hs : (s + 1) * 128 ≤ disk.length) (hd : disk.length ≤ 131072) :
    CallW Try.prog 143 #[.slice td.a td.len td.cap, .int .i64 (s : Int)] w (fun v w' => ∃ t : Sl, v = .slice t.a t.len t.cap ∧ SH w0 w' (rD t (secOf disk s) :: As)) := by
  refine go143 ?_
  unfold W143
  have hl := h.len n hA
  rw [nums_len] at hl
  have hc := h.lenCap n hA
  have e1 : IntKind.i64.wrap (IntKind.i64.wrap ((s : Int) + 1) * 128) = (((s + 1) * 128 : Nat) : Int) := by rw [w64 (n := (s : Int) + 1) (by omega) (by omega), w64 (by omega) (by omega)]; omega
  have e2 : IntKind.i64.wrap ((s : Int) * 128) = ((s * 128 : Nat) : Int) := by rw [w64 (by omega) (by omega)]; omega
  refine h.alloc (fun w1 h e1 n1 => ?_)
  have h := h.drop
  rw [‹IntKind.i64.wrap (IntKind.i64.wrap ((s : Int) + 1) * 128) = (((s + 1) * 128 : Nat) : Int)›, e2]
  refine ⟨by omega, by omega, by omega, by omega, ?_⟩
  rw [Int.toNat_natCast, Int.toNat_natCast, show (s + 1) * 128 - s * 128 = 128 by omega]
  refine SH.appendN (m := []) (us := secOf disk s) (h.nil _ 1) (by unfold secOf; rw [Nat.mul_comm 128 s]; exact row_cut (n := 128) (h.rowN n hA) hl hc (by omega)) rfl rfl (by decide) (by show (_ + _) * 1 ≤ _; unfold secOf; rw [List.length_take]; simp; omega) (fun t w2 h _ _ => ⟨t, rfl, h⟩)
def aC_ (cap clock : Int) (disk : List Int) (ls : List RLine) : Cache := ⟨cap, clock, disk, ls.map RLine.abs⟩
/-- The best so far. -/
def BstI (ls : List RLine) (o : Int) : Option (Nat × Int) → Prop
  | none => o = -1
  | some (k, u) => o = k ∧ ∃ x, ls[k]? = some x ∧ x.Used = u
theorem place_is {ls : List Line} {s : Int} : ∀ {k : Nat}, (∀ (j : Nat) (y : Line), j < k → ls[j]? = some y → y.Sector < s) → (∀ y, ls[k]? = some y → ¬ y.Sector < s) → k ≤ ls.length → place ls s = k := by
  induction ls with
  | nil => intro k _ _ hk; simp at hk; subst hk; rfl
  | cons l r ih =>
    intro k h1 h2 hk
    cases k with
    | zero =>
      have := h2 l rfl
      unfold place
      rw [List.takeWhile_cons_of_neg (by simpa using this)]; rfl
    | succ k =>
      have hl := h1 0 l (by omega) rfl
      have := ih (k := k) (fun j y hj hy => h1 (j + 1) y (by omega) hy) (fun y hy => h2 y hy) (by simp at hk; omega)
      unfold place at this ⊢
      rw [List.takeWhile_cons_of_pos (by simpa using hl), List.length_cons, this]
abbrev KP (b rb : Nat) (cap clock code : Int) (td tl tt tw : Sl) (disk : List Int) (ls : List RLine) (ws : List RWr) (F : List Asr) : List Asr :=
  BK b cap clock td tl :: rD td disk :: rL tl ls :: bL ls :: BR rb code tt tw :: rW tw ws :: bW ws :: F
def FetchR (w0 : World) (F : List Asr) (b rb : Nat) (cap clock code : Int) (td tt : Sl) (disk : List Int) (ls : List RLine) (ws : List RWr) (s : Int) (v : Value) (w' : World) : Prop :=
  ∃ (tl tw : Sl) (q : Addr) (i : Nat) (x : RLine) (disk' : List Int) (ls' : List RLine) (wn : List RWr), v = .pointer (some (q.add (i * 5))) ∧ tl.a = some q ∧ ls'[i]? = some x ∧
    fetch (aC_ cap clock disk ls) s = some (aC_ cap (clock + 1) disk' ls', i, wn.map RWr.abs) ∧ wn.length ≤ 1 ∧ SH w0 w' (KP b rb cap (clock + 1) code td tl tt tw disk' ls' (ws ++ wn) F)
theorem abs_at {ls : List RLine} {i : Nat} {x : RLine} (h : ls[i]? = some x) : (ls.map RLine.abs)[i]? = some x.abs := by rw [List.getElem?_map, h]; rfl
def RLine.used (x : RLine) (k : Int) : RLine := ⟨x.Sector, k, x.Dirty, x.Pins, x.D, x.Data⟩
set_option maxHeartbeats 2000000 in
theorem s174 {w0 w : World} {F : List Asr} {b rb n : Nat} {cap clock code : Int} {td tl tt tw : Sl} {disk : List Int} {ls : List RLine} {ws : List RWr} {s : Int}
    (h : SH w0 w (KP b rb cap clock code td tl tt tw disk ls ws F)) (hok : COk n (aC_ cap clock disk ls)) (hcap : cap ≤ 64) (hn : n ≤ 1024) (hck : clock ≤ 1000000) (h0 : 0 ≤ s) (hs : s < n) (hws : ws.length ≤ 999) :
    CallW Try.prog 174 #[.pointer (some ⟨b, 0, none⟩), .int .i64 s, .pointer (some ⟨rb, 0, none⟩)] w (FetchR w0 F b rb cap clock code td tt disk ls ws s) := by
  refine go174 ?_
  unfold W174
  have hdl : disk.length = 128 * n := hok.disk
  have hfew : ((ls.map RLine.abs).length : Int) ≤ cap := hok.few
  rw [List.length_map] at hfew
  have hck0 : 0 ≤ clock := hok.clock
  refine (s175 (s := s) h 0 2 rfl rfl (by omega)).mono ?_
  rintro _ w ⟨rfl, rfl⟩
  refine ⟨_, rfl, ?_⟩
  cases hix : ixOf (ls.map RLine.abs) s with
  | some i =>
    have hix2 : (ls.map RLine.abs).findIdx? (fun l => l.Sector == s) = some i := hix
    obtain ⟨hi, _, _⟩ := List.findIdx?_eq_some_iff_getElem.1 hix2
    rw [List.length_map] at hi
    have hx : ls[i]? = some ls[i] := List.getElem?_eq_getElem hi
    generalize ls[i] = x at hx
    have hixI : ixI (ls.map RLine.abs) s = i := by unfold ixI; rw [hix]
    have htl := h.len 2 rfl
    rw [recs_len] at htl
    obtain ⟨q, hq⟩ := h.rowQ 2 rfl hx
    rw [hixI]
    refine BIf.t (decide_eq_true (by omega)) ?_
    simp only [Int.toNat_natCast]
    refine ⟨_, rfl, _, h.cellP 0 rfl rfl, _, rfl, h.setVP 0 rfl rfl (fun w7 h n7 => ?_)⟩
    rw [w64 (n := clock + 1) (by omega) (by omega)] at *
    have h : SH w0 w7.drew (BK b cap (clock + 1) td tl :: rD td disk :: rL tl (ls.set i x) :: bL ls :: BR rb code tt tw :: rW tw ws :: bW ws :: F) := by rw [set_id hx]; exact h.drew
    refine ⟨_, rfl, tl, h.cellP 0 rfl rfl, _, rfl, _, h.cellP 0 rfl rfl, by omega, by omega, q, hq, ?_⟩
    refine h.setR 2 (k := i) (x := x) (x.used (clock + 1)) rfl hq hi (by show 1 < 5; decide) rfl (fun w13 h n13 => ?_)
    refine ⟨_, rfl, tl, h.cellP 0 rfl rfl, by omega, by omega, q, hq, ?_⟩
    have h : SH w0 w13 (BK b cap (clock + 1) td tl :: rD td disk :: rL tl (ls.set i (x.used (clock + 1))) :: bL ls :: BR rb code tt tw :: rW tw ws :: bW ws :: F) := h
    have h := SH.bagOut ((h.front (n := 3) rfl)) hx
    have h := SH.bagIn (f := lineA) (x := x) (y := x.used (clock + 1)) hx h
    refine ⟨tl, tw, q, i, x.used (clock + 1), disk, ls.set i (x.used (clock + 1)), [], rfl, hq, List.getElem?_set_self hi, ?_, by simp, ?_⟩
    · unfold fetch aC_
      simp only [hix, abs_at hx, List.map_set]
      rfl
    · rw [List.append_nil]
      exact (((h.front (n := 3) rfl).front (n := 3) rfl).front (n := 3) rfl)
  | none =>
    have hixI : ixI (ls.map RLine.abs) s = -1 := by unfold ixI; rw [hix]
    rw [hixI]
    refine BIf.f (decide_eq_false (by omega)) ?_
    refine JoinW.cut0 (fun w' => ∃ (tl tw : Sl) (disk' : List Int) (ls' : List RLine) (wn : List RWr), room (aC_ cap clock disk ls) = some (aC_ cap clock disk' ls', wn.map RWr.abs) ∧ wn.length ≤ 1 ∧ disk'.length = disk.length ∧ (ls'.length : Int) < cap ∧ SH w0 w' (KP b rb cap clock code td tl tt tw disk' ls' (ws ++ wn) F)) ?_ ?_
    · have htl := h.len 2 rfl
      rw [recs_len] at htl
      have h := h.drew
      refine ⟨_, rfl, tl, h.cellP 0 rfl rfl, _, rfl, _, h.cellP 0 rfl rfl, ?_⟩
      refine BIf.eq (fun hfull => ?_) (fun hroom => ⟨tl, tw, disk, ls, [], (by unfold room; rw [if_neg (by unfold aC_; simp only [List.length_map]; omega)]; rfl), by simp, rfl, by omega, by rw [List.append_nil]; exact h⟩)
      have hcap1 : 1 ≤ cap := hok.cap
      refine ⟨_, rfl, tl, h.cellP 0 rfl rfl, ?_⟩
      obtain ⟨o, u, hou, ho⟩ := oldest_some (ls.map RLine.abs) 0 none (fun l hl => (hok.ls.each l hl).pins) (fun o u e => by cases e) (.inr (fun e => by have := congrArg List.length e; simp only [List.length_map, List.length_nil] at this; omega))
      rw [List.length_map, Nat.zero_add] at ho
      refine LoopW.m2 (fun (o : Int) (i : Int) w' => ∃ (k : Nat) (best : Option (Nat × Int)), i = k ∧ k ≤ ls.length ∧ oldest ((ls.map RLine.abs).drop k) k best = oldest (ls.map RLine.abs) 0 none ∧ BstI ls o best ∧ SH w0 w' (KP b rb cap clock code td tl tt tw disk ls ws F)) (fun _ (i : Int) _ => (ls.length - i).toNat) ⟨0, none, rfl, by omega, rfl, rfl, h⟩ ?_
      clear h
      rintro (o1 : Int) (i : Int) w68 ⟨k, best, rfl, hk, hold, hb, h⟩ J hJ
      refine BIf.dec (fun hlt => ?_) (fun hge => ?_)
      · have hx : ls[k]? = some ls[k] := List.getElem?_eq_getElem (by omega)
        generalize ls[k] = x at hx
        obtain ⟨q, hq⟩ := h.rowQ 2 rfl hx
        simp only [Int.toNat_natCast]
        refine ⟨by omega, by omega, q, hq, _, h.rdR 2 rfl hq hx rfl, _, h.rdR 2 rfl hq hx rfl, _, h.rdR 2 rfl hq hx rfl, _, h.rdR 2 rfl hq hx rfl, x.D, h.rdR 2 rfl hq hx rfl, ?_⟩
        refine h.alloc (fun w75 h e75 n75 => ?_)
        refine h.put 0 rfl rfl rfl (fun w76 h n76 => ?_)
        have h := h.drew
        rw [w64 (n := (k : Int) + 1) (by omega) (by omega)]
        refine JoinW.cut1 (fun (c : Bool) w' => (if x.Pins = 0 then better k x.abs best else best) = (if c = true then some (k, x.Used) else best) ∧ w' = w76.drew) ?_ ?_
        · refine ⟨_, h.cell 0 rfl rfl, BIf.eq (fun hp => BIf.dec (fun hneg => ⟨?_, rfl⟩) (fun hpos => ?_)) (fun hp => ⟨by rw [if_neg hp]; rfl, rfl⟩)⟩
          · rw [if_pos hp, if_pos rfl]
            cases best with
            | none => rfl
            | some p => obtain ⟨a, _⟩ := hb; omega
          · cases best with
            | none => have hb : o1 = -1 := hb; omega
            | some p =>
              obtain ⟨e1, y, hy, hyu⟩ := hb
              subst e1
              have hyl := (List.getElem?_eq_some_iff.1 hy).1
              simp only [Int.toNat_natCast]
              refine ⟨_, h.cell 0 rfl rfl, _, rfl, tl, h.cellP 1 rfl rfl, by omega, by omega, q, hq, _, h.rdR 3 rfl hq hy rfl, ?_, by trivial⟩
              rw [if_pos hp, hyu]
              unfold better
              by_cases hu : x.Used < p.2
              · rw [if_pos (decide_eq_true hu)]
                exact if_pos hu
              · rw [if_neg (by simpa using hu)]
                exact if_neg hu
        rintro (c : Bool) w79 ⟨hc, rfl⟩
        have hstep : oldest ((ls.map RLine.abs).drop (k + 1)) (k + 1) (if c = true then some (k, x.Used) else best) = oldest (ls.map RLine.abs) 0 none := by
          rw [← hold, List.drop_eq_getElem_cons (i := k) (by rw [List.length_map]; omega)]
          have hxk : (ls.map RLine.abs)[k]'(by rw [List.length_map]; omega) = x.abs := by
            have := abs_at hx
            rw [List.getElem?_eq_getElem (by rw [List.length_map]; omega)] at this
            simpa using this
          rw [hxk, ← hc]; rfl
        have h : SH w0 w76.drew (KP b rb cap clock code td tl tt tw disk ls ws F) := h.drop
        refine BIf.of (fun ht => ?_) (fun hf => ?_)
        · subst ht
          exact hJ _ _ _ ⟨k + 1, _, by omega, by omega, hstep, ⟨rfl, x, hx, rfl⟩, h⟩ (by omega)
        · subst hf
          exact hJ _ _ _ ⟨k + 1, _, by omega, by omega, hstep, hb, h⟩ (by omega)
      · obtain rfl : k = ls.length := by omega
        rw [List.drop_of_length_le (by rw [List.length_map]; omega), hou] at hold
        have hold : best = some (o, u) := hold
        subst hold
        obtain ⟨rfl, x, hx, hxu⟩ := hb
        have hxo := hok.ls.each _ (List.mem_of_getElem? (abs_at hx))
        have x0 : 0 ≤ x.Sector := hxo.s0
        have xn : x.Sector < n := hxo.sn
        have xl : x.Data.length = 128 := hxo.len
        obtain ⟨q, hq⟩ := h.rowQ 2 rfl hx
        refine BIf.f (decide_eq_false (by omega)) ?_
        simp only [Int.toNat_natCast]
        refine ⟨_, rfl, tl, h.cellP 0 rfl rfl, by omega, by omega, q, hq, _, h.rdR 2 rfl hq hx rfl, ?_⟩
        have hfl : ((ls.map RLine.abs).length : Int) = cap := by rw [List.length_map]; omega
        refine BIf.of (fun hd => ?_) (fun hd => ?_)
        · refine (s176 h hx x0 (by omega) (by omega) xl (by omega) (by omega)).mono ?_
          rintro _ w93 ⟨rfl, tw2, y, hy, h⟩
          refine ⟨rfl, ?_⟩
          refine (s177 h (i := o) (by rw [List.length_set]; omega) (by rw [List.length_set]; omega)).mono ?_
          rintro _ w95 ⟨rfl, tl2, h⟩
          refine ⟨rfl, tl2, tw2, _, _, [y], ?_, by simp, ?_, ?_, h⟩
          · unfold room
            rw [if_pos (by unfold aC_; exact hfl)]
            unfold aC_
            simp only [hou, abs_at hx]
            unfold wrL
            have hd2 : x.abs.Dirty = true := hd
            rw [if_pos hd2]
            unfold cutL
            simp only [List.map_set, map_erase, List.map_cons, List.map_nil, hy]
            rfl
          · unfold putSec; rw [over_len (by rw [xl]; omega)]
          · rw [List.length_eraseIdx_of_lt (by rw [List.length_set]; omega), List.length_set]; omega
        · refine (s177 h (i := o) (by omega) (by omega)).mono ?_
          rintro _ w97 ⟨rfl, tl2, h⟩
          refine ⟨rfl, tl2, tw, _, _, [], ?_, by simp, rfl, ?_, by rw [List.append_nil]; exact h⟩
          · unfold room
            rw [if_pos (by unfold aC_; exact hfl)]
            unfold aC_
            simp only [hou, abs_at hx]
            unfold wrL
            have hd2 : ¬ x.abs.Dirty = true := by show ¬ x.Dirty = true; rw [hd]; decide
            rw [if_neg hd2]
            unfold cutL
            simp only [map_erase]
            rfl
          · rw [List.length_eraseIdx_of_lt (by omega)]; omega
    clear h
    rintro w18 ⟨tl, tw, disk1, ls1, wn, hroom, hwn, hd1, hl1, h⟩
    have htl := h.len 2 rfl
    rw [recs_len] at htl
    refine ⟨_, rfl, _, h.cellP 0 rfl rfl, _, rfl, h.setVP 0 rfl rfl (fun w22 h n22 => ?_)⟩
    rw [w64 (n := clock + 1) (by omega) (by omega)] at h
    have h : SH w0 w22 (KP b rb cap (clock + 1) code td tl tt tw disk1 ls1 (ws ++ wn) F) := h
    have htc := h.lenCap 2 rfl
    refine LoopW.m1 (fun (i : Int) w' => ∃ k : Nat, i = k ∧ k ≤ ls1.length ∧ (∀ (j : Nat) (y : Line), j < k → (ls1.map RLine.abs)[j]? = some y → y.Sector < s) ∧ w' = w22) (fun (i : Int) _ => (ls1.length - i).toNat) ⟨0, rfl, by omega, fun j y hj => by omega, rfl⟩ ?_
    rintro (i : Int) w25 ⟨k, rfl, hk, hlt, rfl⟩ J hJ
    refine ⟨_, rfl, tl, h.cellP 0 rfl rfl, ?_⟩
    refine JoinW.cut1 (fun (c : Bool) w' => (c = true ↔ ∃ y, ls1[k]? = some y ∧ y.Sector < s) ∧ w' = w25) ?_ ?_
    · refine BIf.dec (fun h1 => ?_) (fun h1 => ⟨⟨(fun e => by cases e), (fun ⟨y, hy, _⟩ => by have := (List.getElem?_eq_some_iff.1 hy).1; omega)⟩, rfl⟩)
      have hx : ls1[k]? = some ls1[k] := List.getElem?_eq_getElem (by omega)
      generalize ls1[k] = x at hx
      obtain ⟨q, hq⟩ := h.rowQ 2 rfl hx
      simp only [Int.toNat_natCast]
      refine ⟨_, rfl, tl, h.cellP 0 rfl rfl, by omega, by omega, q, hq, _, h.rdR 2 rfl hq hx rfl, ?_, by trivial⟩
      rw [decide_eq_true_iff]
      exact ⟨fun e => ⟨x, hx, e⟩, fun ⟨y, hy, e⟩ => by rw [hx] at hy; cases hy; exact e⟩
    rintro (c : Bool) w30 ⟨hc, rfl⟩
    refine BIf.of (fun ht => ?_) (fun hf => ?_)
    · obtain ⟨y, hy, hys⟩ := hc.1 ht
      have hyl := (List.getElem?_eq_some_iff.1 hy).1
      rw [w64 (n := (k : Int) + 1) (by omega) (by omega)]
      refine hJ _ _ ⟨k + 1, by omega, by omega, fun j z hj hz => ?_, rfl⟩ (by omega)
      by_cases hjk : j = k
      · subst hjk
        obtain ⟨x2, h2, rfl⟩ := map_at hz
        rw [hy] at h2; cases h2; exact hys
      · exact hlt j z (by omega) hz
    have hpl : place (ls1.map RLine.abs) s = k := place_is hlt (fun y hy hys => by
      obtain ⟨x2, h2, rfl⟩ := map_at hy
      have := hc.2 ⟨x2, h2, hys⟩
      rw [hf] at this; cases this) (by rw [List.length_map]; exact hk)
    obtain ⟨sn, rfl⟩ := Int.eq_ofNat_of_zero_le h0
    simp only [Int.toNat_natCast]
    refine ⟨_, rfl, tl, h.cellP 0 rfl rfl, by omega, by omega, ?_⟩
    refine SH.appendR (f := RLine.cells) (l := []) (us := ls1.take k) (h.nil none 5) (RowAt.pre (f := RLine.cells) (z := 5) (i := k) (fun _ => rfl) (h.rowR 2 rfl) (by omega)) (by rw [List.length_take]; show min k ls1.length = k - 0; omega) (fun _ => rfl) rfl rfl (by decide) (by show (_ + _) * 56 ≤ _; simp; omega) plain_line (fun l33 w34 h hl33 _ => ?_)
    have h := h.drew
    refine ⟨_, rfl, _, h.cellP 1 rfl rfl, _, rfl, td, h.cellP 1 rfl rfl, ?_⟩
    refine (s95 (n := 2) h rfl (by omega) (by omega)).mono ?_
    rintro _ w40 ⟨t, rfl, h⟩
    refine ⟨t, rfl, ⟨_, h.cellP 2 rfl rfl, by first | rfl | trivial⟩, ?_⟩
    have h : SH w0 w40 (rL l33 (ls1.take k) :: rD t (secOf disk1 sn) :: KP b rb cap (clock + 1) code td tl tt tw disk1 ls1 (ws ++ wn) F) := h.p1
    refine LetW_iff.2 (SH.appendR1 (f := RLine.cells) (x := ⟨(sn : Int), clock + 1, false, 0, t, secOf disk1 sn⟩) h rfl rfl rfl (by decide) (by show (_ + _) * 56 ≤ _; rw [List.length_take]; omega) (plain_line _) (fun l44 w45 h hl44 _ => ?_))
    refine ⟨_, rfl, tl, h.cellP 2 rfl rfl, by omega, by omega, ?_⟩
    refine SH.appendR (f := RLine.cells) (us := ls1.drop k) h (RowAt.suf (f := RLine.cells) (z := 5) (i := k) (fun _ => rfl) (h.rowR 4 rfl) htl htc (by omega)) (by rw [List.length_drop]; show _ = tl.len - k; omega) (fun _ => rfl) rfl rfl (by decide) (by show (_ + _) * 56 ≤ _; simp; omega) plain_line (fun l48 w49 h hl48 _ => ?_)
    refine ⟨_, rfl, h.setVP 2 rfl rfl (fun w51 h n51 => ?_)⟩
    generalize hx0 : (⟨(sn : Int), clock + 1, false, 0, t, secOf disk1 sn⟩ : RLine) = x0 at *
    have h : SH w0 w51 (rL l48 (ls1.take k ++ [x0] ++ ls1.drop k) :: rD t (secOf disk1 sn) :: BK b cap (clock + 1) td l48 :: rD td disk1 :: rL tl ls1 :: bL ls1 :: BR rb code tt tw :: rW tw (ws ++ wn) :: bW (ws ++ wn) :: F) := h
    have hget : (ls1.take k ++ [x0] ++ ls1.drop k)[k]? = some x0 := by
      rw [List.append_assoc, List.getElem?_append_right (by rw [List.length_take]; omega), List.length_take, Nat.min_eq_left hk, Nat.sub_self]; rfl
    obtain ⟨q, hq⟩ := h.rowQ 0 rfl hget
    refine ⟨_, rfl, l48, h.cellP 2 rfl rfl, by omega, by rw [hl48, List.length_append, List.length_take, List.length_drop]; simp; omega, q, hq, ?_⟩
    refine ⟨l48, tw, q, k, x0, disk1, ls1.take k ++ [x0] ++ ls1.drop k, wn, rfl, hq, hget, ?_, hwn, ?_⟩
    · unfold fetch
      have hix3 : ixOf (aC_ cap clock disk ls).Lines (sn : Int) = none := hix
      rw [hix3, hroom]
      subst hx0
      unfold aC_ insL
      simp only [hpl, Int.toNat_natCast, List.map_append, List.map_take, List.map_drop]
      rfl
    · have h : SH w0 w51 (lineA x0 :: bL ls1 :: BK b cap (clock + 1) td l48 :: rD td disk1 :: rL l48 (ls1.take k ++ [x0] ++ ls1.drop k) :: BR rb code tt tw :: rW tw (ws ++ wn) :: bW (ws ++ wn) :: F) := by
        subst hx0
        exact (((((h.dropAt 4).front (n := 3) rfl).front (n := 3) rfl).front (n := 4) rfl).front (n := 4) rfl)
      have h := SH.bagCons h
      have h : SH w0 w51 (bL (ls1.take k ++ [x0] ++ ls1.drop k) :: BK b cap (clock + 1) td l48 :: rD td disk1 :: rL l48 (ls1.take k ++ [x0] ++ ls1.drop k) :: BR rb code tt tw :: rW tw (ws ++ wn) :: bW (ws ++ wn) :: F) := by
        refine h.bagPerm ?_
        rw [List.append_assoc]
        have := (List.perm_middle (a := x0) (l₁ := ls1.take k) (l₂ := ls1.drop k)).symm
        rwa [List.take_append_drop] at this
      exact (((h.front (n := 3) rfl).front (n := 3) rfl).front (n := 3) rfl)
end Go.Proofs.Ytenhcpjlkmbedaa

/- A cache in memory: the program's step. Conditions: none. -/
set_option linter.unusedVariables false
set_option linter.unusedSimpArgs false
namespace Go.Proofs.Ytenhcpjlkmbedaa
open Go Go.Den Go.Cc
/-- Bytes are written over others in their row. -/
theorem copy_bytes {w0 w : World} {F : List Asr} {t : Sl} {m us : List Int} {a : Nat} {k : World → Prop} (h : SH w0 w (rD t m :: F)) (hl : a + us.length ≤ m.length) (hk : ∀ w', SH w0 w' (rD t (over m a us) :: F) → k w') :
    CopyW (cutA t.a t.cap a 1) w (us.map (Value.int .u8)) (us.map (Value.int .u8)).length k := by
  have hlen := h.len 0 rfl
  rw [nums_len] at hlen
  have hcap := h.lenCap 0 rfl
  by_cases ha : a < t.cap
  · obtain ⟨b, hb, _⟩ := h.addr 0 rfl (by omega)
    obtain ⟨hm, h⟩ := SH.putN (o := a) us 0 h hb (by omega)
    rw [Nat.add_zero] at h
    refine .inr ⟨_, cut_some hb ha, fun j hj => ?_, ?_⟩
    · rw [Nat.mul_one]; rw [List.length_map] at hj; exact hm j (Nat.zero_le _) (by omega)
    · rw [Nat.mul_one]; exact hk _ h
  · have hu : us = [] := List.length_eq_zero_iff.1 (by omega)
    subst hu
    have h2 : SH w0 w (rD t (over m a []) :: F) := by
      unfold over
      rw [List.append_nil, List.length_nil, Nat.add_zero, List.take_append_drop]; exact h
    cases hc : cutA t.a t.cap a 1 with
    | none => exact .inl ⟨rfl, hk w h2⟩
    | some p => exact .inr ⟨p, rfl, fun j hj => by simp at hj, hk w h2⟩
def opV (o : COp) (t : Sl) : List Value := [.int .i64 o.Kind, .int .i64 o.Sector, .int .i64 o.At, .int .i64 o.N, .slice t.a t.len t.cap]
abbrev BO (b : Nat) (o : COp) (t : Sl) : Asr := aB b ((opV o t).map Ce.v)
def StepW (w0 : World) (F : List Asr) (b rb : Nat) (cap : Int) (td : Sl) (r : Cache × Res) (v : Value) (w' : World) : Prop :=
  v = .tuple #[] ∧ ∃ (clock : Int) (disk : List Int) (ls : List RLine) (ws : List RWr) (tl tt tw : Sl), aC_ cap clock disk ls = r.1 ∧ ws.map RWr.abs = r.2.Writes ∧ SH w0 w' (rD tt r.2.Data :: KP b rb cap clock r.2.Code td tl tt tw disk ls ws F)
def flK (c : Cache) (k : Nat) : Cache × List Wr := (List.range k).foldl flush1 (c, [])
theorem flK_succ (c : Cache) (k : Nat) : flK c (k + 1) = flush1 (flK c k) k := by unfold flK; rw [List.range_succ, List.foldl_append]; rfl
def RLine.wrote (x : RLine) (d : List Int) : RLine := ⟨x.Sector, x.Used, x.Dirty, x.Pins, x.D, d⟩
def RLine.dirt (x : RLine) : RLine := ⟨x.Sector, x.Used, true, x.Pins, x.D, x.Data⟩
set_option maxHeartbeats 4000000 in
theorem s157 {w0 w : World} {F : List Asr} {b rb n : Nat} {cap clock : Int} {td tl to : Sl} {disk : List Int} {ls : List RLine} {o : COp}
    (h : SH w0 w (KP b rb cap clock 0 td tl N0 N0 disk ls [] F)) (hok : COk n (aC_ cap clock disk ls)) (hcap : cap ≤ 64) (hn : n ≤ 1024) (hck : clock ≤ 1000000) (hb : ByAt w0 to o.Data) (k3 : o.Kind ≠ 3) (k6 : o.Kind ≠ 6) :
    CallW Try.prog 157 #[.pointer (some ⟨b, 0, none⟩), .agg ⟨opV o to⟩, .pointer (some ⟨rb, 0, none⟩)] w (StepW w0 F b rb cap td (stepC n (aC_ cap clock disk ls) o)) := by
  refine go157 (a0 := some ⟨b, 0, none⟩) (a1_0 := o.Kind) (a1_1 := o.Sector) (a1_2 := o.At) (a1_3 := o.N) (a1_4 := to) ?_
  unfold W157
  have hdl : disk.length = 128 * n := hok.disk
  have hfew : ((ls.map RLine.abs).length : Int) ≤ cap := hok.few
  rw [List.length_map] at hfew
  have hck0 : 0 ≤ clock := hok.clock
  have hol := hb.len
  have hos := hb.small
  have htd := h.len 1 rfl
  rw [nums_len] at htd
  have hdiv : IntKind.i64.wrap ((td.len : Int).tdiv 128) = n := by rw [htd, Int.tdiv_eq_ediv_of_nonneg (by omega), w64 (by omega) (by omega)]; omega
  refine h.alloc (fun w1 h e1 n1 => ?_)
  generalize w.heap.size = ob at *
  have h : SH w0 w1 (BO ob o to :: BK b cap clock td tl :: rD td disk :: rL tl ls :: bL ls :: BR rb 0 N0 N0 :: rW N0 [] :: bW [] :: F) := h
  have h : SH w0 w1 (KP b rb cap clock 0 td tl N0 N0 disk ls [] (BO ob o to :: F)) := (((((((h.front (n := 7) rfl).front (n := 7) rfl).front (n := 7) rfl).front (n := 7) rfl).front (n := 7) rfl).front (n := 7) rfl).front (n := 7) rfl)
  have h := h.drew
  have fin : ∀ {w' : World} {r : Cache × Res} {clock : Int} {disk : List Int} {ls : List RLine} {ws : List RWr} {tl tt tw : Sl}, aC_ cap clock disk ls = r.1 → ws.map RWr.abs = r.2.Writes → SH w0 w' (rD tt r.2.Data :: KP b rb cap clock r.2.Code td tl tt tw disk ls ws (BO ob o to :: F)) → StepW w0 F b rb cap td r (.tuple #[]) w' := fun {w' r clock disk ls ws tl tt tw} e1 e2 h => by
    have h : SH w0 w' (rD tt r.2.Data :: BK b cap clock td tl :: rD td disk :: rL tl ls :: bL ls :: BR rb r.2.Code tt tw :: rW tw ws :: bW ws :: BO ob o to :: F) := h
    exact ⟨rfl, clock, disk, ls, ws, tl, tt, tw, e1, e2, (h.dropAt 8)⟩
  refine JoinW.cut1 (fun (x : Bool) w' => x = decide (o.Kind < 1 ∨ 7 < o.Kind ∨ (o.Kind < 7 ∧ (o.Sector < 0 ∨ (n : Int) ≤ o.Sector))) ∧ w' = w1.drew) ?_ ?_
  · refine ⟨_, h.cell 7 rfl rfl, BIf.dec (fun h1 => ⟨(decide_eq_true (by omega)).symm, rfl⟩) (fun h1 => ⟨_, h.cell 7 rfl rfl, BIf.dec (fun h2 => ⟨(decide_eq_true (by omega)).symm, rfl⟩) (fun h2 => ⟨_, h.cell 7 rfl rfl, BIf.dec (fun h3 => ⟨_, h.cell 7 rfl rfl, BIf.dec (fun h4 => ⟨(decide_eq_true (by omega)).symm, rfl⟩) (fun h4 => ⟨_, h.cell 7 rfl rfl, _, rfl, td, h.cellP 0 rfl rfl, by decide, ?_, rfl⟩)⟩) (fun h3 => ⟨(decide_eq_false (by omega)).symm, rfl⟩)⟩)⟩)⟩
    rw [hdiv, Bool.eq_iff_iff, decide_eq_true_iff, decide_eq_true_iff]
    omega
  rintro (x : Bool) w4 ⟨rfl, rfl⟩
  refine BIf.dec (fun hbad => ?_) (fun hgood => ?_)
  · refine ⟨_, rfl, h.setVP 4 rfl rfl (fun w6 h n6 => ?_)⟩
    refine fin (clock := clock) (disk := disk) (ls := ls) (ws := []) (tl := tl) (tt := N0) (tw := N0) ?_ ?_ ?_
    · unfold stepC; rw [if_pos (by unfold BadArg; omega)]
    · unfold stepC; rw [if_pos (by unfold BadArg; omega)]; rfl
    · unfold stepC; rw [if_pos (by unfold BadArg; omega)]; exact h.nil none 1
  refine ⟨_, h.cell 7 rfl rfl, ?_⟩
  refine JoinW.cut1 (fun (x : Int) w' => x = opLen o ∧ w' = w1.drew) ?_ ?_
  · refine ⟨_, h.cell 7 rfl rfl, BIf.eq (fun h1 => ⟨to, h.cell 7 rfl rfl, by unfold opLen; rw [if_pos h1, hol], rfl⟩) (fun h1 => ⟨by unfold opLen; rw [if_neg h1], rfl⟩)⟩
  rintro (x : Int) w10 ⟨rfl, rfl⟩
  refine ⟨_, h.cell 7 rfl rfl, ?_⟩
  refine JoinW.cut1 (fun (x : Bool) w' => x = decide (o.Kind ≤ 2 ∧ (o.At < 0 ∨ opLen o < 0 ∨ 128 < o.At ∨ 128 - o.At < opLen o)) ∧ w' = w1.drew) ?_ ?_
  · refine BIf.dec (fun h1 => ⟨_, h.cell 7 rfl rfl, BIf.dec (fun h2 => ⟨(decide_eq_true (by omega)).symm, rfl⟩) (fun h2 => BIf.dec (fun h3 => ⟨(decide_eq_true (by omega)).symm, rfl⟩) (fun h3 => ⟨_, h.cell 7 rfl rfl, BIf.dec (fun h4 => ⟨(decide_eq_true (by omega)).symm, rfl⟩) (fun h4 => ⟨_, h.cell 7 rfl rfl, ?_, rfl⟩)⟩))⟩) (fun h1 => ⟨(decide_eq_false (by omega)).symm, rfl⟩)
    rw [w64 (n := 128 - o.At) (by omega) (by omega), Bool.eq_iff_iff, decide_eq_true_iff, decide_eq_true_iff]
    omega
  rintro (x : Bool) w14 ⟨rfl, rfl⟩
  refine BIf.dec (fun hbad => ?_) (fun hgood2 => ?_)
  · refine ⟨_, rfl, h.setVP 4 rfl rfl (fun w16 h n16 => ?_)⟩
    refine fin (clock := clock) (disk := disk) (ls := ls) (ws := []) (tl := tl) (tt := N0) (tw := N0) ?_ ?_ ?_
    · unfold stepC; rw [if_pos (by unfold BadArg; omega)]
    · unfold stepC; rw [if_pos (by unfold BadArg; omega)]; rfl
    · unfold stepC; rw [if_pos (by unfold BadArg; omega)]; exact h.nil none 1
  have hnb : ¬ BadArg n o := by unfold BadArg; omega
  refine ⟨_, h.cell 7 rfl rfl, ?_⟩
  refine BIf.eq (fun k1 => ?_) (fun k1 => ?_)
  · have hs0 : 0 ≤ o.Sector := by omega
    have hsn : o.Sector < n := by omega
    have hop : opLen o = o.N := by unfold opLen; rw [if_neg (by omega)]
    rw [hop] at hgood2 ⊢
    refine ⟨_, h.cell 7 rfl rfl, (s174 h hok hcap hn hck hs0 hsn (by simp)).mono ?_⟩
    rintro _ w20 ⟨tl2, tw2, q, i, x, disk2, ls2, wn, rfl, hq, hx, hf, hwn, h⟩
    obtain ⟨c', i', w', l, f1, f2, _, _, f3, _⟩ := fetch_ok hok hs0 hsn
    have f1e := f1.symm.trans hf
    simp only [Option.some.injEq, Prod.mk.injEq] at f1e
    obtain ⟨rfl, _, rfl⟩ := f1e
    have hxl : x.Data.length = 128 := (f2.ls.each _ (List.mem_of_getElem? (abs_at hx))).len
    have h := h.drew
    refine ⟨_, rfl, BIf.t rfl ⟨_, rfl, x.D, h.rdR 2 rfl hq hx rfl, _, h.cell 7 rfl rfl, _, h.cell 7 rfl rfl, ?_⟩⟩
    rw [w64 (n := o.At + o.N) (by omega) (by omega)]
    obtain ⟨G, g⟩ := line_at h 3 rfl hx
    have hxD := g.len 0 rfl
    rw [nums_len, hxl] at hxD
    have hxc := g.lenCap 0 rfl
    refine ⟨by omega, by omega, by omega, by omega, ?_⟩
    have hrow := row_cut (a := o.At.toNat) (n := o.N.toNat) (g.rowN 0 rfl) (by rw [hxD, hxl]) hxc (by omega)
    refine SH.appendN (m := []) (us := (x.Data.drop o.At.toNat).take o.N.toNat) (h.nil none 1) (by show RowAt _ _ ((o.At + o.N).toNat - o.At.toNat) _; rw [show (o.At + o.N).toNat - o.At.toNat = o.N.toNat by omega]; exact hrow) rfl rfl (by decide) (by show (_ + _) * 1 ≤ _; rw [List.length_take, List.length_drop, hxl]; simp; omega) (fun l26 w27 h hl26 _ => ?_)
    refine ⟨_, rfl, h.setVP 5 rfl rfl (fun w29 h n29 => ?_)⟩
    have e : stepC n (aC_ cap clock disk ls) o = (aC_ cap (clock + 1) disk2 ls2, ⟨0, (x.Data.drop o.At.toNat).take o.N.toNat, wn.map RWr.abs⟩) := by
      unfold stepC
      rw [if_neg hnb, if_neg (by omega), if_neg (by omega), if_neg (by omega), hf]
      have := abs_at hx
      unfold aC_ at *
      simp only [this]
      rw [if_pos k1]; rfl
    rw [e]
    exact fin rfl rfl h
  refine BIf.eq (fun k2 => ?_) (fun k2 => ?_)
  · have hs0 : 0 ≤ o.Sector := by omega
    have hsn : o.Sector < n := by omega
    have hop : opLen o = (o.Data.length : Int) := by unfold opLen; rw [if_pos k2]
    rw [hop] at hgood2
    refine ⟨_, h.cell 7 rfl rfl, (s174 h hok hcap hn hck hs0 hsn (by simp)).mono ?_⟩
    rintro _ w32 ⟨tl2, tw2, q, i, x, disk2, ls2, wn, rfl, hq, hx, hf, hwn, h⟩
    obtain ⟨c', i', w', l, f1, f2, _, _, f3, _⟩ := fetch_ok hok hs0 hsn
    have f1e := f1.symm.trans hf
    simp only [Option.some.injEq, Prod.mk.injEq] at f1e
    obtain ⟨rfl, _, rfl⟩ := f1e
    have hxl : x.Data.length = 128 := (f2.ls.each _ (List.mem_of_getElem? (abs_at hx))).len
    have hi := (List.getElem?_eq_some_iff.1 hx).1
    have h := h.drew
    obtain ⟨G, g⟩ := line_at h 3 rfl hx
    have hxD := g.len 0 rfl
    rw [nums_len, hxl] at hxD
    refine ⟨_, rfl, BIf.t rfl ⟨_, rfl, x.D, h.rdR 2 rfl hq hx rfl, _, h.cell 7 rfl rfl, by omega, by omega, to, h.cell 7 rfl rfl, ?_⟩⟩
    rw [Int.toNat_natCast, show min to.len (x.D.len - o.At.toNat) * 1 = to.len by omega]
    refine ⟨_, (hb.ext h.ext).row, plain_u8, ?_⟩
    have h : SH w0 w32.drew (bL ls2 :: BK b cap (clock + 1) td tl2 :: rD td disk2 :: rL tl2 ls2 :: BR rb 0 N0 tw2 :: rW tw2 ([] ++ wn) :: bW ([] ++ wn) :: BO ob o to :: F) := h.front (n := 3) rfl
    refine copy_bytes (SH.bagOut h hx) (by omega) (fun w38 h => ?_)
    have h := SH.bagIn (f := lineA) (x := x) (y := x.wrote (over x.Data o.At.toNat o.Data)) hx h
    have h : SH w0 w38 (BK b cap (clock + 1) td tl2 :: rD td disk2 :: rL tl2 (ls2.set i x) :: bL (ls2.set i (x.wrote (over x.Data o.At.toNat o.Data))) :: BR rb 0 N0 tw2 :: rW tw2 wn :: bW wn :: BO ob o to :: F) := by
      rw [set_id hx]; exact (((h.front (n := 3) rfl).front (n := 3) rfl).front (n := 3) rfl)
    refine ⟨_, rfl, h.setR 2 (k := i) (x := x) x.dirt rfl hq hi (by show 2 < 5; decide) rfl (fun w41 h n41 => ?_)⟩
    have e : stepC n (aC_ cap clock disk ls) o = (aC_ cap (clock + 1) disk2 (ls2.set i (x.dirt.wrote (over x.Data o.At.toNat o.Data))), ⟨0, [], wn.map RWr.abs⟩) := by
      unfold stepC
      rw [if_neg hnb, if_neg (by omega), if_neg (by omega), if_neg (by omega), hf]
      have := abs_at hx
      unfold aC_ at *
      simp only [this]
      rw [if_neg k1]
      unfold setData
      simp only [List.map_set]; rfl
    rw [e]
    have e2 : rL tl2 (ls2.set i x.dirt) = rL tl2 (ls2.set i (x.dirt.wrote (over x.Data o.At.toNat o.Data))) := by
      show aRow tl2 5 (recs _ _) = aRow tl2 5 (recs _ _)
      rw [recs_set, recs_set]; rfl
    have e3 : bL (ls2.set i (x.wrote (over x.Data o.At.toNat o.Data))) = bL (ls2.set i (x.dirt.wrote (over x.Data o.At.toNat o.Data))) := by
      show aBag lineA _ = aBag lineA _
      unfold aBag
      rw [List.map_set, List.map_set]; rfl
    have h : SH w0 w41 (BK b cap (clock + 1) td tl2 :: rD td disk2 :: rL tl2 (ls2.set i x.dirt) :: bL (ls2.set i (x.wrote (over x.Data o.At.toNat o.Data))) :: BR rb 0 N0 tw2 :: rW tw2 wn :: bW wn :: BO ob o to :: F) := h
    rw [e2, e3] at h
    exact fin rfl rfl (h.nil none 1)
  refine BIf.eq (fun hk => absurd hk k3) (fun _ => ?_)
  refine BIf.eq (fun k4 => ?_) (fun k4 => ?_)
  · have hst : stepC n (aC_ cap clock disk ls) o = (aC_ cap clock disk ls, ⟨3, [], []⟩) := by
      unfold stepC; rw [if_neg hnb, if_neg (by omega), if_pos k4]
    rw [hst]
    refine ⟨_, h.cell 7 rfl rfl, (s175 (s := o.Sector) h 0 2 rfl rfl (by omega)).mono ?_⟩
    rintro _ w56 ⟨rfl, rfl⟩
    refine ⟨_, rfl, ?_⟩
    have htl := h.len 2 rfl
    rw [recs_len] at htl
    refine JoinW.cut1 (fun (x : Bool) w' => x = true ∧ w' = w1.drew) ?_ ?_
    · refine BIf.dec (fun h1 => ⟨rfl, rfl⟩) (fun h1 => ?_)
      unfold ixI at h1 ⊢
      cases hix : ixOf (ls.map RLine.abs) o.Sector with
      | none => rw [hix] at h1; exact absurd (by decide) h1
      | some i =>
        have hix2 : (ls.map RLine.abs).findIdx? (fun l => l.Sector == o.Sector) = some i := hix
        obtain ⟨hi, _, _⟩ := List.findIdx?_eq_some_iff_getElem.1 hix2
        rw [List.length_map] at hi
        have hx : ls[i]? = some ls[i] := List.getElem?_eq_getElem hi
        generalize ls[i] = x at hx
        obtain ⟨q, hq⟩ := h.rowQ 2 rfl hx
        simp only [Int.toNat_natCast]
        have hp : x.Pins = 0 := (hok.ls.each _ (List.mem_of_getElem? (abs_at hx))).pins
        refine ⟨_, rfl, tl, h.cellP 0 rfl rfl, by omega, by omega, q, hq, _, h.rdR 2 rfl hq hx rfl, by rw [hp]; rfl, by trivial⟩
    rintro (x : Bool) w60 ⟨rfl, rfl⟩
    refine BIf.t rfl ⟨_, rfl, h.setVP 4 rfl rfl (fun w62 h n62 => ?_)⟩
    exact fin (ws := []) (tw := N0) rfl rfl (h.nil none 1)
  refine BIf.eq (fun k5 => ?_) (fun k5 => ?_)
  · have hst : stepC n (aC_ cap clock disk ls) o = (match ixOf (ls.map RLine.abs) o.Sector with
      | none => (aC_ cap clock disk ls, ⟨0, [], []⟩)
      | some i => match (ls.map RLine.abs)[i]? with
        | none => (aC_ cap clock disk ls, ⟨0, [], []⟩)
        | some l => ((wrL (aC_ cap clock disk ls) i l).1, ⟨0, [], (wrL (aC_ cap clock disk ls) i l).2⟩)) := by
      unfold stepC; rw [if_neg hnb, if_neg (by omega), if_neg k4, if_pos k5] <;> rfl
    rw [hst]
    clear hst
    refine ⟨_, h.cell 7 rfl rfl, (s175 (s := o.Sector) h 0 2 rfl rfl (by omega)).mono ?_⟩
    rintro _ w75 ⟨rfl, rfl⟩
    refine ⟨_, rfl, ?_⟩
    have htl := h.len 2 rfl
    rw [recs_len] at htl
    cases hix : ixOf (ls.map RLine.abs) o.Sector with
    | none =>
      have hixI : ixI (ls.map RLine.abs) o.Sector = -1 := by unfold ixI; rw [hix]
      rw [hixI]
      refine JoinW.cut1 (fun (x : Bool) w' => x = false ∧ w' = w1.drew) (BIf.f (by decide) ⟨rfl, rfl⟩) ?_
      rintro (x : Bool) w79 ⟨rfl, rfl⟩
      exact BIf.f rfl (fin (ws := []) (tw := N0) rfl rfl (h.nil none 1))
    | some i =>
      have hixI : ixI (ls.map RLine.abs) o.Sector = i := by unfold ixI; rw [hix]
      have hix2 : (ls.map RLine.abs).findIdx? (fun l => l.Sector == o.Sector) = some i := hix
      obtain ⟨hi, _, _⟩ := List.findIdx?_eq_some_iff_getElem.1 hix2
      rw [List.length_map] at hi
      have hx : ls[i]? = some ls[i] := List.getElem?_eq_getElem hi
      generalize ls[i] = x at hx
      obtain ⟨q, hq⟩ := h.rowQ 2 rfl hx
      have hxo := hok.ls.each _ (List.mem_of_getElem? (abs_at hx))
      have x0 : 0 ≤ x.Sector := hxo.s0
      have xn : x.Sector < n := hxo.sn
      rw [hixI]
      simp only [abs_at hx]
      refine JoinW.cut1 (fun (y : Bool) w' => y = x.Dirty ∧ w' = w1.drew) (BIf.t (decide_eq_true (by omega)) ?_) ?_
      · simp only [Int.toNat_natCast]
        exact ⟨_, rfl, tl, h.cellP 0 rfl rfl, by omega, by omega, q, hq, _, h.rdR 2 rfl hq hx rfl, by trivial, by trivial⟩
      rintro (y : Bool) w79 ⟨rfl, rfl⟩
      refine BIf.of (fun hd => ?_) (fun hd => ?_)
      · refine (s176 h hx x0 (by omega) (by omega) hxo.len (by simp) (by omega)).mono ?_
        rintro _ w81 ⟨rfl, tw2, y, hy, h⟩
        refine ⟨rfl, ?_⟩
        have e : wrL (aC_ cap clock disk ls) i x.abs = (aC_ cap clock (putSec disk x.Sector.toNat x.Data) (ls.set i x.clean), [⟨x.Sector, x.Data⟩]) := by
          unfold wrL aC_
          rw [if_pos (show x.abs.Dirty = true from hd)]
          simp only [List.map_set]; rfl
        rw [e]
        exact fin (ws := [] ++ [y]) rfl (by simp [hy]) (h.nil none 1)
      · have e : wrL (aC_ cap clock disk ls) i x.abs = (aC_ cap clock disk ls, []) := by
          unfold wrL
          rw [if_neg (show ¬ x.abs.Dirty = true by show ¬ x.Dirty = true; rw [hd]; decide)]
        rw [e]
        exact fin (ws := []) (tw := N0) rfl rfl (h.nil none 1)
  refine BIf.eq (fun hk => absurd hk k6) (fun _ => ?_)
  refine BIf.eq (fun k7 => ?_) (fun k7 => absurd k7 (by omega))
  have hst : stepC n (aC_ cap clock disk ls) o = ((flK (aC_ cap clock disk ls) ls.length).1, ⟨0, [], (flK (aC_ cap clock disk ls) ls.length).2⟩) := by
    unfold stepC; rw [if_neg hnb, if_pos k7]
    unfold flushC flK aC_
    simp only [List.length_map]
  rw [hst]
  refine ⟨_, rfl, tl, h.cellP 0 rfl rfl, ?_⟩
  have htl := h.len 2 rfl
  rw [recs_len] at htl
  have hfl := fun k (hk : k ≤ ls.length) => flush_j hok k (by unfold aC_; simp only [List.length_map]; exact hk)
  refine LoopW.m1 (fun (i : Int) w' => ∃ (k : Nat) (disk2 : List Int) (ls2 : List RLine) (ws : List RWr) (tw : Sl), i = k ∧ k ≤ ls.length ∧ aC_ cap clock disk2 ls2 = (flK (aC_ cap clock disk ls) k).1 ∧ ws.map RWr.abs = (flK (aC_ cap clock disk ls) k).2 ∧ ws.length ≤ k ∧ SH w0 w' (KP b rb cap clock 0 td tl N0 tw disk2 ls2 ws (BO ob o to :: F))) (fun (i : Int) _ => (ls.length - i).toNat) ⟨0, disk, ls, [], N0, rfl, by omega, rfl, rfl, by simp, h⟩ ?_
  clear h
  rintro (i : Int) w102 ⟨k, disk2, ls2, ws, tw, rfl, hk, e1, e2, hwl, h⟩ J hJ
  have hj := hfl k hk
  have hj : FlJ n (aC_ cap clock disk ls) k (flK (aC_ cap clock disk ls) k) := hj
  have hok2 : COk n (aC_ cap clock disk2 ls2) := by rw [e1]; exact hj.ok
  have hd2 : disk2.length = 128 * n := hok2.disk
  have hll : ls2.length = ls.length := by
    have := hj.len
    rw [← e1] at this
    unfold aC_ at this
    simpa using this
  refine BIf.dec (fun hlt => ?_) (fun hge => ?_)
  · have hx : ls2[k]? = some ls2[k] := List.getElem?_eq_getElem (by omega)
    generalize ls2[k] = x at hx
    obtain ⟨q, hq⟩ := h.rowQ 2 rfl hx
    have hxo := hok2.ls.each _ (List.mem_of_getElem? (abs_at hx))
    have x0 : 0 ≤ x.Sector := hxo.s0
    have xn : x.Sector < n := hxo.sn
    have hsucc := flK_succ (aC_ cap clock disk ls) k
    have hget : (flK (aC_ cap clock disk ls) k).1.Lines[k]? = some x.abs := by rw [← e1]; exact abs_at hx
    unfold flush1 at hsucc
    rw [hget] at hsucc
    simp only at hsucc
    rw [← e1, ← e2] at hsucc
    simp only [Int.toNat_natCast]
    rw [w64 (n := (k : Int) + 1) (by omega) (by omega)]
    refine ⟨_, rfl, tl, h.cellP 0 rfl rfl, by omega, by omega, q, hq, _, h.rdR 2 rfl hq hx rfl, ?_⟩
    refine BIf.of (fun hd => ?_) (fun hd => ?_)
    · refine (s176 h hx x0 (by omega) (by omega) hxo.len (by omega) (by omega)).mono ?_
      rintro _ w108 ⟨rfl, tw2, y, hy, h⟩
      refine ⟨rfl, ?_⟩
      have e : wrL (aC_ cap clock disk2 ls2) k x.abs = (aC_ cap clock (putSec disk2 x.Sector.toNat x.Data) (ls2.set k x.clean), [⟨x.Sector, x.Data⟩]) := by
        unfold wrL aC_
        rw [if_pos (show x.abs.Dirty = true from hd)]
        simp only [List.map_set]; rfl
      rw [e] at hsucc
      exact hJ _ _ ⟨k + 1, _, _, ws ++ [y], tw2, by omega, by omega, by rw [hsucc], by rw [hsucc, List.map_append]; simp [hy], by simp; omega, h⟩ (by omega)
    · have e : wrL (aC_ cap clock disk2 ls2) k x.abs = (aC_ cap clock disk2 ls2, []) := by
        unfold wrL
        rw [if_neg (show ¬ x.abs.Dirty = true by show ¬ x.Dirty = true; rw [hd]; decide)]
      rw [e, List.append_nil] at hsucc
      exact hJ _ _ ⟨k + 1, _, _, ws, tw, by omega, by omega, by rw [hsucc], by rw [hsucc], by omega, h⟩ (by omega)
  · have hke : k = ls.length := by omega
    subst hke
    exact fin e1 e2 (h.nil none 1)
end Go.Proofs.Ytenhcpjlkmbedaa

/- A cache in memory: it is lent; the program's check and copy. Conditions: none. -/
set_option linter.unusedVariables false
set_option linter.unusedSimpArgs false
namespace Go.Proofs.Ytenhcpjlkmbedaa
open Go Go.Den Go.Cc
structure LentC (w : World) (td tl : Sl) (disk : List Int) (ls : List RLine) : Prop where
  row : RowAt w td.a td.len (disk.map (Value.int .u8))
  len : td.len = disk.length
  cap : td.len ≤ td.cap
  recs_ : RecsAt w tl 5 RLine.cells ls
  each : ∀ x, x ∈ ls → RowAt w x.D.a x.D.len (x.Data.map (Value.int .u8)) ∧ x.D.len = x.Data.length
theorem LentC.ext {w w' : World} {td tl : Sl} {disk : List Int} {ls : List RLine} (h : LentC w td tl disk ls) (e : Ext w w') : LentC w' td tl disk ls :=
  ⟨e.row h.row, h.len, h.cap, h.recs_.ext e, fun x hx => ⟨e.row (h.each x hx).1, (h.each x hx).2⟩⟩
theorem lent_of {w0 w : World} {As : List Asr} {td tl : Sl} {disk : List Int} {ls : List RLine} (h : SH w0 w As) (i j k : Nat) (hi : As[i]? = some (rD td disk)) (hj : As[j]? = some (rL tl ls)) (hk : As[k]? = some (bL ls)) (hl : ls.length ≤ 1000) : LentC w td tl disk ls :=
  ⟨h.rowN i hi, by rw [h.len i hi, nums_len], h.lenCap i hi, h.recsAt j hj (fun _ => rfl) (by omega), fun x hx => by
    obtain ⟨m, hm⟩ := List.getElem?_of_mem hx
    obtain ⟨G, g⟩ := line_at h k hk hm
    exact ⟨g.rowN 0 rfl, by rw [g.len 0 rfl, nums_len]⟩⟩
/-- Sectors of bytes that are lent. -/
theorem s95L {w : World} {td : Sl} {disk : List Int} {s : Nat} (hr : RowAt w td.a td.len (disk.map (Value.int .u8))) (hl : td.len = disk.length) (hc : td.len ≤ td.cap) (hs : (s + 1) * 128 ≤ disk.length) (hd : disk.length ≤ 131072) :
    CallW Try.prog 95 #[.slice td.a td.len td.cap, .int .i64 (s : Int)] w (fun v w' => ∃ t : Sl, v = .slice t.a t.len t.cap ∧ SH w w' [rD t (secOf disk s)]) := by
  refine go95 ?_
  unfold W95
  have h := SH.start w
  have e1 : IntKind.i64.wrap (IntKind.i64.wrap ((s : Int) + 1) * 128) = (((s + 1) * 128 : Nat) : Int) := by rw [w64 (n := (s : Int) + 1) (by omega) (by omega), w64 (by omega) (by omega)]; omega
  have e2 : IntKind.i64.wrap ((s : Int) * 128) = ((s * 128 : Nat) : Int) := by rw [w64 (by omega) (by omega)]; omega
  rw [e1, e2]
  refine ⟨by omega, by omega, by omega, by omega, ?_⟩
  rw [Int.toNat_natCast, Int.toNat_natCast, show (s + 1) * 128 - s * 128 = 128 by omega]
  refine SH.appendN (m := []) (us := secOf disk s) (h.nil none 1) (by unfold secOf; rw [Nat.mul_comm 128 s]; exact row_cut (n := 128) hr hl hc (by omega)) rfl rfl (by decide) (by show (_ + _) * 1 ≤ _; unfold secOf; rw [List.length_take]; simp; omega) (fun t w2 h _ _ => ⟨t, rfl, h⟩)
abbrev BLn (b : Nat) (x : RLine) : Asr := aB b (x.cells.map Ce.v)
abbrev cV (cap clock : Int) (td tl : Sl) : Value := .agg #[.int .i64 cap, .int .i64 clock, .slice td.a td.len td.cap, .slice tl.a tl.len tl.cap]
set_option maxHeartbeats 2000000 in
/-- The program's check holds of a cache as it should be. -/
theorem s156 {w : World} {n : Nat} {cap clock : Int} {td tl : Sl} {disk : List Int} {ls : List RLine} (hL : LentC w td tl disk ls) (hok : COk n (aC_ cap clock disk ls)) (hcap : cap ≤ 64) (hn : n ≤ 1024) (hck : clock ≤ 1000000) :
    CallW Try.prog 156 #[cV cap clock td tl] w (fun v w' => v = .bool true ∧ Ext w w') := by
  refine go156 (a0_0 := cap) (a0_1 := clock) (a0_2 := td) (a0_3 := tl) ?_
  unfold W156
  have hdl : disk.length = 128 * n := hok.disk
  have hfew : ((ls.map RLine.abs).length : Int) ≤ cap := hok.few
  rw [List.length_map] at hfew
  have hcap1 : 1 ≤ cap := hok.cap
  have hck0 : 0 ≤ clock := hok.clock
  have htd := hL.len
  have htl := hL.recs_.len
  have hdiv : IntKind.i64.wrap ((td.len : Int).tdiv 128) = n := by rw [htd, Int.tdiv_eq_ediv_of_nonneg (by omega), w64 (by omega) (by omega)]; omega
  have h := SH.start w
  refine h.alloc (fun w1 h e1 n1 => ?_)
  generalize w.heap.size = cb at *
  have h : SH w w1 [BK cb cap clock td tl] := h
  refine ⟨_, h.cell 0 rfl rfl, ?_⟩
  refine JoinW.cut1 (fun (b : Bool) w' => b = false ∧ w' = w1) (BIf.dec (fun hc => absurd hc (by omega)) (fun _ => ⟨_, h.cell 0 rfl rfl, decide_eq_false (by omega), rfl⟩)) ?_
  rintro (b : Bool) w5 ⟨rfl, rfl⟩
  refine JoinW.cut1 (fun (b : Bool) w' => b = false ∧ w' = w5) (BIf.f rfl ⟨_, h.cell 0 rfl rfl, decide_eq_false (by omega), rfl⟩) ?_
  rintro (b : Bool) w8 ⟨rfl, rfl⟩
  refine JoinW.cut1 (fun (b : Bool) w' => b = false ∧ w' = w8) (BIf.f rfl ⟨_, h.cell 0 rfl rfl, decide_eq_false (by omega), rfl⟩) ?_
  rintro (b : Bool) w11 ⟨rfl, rfl⟩
  refine JoinW.cut1 (fun (b : Bool) w' => b = false ∧ w' = w11) (BIf.f rfl ⟨td, h.cell 0 rfl rfl, (c106 htd).mono ?_⟩) ?_
  · rintro _ w86 ⟨rfl, rfl⟩
    refine ⟨_, rfl, ?_, by trivial⟩
    unfold dOk
    rw [decide_eq_true (by omega), decide_eq_true (by omega)]; rfl
  rintro (b : Bool) w14 ⟨rfl, rfl⟩
  refine JoinW.cut1 (fun (b : Bool) w' => b = false ∧ w' = w14) (BIf.f rfl ⟨tl, h.cell 0 rfl rfl, _, h.cell 0 rfl rfl, decide_eq_false (by omega), by trivial⟩) ?_
  rintro (b : Bool) w17 ⟨rfl, rfl⟩
  refine BIf.f rfl ?_
  refine h.newMap (fun w18 h n18 => ?_)
  generalize w17.heap.size = mb at *
  refine ⟨tl, h.cell 1 rfl rfl, ?_⟩
  refine LoopW.m2 (fun (last : Int) (i : Int) w' => ∃ (k : Nat) (ks : List Int), i = k ∧ k ≤ ls.length ∧ -1 ≤ last ∧ (∀ x, ls[k]? = some x → last < x.Sector) ∧ (∀ u, u ∈ ks → ∃ j x, j < k ∧ ls[j]? = some x ∧ x.Used = u) ∧ SH w w' [aSet mb ks, BK cb cap clock td tl]) (fun _ (i : Int) _ => (ls.length - i).toNat) ⟨0, [], rfl, by omega, by omega, fun x hx => by
    have := (hok.ls.each _ (List.mem_of_getElem? (abs_at hx))).s0
    have : 0 ≤ x.Sector := this
    omega, fun u hu => by simp at hu, h⟩ ?_
  clear h
  rintro (last : Int) (i : Int) w23 ⟨k, ks, rfl, hk, hl1, hlast, hks, h⟩ J hJ
  refine BIf.dec (fun hlt => ?_) (fun hge => ⟨by trivial, h.ext⟩)
  have hx : ls[k]? = some ls[k] := List.getElem?_eq_getElem (by omega)
  generalize ls[k] = x at hx
  obtain ⟨q, hq, hc⟩ := (hL.recs_.ext h.ext).get (by decide) hx
  obtain ⟨hxr, hxl⟩ := hL.each x (List.mem_of_getElem? hx)
  have hxo := hok.ls.each _ (List.mem_of_getElem? (abs_at hx))
  have x0 : 0 ≤ x.Sector := hxo.s0
  have xn : x.Sector < n := hxo.sn
  have xl : x.Data.length = 128 := hxo.len
  have xp : x.Pins = 0 := hxo.pins
  have xu1 : 1 ≤ x.Used := hxo.u1
  have xun : x.Used ≤ clock := hxo.un
  have xls := hlast x hx
  simp only [Int.toNat_natCast]
  rw [w64 (n := (k : Int) + 1) (by omega) (by omega)]
  refine ⟨by omega, by omega, q, hq, _, hc 0 _ rfl, _, hc 1 _ rfl, _, hc 2 _ rfl, _, hc 3 _ rfl, x.D, hc 4 _ rfl, ?_⟩
  refine h.alloc (fun w30 h e30 n30 => ?_)
  refine h.put 0 rfl rfl rfl (fun w31 h n31 => ?_)
  generalize w23.heap.size = xb at *
  have h : SH w w31 [BLn xb x, aSet mb ks, BK cb cap clock td tl] := h
  refine ⟨_, h.cell 0 rfl rfl, ?_⟩
  refine JoinW.cut1 (fun (b : Bool) w' => b = false ∧ w' = w31) (BIf.dec (fun hc => absurd hc (by omega)) (fun _ => ⟨_, h.cell 0 rfl rfl, td, h.cell 2 rfl rfl, by decide, by rw [hdiv]; exact decide_eq_false (by omega), rfl⟩)) ?_
  rintro (b : Bool) w35 ⟨rfl, rfl⟩
  refine JoinW.cut1 (fun (b : Bool) w' => b = false ∧ w' = w35) (BIf.f rfl ⟨x.D, h.cell 0 rfl rfl, by rw [hxl, xl]; rfl, by trivial⟩) ?_
  rintro (b : Bool) w38 ⟨rfl, rfl⟩
  refine JoinW.cut1 (fun (b : Bool) w' => b = false ∧ w' = w38) (BIf.f rfl ⟨_, h.cell 0 rfl rfl, decide_eq_false (by omega), rfl⟩) ?_
  rintro (b : Bool) w41 ⟨rfl, rfl⟩
  refine JoinW.cut1 (fun (b : Bool) w' => b = false ∧ w' = w41) (BIf.f rfl ⟨_, h.cell 0 rfl rfl, _, h.cell 2 rfl rfl, decide_eq_false (by omega), rfl⟩) ?_
  rintro (b : Bool) w44 ⟨rfl, rfl⟩
  refine JoinW.cut1 (fun (b : Bool) w' => b = false ∧ w' = w44) (BIf.f rfl ⟨_, h.cell 0 rfl rfl, h.getSet 1 rfl x.Used (fun ov hov => ⟨_, hov, ?_, rfl⟩)⟩) ?_
  · refine decide_eq_false (fun hm => ?_)
    obtain ⟨j, y, hj, hy, hyu⟩ := hks _ hm
    have hp := List.pairwise_iff_getElem.1 hok.ls.dif j k (by unfold aC_; simp only [List.length_map]; omega) (by unfold aC_; simp only [List.length_map]; omega) hj
    apply hp
    obtain ⟨e1, e2⟩ := List.getElem?_eq_some_iff.1 hy
    obtain ⟨e3, e4⟩ := List.getElem?_eq_some_iff.1 hx
    unfold aC_
    simp only [List.getElem_map, e2, e4]
    exact hyu
  rintro (b : Bool) w47 ⟨rfl, rfl⟩
  refine JoinW.cut1 (fun (b : Bool) w' => b = false ∧ w' = w47) (BIf.f rfl ⟨_, h.cell 0 rfl rfl, decide_eq_false (by omega), rfl⟩) ?_
  rintro (b : Bool) w50 ⟨rfl, rfl⟩
  refine JoinW.cut1 (fun (b : Bool) w' => b = false ∧ w' = w50) (BIf.f rfl ⟨_, h.cell 0 rfl rfl, decide_eq_false (by omega), rfl⟩) ?_
  rintro (b : Bool) w53 ⟨rfl, rfl⟩
  refine BIf.f rfl ?_
  have h := h.drew
  refine JoinW.cut1 (fun (b : Bool) w' => b = false ∧ SH w w' [BLn xb x, aSet mb ks, BK cb cap clock td tl]) ?_ ?_
  · refine ⟨_, h.cell 0 rfl rfl, BIf.of (fun hd => ?_) (fun hd => ⟨rfl, h⟩)⟩
    have hcl : x.Data = secOf disk x.Sector.toNat := hxo.clean (by show x.Dirty = false; simpa using hd)
    obtain ⟨sn, hsn⟩ := Int.eq_ofNat_of_zero_le x0
    have hlw := hL.ext h.ext
    refine ⟨x.D, h.cell 0 rfl rfl, x.Data, h.ext.row hxr, td, h.cell 2 rfl rfl, _, h.cell 0 rfl rfl, ?_⟩
    rw [hsn]
    refine (s95L (s := sn) hlw.row hlw.len hlw.cap (by omega) (by omega)).mono ?_
    rintro _ w66 ⟨t, rfl, g⟩
    have h := h.seq g
    refine ⟨t, rfl, ⟨x.Data, h.ext.row hxr, rfl⟩, ⟨x.D, h.cell 1 rfl rfl, rfl⟩, secOf disk sn, h.rowN 0 rfl, ?_, h.drop⟩
    rw [hsn, Int.toNat_natCast] at hcl
    rw [← hcl, strEq_iff.2 rfl]; rfl
  rintro (b : Bool) w56 ⟨rfl, h⟩
  refine BIf.f rfl ⟨_, h.cell 0 rfl rfl, _, h.cell 0 rfl rfl, h.putSet 1 rfl x.Used (fun w59 h n59 => ?_)⟩
  refine hJ _ _ _ ⟨k + 1, insK ks x.Used, by omega, by omega, by omega, fun y hy => ?_, fun u hu => ?_, h.drop⟩ (by omega)
  · have hp := List.pairwise_iff_getElem.1 hok.ls.srt k (k + 1) (by unfold aC_; simp only [List.length_map]; omega) (by unfold aC_; simp only [List.length_map]; have := (List.getElem?_eq_some_iff.1 hy).1; omega) (by omega)
    obtain ⟨e1, e2⟩ := List.getElem?_eq_some_iff.1 hy
    obtain ⟨e3, e4⟩ := List.getElem?_eq_some_iff.1 hx
    unfold aC_ at hp
    simp only [List.getElem_map, e2, e4] at hp
    exact hp
  · rcases mem_insK.1 hu with hu | rfl
    · obtain ⟨j, y, hj, hy, e⟩ := hks u hu
      exact ⟨j, y, by omega, hy, e⟩
    · exact ⟨k, x, by omega, hx, rfl⟩
end Go.Proofs.Ytenhcpjlkmbedaa

/- A cache in memory: the program's copy, a new cache, a step of the interface. Conditions: none. -/
set_option linter.unusedVariables false
set_option linter.unusedSimpArgs false
namespace Go.Proofs.Ytenhcpjlkmbedaa
open Go Go.Den Go.Cc
theorem take_snoc2 {α : Type} {l : List α} {k : Nat} {x : α} (hx : l[k]? = some x) : l.take (k + 1) = l.take k ++ [x] := by
  rw [List.take_add_one, hx]; rfl
set_option maxHeartbeats 2000000 in
theorem s155 {w : World} {cap clock : Int} {td tl : Sl} {disk : List Int} {ls : List RLine} (hL : LentC w td tl disk ls) (hd : disk.length ≤ 131072) (hl : ls.length ≤ 1000) (hx : ∀ x, x ∈ ls → x.Data.length = 128) :
    CallW Try.prog 155 #[cV cap clock td tl] w (fun v w' => ∃ (td' tl' : Sl) (ls' : List RLine), v = cV cap clock td' tl' ∧ ls'.map RLine.abs = ls.map RLine.abs ∧ SH w w' [rD td' disk, rL tl' ls', bL ls']) := by
  refine go155 (a0_0 := cap) (a0_1 := clock) (a0_2 := td) (a0_3 := tl) ?_
  unfold W155
  have htl := hL.recs_.len
  have h := SH.start w
  refine h.alloc (fun w1 h e1 n1 => ?_)
  refine h.alloc (fun w2 h e2 n2 => ?_)
  have h : SH w w2 [BK w1.heap.size 0 0 N0 N0, BK w.heap.size cap clock td tl] := h
  generalize w.heap.size = cb at *
  generalize w1.heap.size = ob at *
  refine ⟨td, h.cell 1 rfl rfl, ?_⟩
  refine SH.appendN (m := []) (h.nil none 1) (h.ext.row hL.row) rfl rfl (by decide) (by show (_ + _) * 1 ≤ _; simp; omega) (fun t2 w5 h ht2 _ => ?_)
  refine h.setV 2 rfl rfl (fun w6 h n6 => ?_)
  have h : SH w w6 [rD t2 disk, BK ob 0 0 N0 N0, BK cb cap clock t2 tl] := h
  refine ⟨tl, h.cell 2 rfl rfl, ?_⟩
  refine LoopW.m2 (fun (l : Sl) (i : Int) w' => ∃ (k : Nat) (ls2 : List RLine), i = k ∧ k ≤ ls.length ∧ ls2.map RLine.abs = (ls.take k).map RLine.abs ∧ SH w w' [rL l ls2, bL ls2, rD t2 disk, BK ob 0 0 N0 N0, BK cb cap clock t2 tl]) (fun _ (i : Int) _ => (ls.length - i).toNat) ⟨0, [], rfl, by omega, rfl, (SH.bagNil lineA h).nil none 5⟩ ?_
  clear h
  rintro (l : Sl) (i : Int) w11 ⟨k, ls2, rfl, hk, hls2, h⟩ J hJ
  have hl2 : ls2.length = k := by have := congrArg List.length hls2; rw [List.length_map, List.length_map, List.length_take] at this; omega
  refine BIf.dec (fun hlt => ?_) (fun hge => ?_)
  · have hxk : ls[k]? = some ls[k] := List.getElem?_eq_getElem (by omega)
    generalize ls[k] = x at hxk
    obtain ⟨q, hq, hc⟩ := (hL.recs_.ext h.ext).get (by decide) hxk
    obtain ⟨hxr, hxl⟩ := hL.each x (List.mem_of_getElem? hxk)
    have hx128 := hx x (List.mem_of_getElem? hxk)
    simp only [Int.toNat_natCast]
    rw [w64 (n := (k : Int) + 1) (by omega) (by omega)]
    refine ⟨by omega, by omega, q, hq, _, hc 0 _ rfl, _, hc 1 _ rfl, _, hc 2 _ rfl, _, hc 3 _ rfl, x.D, hc 4 _ rfl, ?_⟩
    refine h.alloc (fun w18 h e18 n18 => ?_)
    refine h.put 0 rfl rfl rfl (fun w19 h n19 => ?_)
    generalize w11.heap.size = xb at *
    have h : SH w w19 [BLn xb x, rL l ls2, bL ls2, rD t2 disk, BK ob 0 0 N0 N0, BK cb cap clock t2 tl] := h
    refine ⟨x.D, h.cell 0 rfl rfl, ?_⟩
    refine SH.appendN (m := []) (h.nil none 1) (h.ext.row hxr) rfl rfl (by decide) (by show (_ + _) * 1 ≤ _; simp; omega) (fun t3 w22 h ht3 _ => ?_)
    refine h.setV 1 rfl rfl (fun w23 h n23 => ?_)
    have h : SH w w23 [rD t3 x.Data, BLn xb ⟨x.Sector, x.Used, x.Dirty, x.Pins, t3, x.Data⟩, rL l ls2, bL ls2, rD t2 disk, BK ob 0 0 N0 N0, BK cb cap clock t2 tl] := h
    refine ⟨_, h.cell 1 rfl rfl, _, h.cell 1 rfl rfl, _, h.cell 1 rfl rfl, _, h.cell 1 rfl rfl, t3, h.cell 1 rfl rfl, ?_⟩
    have h := ((h.dropAt 1).front (n := 1) rfl)
    refine LetW_iff.2 (SH.appendR1 (f := RLine.cells) (x := ⟨x.Sector, x.Used, x.Dirty, x.Pins, t3, x.Data⟩) h rfl rfl rfl (by decide) (by show (_ + _) * 56 ≤ _; omega) (plain_line _) (fun l30 w31 h hl30 _ => ?_))
    have h := SH.bagSnoc (f := lineA) (x := (⟨x.Sector, x.Used, x.Dirty, x.Pins, t3, x.Data⟩ : RLine)) (((h.front (n := 2) rfl).front (n := 2) rfl))
    refine hJ _ _ _ ⟨k + 1, ls2 ++ [⟨x.Sector, x.Used, x.Dirty, x.Pins, t3, x.Data⟩], by omega, by omega, ?_, h.p1⟩ (by omega)
    rw [take_snoc2 hxk, List.map_append, List.map_append, hls2]; rfl
  · have hke : k = ls.length := by omega
    subst hke
    rw [List.take_length] at hls2
    refine h.setV 4 rfl rfl (fun w32 h n32 => ?_)
    have h : SH w w32 [rL l ls2, bL ls2, rD t2 disk, BK ob 0 0 N0 N0, BK cb cap clock t2 l] := h
    refine ⟨_, h.cell 4 rfl rfl, _, h.cell 4 rfl rfl, t2, h.cell 4 rfl rfl, l, h.cell 4 rfl rfl, ?_⟩
    refine h.put 3 rfl rfl rfl (fun w37 h n37 => ?_)
    refine ⟨_, h.cell 3 rfl rfl, _, h.cell 3 rfl rfl, t2, h.cell 3 rfl rfl, l, h.cell 3 rfl rfl, ?_⟩
    exact ⟨t2, l, ls2, rfl, hls2, (((h.dropAt 4).dropAt 3).front (n := 2) rfl)⟩
theorem lent_new {w : World} {td : Sl} {disk : List Int} (hr : RowAt w td.a td.len (disk.map (Value.int .u8))) (hl : td.len = disk.length) (hc : td.len ≤ td.cap) : LentC w td N0 disk [] :=
  ⟨hr, hl, hc, ⟨rfl, ⟨rfl, fun hn => by simp at hn⟩, by simp, fun _ => rfl⟩, fun x hx => by simp at hx⟩
theorem new_is (cap : Int) (disk : List Int) : new cap disk = aC_ cap 0 disk [] := rfl
set_option maxHeartbeats 1000000 in
/-- A new cache. -/
theorem s104 {w : World} {n : Nat} {cap : Int} {td : Sl} {disk : List Int} (hr : RowAt w td.a td.len (disk.map (Value.int .u8))) (hl : td.len = disk.length) (hc : td.len ≤ td.cap) (h1 : 1 ≤ cap) (hcap : cap ≤ 64) (hd : disk.length = 128 * n) (hn : n ≤ 1024) :
    CallW Try.prog 104 #[.int .i64 cap, .slice td.a td.len td.cap] w (fun v w' => ∃ (td' tl' : Sl), v = cV cap 0 td' tl' ∧ SH w w' [rD td' disk, rL tl' [], bL []]) := by
  refine go104 ?_
  unfold W104
  have h := SH.start w
  refine h.alloc (fun w1 h e1 n1 => ?_)
  refine (s155 (cap := cap) (clock := 0) (lent_new (h.ext.row hr) hl hc) (by omega) (by simp) (fun x hx => by simp at hx)).mono ?_
  rintro _ w3 ⟨td2, tl2, ls2, rfl, hls, g⟩
  have hls : ls2 = [] := by simpa using hls
  subst hls
  have h := h.seq g
  refine ⟨_, _, td2, tl2, rfl, ?_⟩
  refine h.alloc (fun w8 h e8 n8 => ?_)
  refine h.put 0 rfl rfl rfl (fun w9 h n9 => ?_)
  have h : SH w w9 [BK w3.heap.size cap 0 td2 tl2, rD td2 disk, rL tl2 [], bL [], BK w.heap.size 0 0 N0 N0] := h
  refine ⟨_, h.cell 0 rfl rfl, _, h.cell 0 rfl rfl, td2, h.cell 0 rfl rfl, tl2, h.cell 0 rfl rfl, ?_⟩
  refine (s156 (lent_of h 1 2 3 rfl rfl rfl (by simp)) (by rw [← new_is]; exact new_ok h1 hd) hcap hn (by omega)).mono ?_
  rintro _ w15 ⟨rfl, ee⟩
  have h := h.to ee
  refine ⟨_, rfl, BIf.f rfl ⟨_, h.cell 0 rfl rfl, _, h.cell 0 rfl rfl, td2, h.cell 0 rfl rfl, tl2, h.cell 0 rfl rfl, ?_⟩⟩
  refine h.put 4 rfl rfl rfl (fun w26 h n26 => ?_)
  refine ⟨_, h.cell 4 rfl rfl, _, h.cell 4 rfl rfl, td2, h.cell 4 rfl rfl, tl2, h.cell 4 rfl rfl, ?_⟩
  exact ⟨td2, tl2, rfl, ((h.dropAt 4).dropAt 0)⟩
structure StepR (w : World) (cap : Int) (r : Cache × Res) (v : Value) (w' : World) : Prop where
  ex : ∃ (clock : Int) (disk : List Int) (ls : List RLine) (ws : List RWr) (td tl tt tw : Sl), v = .tuple #[cV cap clock td tl, .agg #[.int .i64 r.2.Code, .slice tt.a tt.len tt.cap, .slice tw.a tw.len tw.cap]] ∧ aC_ cap clock disk ls = r.1 ∧ ws.map RWr.abs = r.2.Writes ∧
    SH w w' [rD td disk, rL tl ls, bL ls, rD tt r.2.Data, rW tw ws, bW ws]
theorem step_bad {n : Nat} {c : Cache} {o : COp} (h : COk n c) (h3 : o.Kind ≠ 3) (h6 : o.Kind ≠ 6) (hc : (stepC n c o).2.Code ≠ 0) : stepC n c o = (c, ⟨(stepC n c o).2.Code, [], []⟩) := by
  by_cases hb : BadArg n o
  · unfold stepC; rw [if_pos hb]
  by_cases k4 : o.Kind = 4
  · unfold stepC; rw [if_neg hb, if_neg (by omega), if_pos k4]
  exfalso
  apply hc
  rw [(step_ok h h3 h6).code]
  unfold codeV
  rw [if_neg hb, if_neg k4]
set_option maxHeartbeats 2000000 in
theorem s105 {w : World} {n : Nat} {cap clock : Int} {td tl to : Sl} {disk : List Int} {ls : List RLine} {o : COp} (hL : LentC w td tl disk ls) (hok : COk n (aC_ cap clock disk ls)) (hcap : cap ≤ 64) (hn : n ≤ 1024) (hck : clock ≤ 1000000) (hb : ByAt w to o.Data) (k3 : o.Kind ≠ 3) (k6 : o.Kind ≠ 6) :
    CallW Try.prog 105 #[cV cap clock td tl, .agg ⟨opV o to⟩] w (StepR w cap (stepC n (aC_ cap clock disk ls) o)) := by
  refine go105 (a0_0 := cap) (a0_1 := clock) (a0_2 := td) (a0_3 := tl) (a1_0 := o.Kind) (a1_1 := o.Sector) (a1_2 := o.At) (a1_3 := o.N) (a1_4 := to) ?_
  unfold W105
  have hdl : disk.length = 128 * n := hok.disk
  have hfew : ((ls.map RLine.abs).length : Int) ≤ cap := hok.few
  rw [List.length_map] at hfew
  have h128 : ∀ x, x ∈ ls → x.Data.length = 128 := fun x hx => (hok.ls.each x.abs (List.mem_map.2 ⟨x, hx, rfl⟩)).len
  have h := SH.start w
  refine h.alloc (fun w1 h e1 n1 => ?_)
  refine h.alloc (fun w2 h e2 n2 => ?_)
  refine h.alloc (fun w3 h e3 n3 => ?_)
  refine h.alloc (fun w4 h e4 n4 => ?_)
  have h : SH w w4 [BR w3.heap.size 0 N0 N0, BK w2.heap.size 0 0 N0 N0, BO w1.heap.size o to, BK w.heap.size cap clock td tl] := h
  generalize w.heap.size = b0 at *
  generalize w1.heap.size = b1 at *
  generalize w2.heap.size = b2 at *
  generalize w3.heap.size = b3 at *
  refine ⟨_, h.cell 3 rfl rfl, _, h.cell 3 rfl rfl, td, h.cell 3 rfl rfl, tl, h.cell 3 rfl rfl, ?_⟩
  refine (s156 (hL.ext h.ext) hok hcap hn hck).mono ?_
  rintro _ w10 ⟨rfl, ee⟩
  have h := h.to ee
  refine ⟨_, rfl, BIf.f rfl ⟨_, h.cell 3 rfl rfl, _, h.cell 3 rfl rfl, td, h.cell 3 rfl rfl, tl, h.cell 3 rfl rfl, ?_⟩⟩
  refine (s155 (cap := cap) (clock := clock) (hL.ext h.ext) (by omega) (by omega) h128).mono ?_
  rintro _ w26 ⟨td2, tl2, ls2, rfl, hls2, g⟩
  have h := h.seq g
  refine ⟨_, _, td2, tl2, rfl, ?_⟩
  refine h.alloc (fun w31 h e31 n31 => ?_)
  refine h.put 0 rfl rfl rfl (fun w32 h n32 => ?_)
  refine h.alloc (fun w33 h e33 n33 => ?_)
  generalize w26.heap.size = b4 at *
  generalize w32.heap.size = b5 at *
  have h : SH w w33 [BR b5 0 N0 N0, BK b4 cap clock td2 tl2, rD td2 disk, rL tl2 ls2, bL ls2, BR b3 0 N0 N0, BK b2 0 0 N0 N0, BO b1 o to, BK b0 cap clock td tl] := h
  refine ⟨_, h.cell 7 rfl rfl, _, h.cell 7 rfl rfl, _, h.cell 7 rfl rfl, _, h.cell 7 rfl rfl, to, h.cell 7 rfl rfl, ?_⟩
  have h : SH w w33 (KP b4 b5 cap clock 0 td2 tl2 N0 N0 disk ls2 [] [BR b3 0 N0 N0, BK b2 0 0 N0 N0, BO b1 o to, BK b0 cap clock td tl]) := by
    have h := (SH.bagNil wrA h).nil none 2
    exact (((((h.front (n := 2) rfl).front (n := 6) rfl).front (n := 6) rfl).front (n := 6) rfl).front (n := 6) rfl)
  have habs : aC_ cap clock disk ls2 = aC_ cap clock disk ls := by unfold aC_; rw [hls2]
  have hst := s157 h (by rw [habs]; exact hok) hcap hn hck hb k3 k6
  rw [habs] at hst
  have hbad := step_bad (o := o) hok k3 k6
  have hsok := step_ok (o := o) hok k3 k6
  generalize stepC n (aC_ cap clock disk ls) o = r at *
  refine hst.mono ?_
  rintro _ w40 ⟨rfl, ck2, disk2, ls3, ws, tl3, tt, tw, e1, e2, h⟩
  refine ⟨rfl, _, h.cell 5 rfl rfl, ?_⟩
  have h := h.drew
  refine BIf.ne (fun hc => ?_) (fun hc => ?_)
  · refine ⟨_, h.cell 11 rfl rfl, _, h.cell 11 rfl rfl, td, h.cell 11 rfl rfl, tl, h.cell 11 rfl rfl, _, h.cell 5 rfl rfl, ?_⟩
    refine (s155 (cap := cap) (clock := clock) (hL.ext h.ext) (by omega) (by omega) h128).mono ?_
    rintro _ w48 ⟨td5, tl5, ls5, rfl, hls5, g⟩
    have h := h.seq g
    refine ⟨_, _, td5, tl5, rfl, ⟨_, h.cell 8 rfl rfl, by first | rfl | trivial⟩, ?_⟩
    refine h.put 12 rfl rfl rfl (fun w54 h n54 => ?_)
    refine ⟨⟨_, h.cell 8 rfl rfl, by first | rfl | trivial⟩, ?_⟩
    refine h.put 11 rfl rfl rfl (fun w56 h n56 => ?_)
    refine ⟨_, h.cell 12 rfl rfl, _, h.cell 12 rfl rfl, td5, h.cell 12 rfl rfl, tl5, h.cell 12 rfl rfl, _, h.cell 11 rfl rfl, N0, h.cell 11 rfl rfl, N0, h.cell 11 rfl rfl, ?_⟩
    have hb2 := hbad hc
    refine ⟨clock, disk, ls5, [], td5, tl5, N0, N0, rfl, ?_, ?_, ?_⟩
    · rw [hb2]; unfold aC_; rw [hls5]
    · rw [hb2]; rfl
    · rw [hb2]
      have h := ((SH.bagNil wrA (h.take 3)).nil none 2).nil none 1
      exact (((h.front (n := 5) rfl).front (n := 5) rfl).front (n := 5) rfl)
  · have h : SH w w40.drew [rD tt r.2.Data, BK b4 cap ck2 td2 tl3, rD td2 disk2, rL tl3 ls3, bL ls3, BR b5 r.2.Code tt tw, rW tw ws, bW ws, BR b3 0 N0 N0, BK b2 0 0 N0 N0, BO b1 o to, BK b0 cap clock td tl] := h
    refine ⟨_, h.cell 1 rfl rfl, _, h.cell 1 rfl rfl, td2, h.cell 1 rfl rfl, tl3, h.cell 1 rfl rfl, _, h.cell 5 rfl rfl, tt, h.cell 5 rfl rfl, tw, h.cell 5 rfl rfl, ?_⟩
    refine h.put 9 rfl rfl rfl (fun w71 h n71 => ?_)
    refine ⟨⟨_, h.cell 5 rfl rfl, tt, h.cell 5 rfl rfl, tw, h.cell 5 rfl rfl, by first | rfl | trivial⟩, ?_⟩
    refine h.put 8 rfl rfl rfl (fun w75 h n75 => ?_)
    refine ⟨_, h.cell 9 rfl rfl, _, h.cell 9 rfl rfl, td2, h.cell 9 rfl rfl, tl3, h.cell 9 rfl rfl, _, h.cell 8 rfl rfl, tt, h.cell 8 rfl rfl, tw, h.cell 8 rfl rfl, ?_⟩
    have h : SH w w75 [rD tt r.2.Data, BK b4 cap ck2 td2 tl3, rD td2 disk2, rL tl3 ls3, bL ls3, BR b5 r.2.Code tt tw, rW tw ws, bW ws] := h.take 8
    exact ⟨ck2, disk2, ls3, ws, td2, tl3, tt, tw, rfl, e1, e2, (((((h.dropAt 5).dropAt 1).front (n := 3) rfl).front (n := 3) rfl).front (n := 3) rfl)⟩
end Go.Proofs.Ytenhcpjlkmbedaa

/- A cache in memory: the program's run. Conditions: none. -/
set_option linter.unusedVariables false
set_option linter.unusedSimpArgs false
namespace Go.Proofs.Ytenhcpjlkmbedaa
open Go Go.Den Go.Cc
structure RRes where
  Code : Int
  T : Sl
  Data : List Int
  W : Sl
  Ws : List RWr
def RRes.cells (x : RRes) : List Value := [.int .i64 x.Code, .slice x.T.a x.T.len x.T.cap, .slice x.W.a x.W.len x.W.cap]
def RRes.abs (x : RRes) : Res := ⟨x.Code, x.Data, x.Ws.map RWr.abs⟩
def resA (x : RRes) : Asr := All [rD x.T x.Data, rW x.W x.Ws, bW x.Ws]
abbrev rR (t : Sl) (l : List RRes) : Asr := aRow t 3 (recs RRes.cells l)
abbrev bR (l : List RRes) : Asr := aBag resA l
theorem plain_res (x : RRes) : ∀ v, v ∈ x.cells → plainB v = true := fun v hv => by
  simp only [RRes.cells, List.mem_cons, List.not_mem_nil, or_false] at hv
  rcases hv with rfl | rfl | rfl <;> rfl
structure OpAt (w : World) (q : Addr) (k : Nat) (o : COp) (td : Sl) : Prop where
  c0 : w.cell? ((q.add (k * 5)).add 0) = some (.int .i64 o.Kind)
  c1 : w.cell? ((q.add (k * 5)).add 1) = some (.int .i64 o.Sector)
  c2 : w.cell? ((q.add (k * 5)).add 2) = some (.int .i64 o.At)
  c3 : w.cell? ((q.add (k * 5)).add 3) = some (.int .i64 o.N)
  c4 : w.cell? ((q.add (k * 5)).add 4) = some (.slice td.a td.len td.cap)
  by_ : ByAt w td o.Data
theorem OpAt.ext {w w' : World} {q : Addr} {k : Nat} {o : COp} {td : Sl} (h : OpAt w q k o td) (e : Ext w w') : OpAt w' q k o td :=
  ⟨e.cell h.c0, e.cell h.c1, e.cell h.c2, e.cell h.c3, e.cell h.c4, h.by_.ext e⟩
structure OpsAt (w : World) (s : Sl) (ops : List COp) : Prop where
  len : s.len = ops.length
  get : ∀ k o, ops[k]? = some o → ∃ (q : Addr) (td : Sl), s.a = some q ∧ OpAt w q k o td
theorem runC_snoc {n : Nat} {c : Cache} {ops : List COp} {k : Nat} {o : COp} (h : ops[k]? = some o) : runC n c (ops.take (k + 1)) = ((stepC n (runC n c (ops.take k)).1 o).1, (runC n c (ops.take k)).2 ++ [(stepC n (runC n c (ops.take k)).1 o).2]) := by
  rw [take_snoc2 h, run_snoc]
theorem take_mem {α : Type} {l : List α} {k : Nat} {x : α} (h : x ∈ l.take k) : x ∈ l := List.mem_of_mem_take h
def RunR (w : World) (r : Cache × List Res) (v : Value) (w' : World) : Prop := ∃ (l d : Sl) (rs : List RRes), v = .tuple #[.slice l.a l.len l.cap, .slice d.a d.len d.cap] ∧ rs.map RRes.abs = r.2 ∧ SH w w' [rD d r.1.Disk, rR l rs, bR rs]
theorem aC_eta {cap clock : Int} {disk : List Int} {ls : List RLine} {c : Cache} (h : aC_ cap clock disk ls = c) : c.Disk = disk ∧ c.Clock = clock ∧ c.Lines = ls.map RLine.abs := by subst h; exact ⟨rfl, rfl, rfl⟩
set_option maxHeartbeats 2000000 in
theorem s42 {w : World} {n : Nat} {cap : Int} {td to : Sl} {disk : List Int} {ops : List COp} (hr : RowAt w td.a td.len (disk.map (Value.int .u8))) (hl : td.len = disk.length) (hc : td.len ≤ td.cap) (h1 : 1 ≤ cap) (hcap : cap ≤ 64) (hd : disk.length = 128 * n) (hn : n ≤ 1024)
    (ho : OpsAt w to ops) (hol : ops.length ≤ 1000) (hk : ∀ o, o ∈ ops → o.Kind ≠ 3 ∧ o.Kind ≠ 6) :
    CallW Try.prog 42 #[.int .i64 cap, .slice td.a td.len td.cap, .slice to.a to.len to.cap] w (RunR w (runC n (new cap disk) ops)) := by
  refine go42 ?_
  unfold W42
  have hto := ho.len
  have h := SH.start w
  refine (s104 hr hl hc h1 hcap hd hn).mono ?_
  rintro _ w2 ⟨td0, tl0, rfl, g⟩
  have h := h.seq g
  refine ⟨_, _, td0, tl0, rfl, ?_⟩
  refine h.alloc (fun w7 h e7 n7 => ?_)
  refine h.put 0 rfl rfl rfl (fun w8 h n8 => ?_)
  generalize w2.heap.size = cb at *
  have h : SH w w8 [BK cb cap 0 td0 tl0, rD td0 disk, rL tl0 [], bL []] := h
  refine ⟨_, h.cell 0 rfl rfl, ?_⟩
  refine JoinW.cut1 (fun (b : Bool) w' => b = false ∧ w' = w8) (BIf.eq (fun hc => by omega) (fun _ => ⟨decide_eq_false (by omega), rfl⟩)) ?_
  rintro (b : Bool) w12 ⟨rfl, rfl⟩
  refine BIf.f rfl ?_
  have hrun := fun k => run_ok (new_ok h1 hd) (ops.take k) (fun o h => hk o (take_mem h))
  refine LoopW.m2 (fun (l : Sl) (i : Int) w' => ∃ (k : Nat) (clock : Int) (disk2 : List Int) (ls : List RLine) (td tl : Sl) (rs : List RRes), i = k ∧ k ≤ ops.length ∧ aC_ cap clock disk2 ls = (runC n (new cap disk) (ops.take k)).1 ∧ rs.map RRes.abs = (runC n (new cap disk) (ops.take k)).2 ∧ SH w w' [rR l rs, bR rs, BK cb cap clock td tl, rD td disk2, rL tl ls, bL ls]) (fun _ (i : Int) _ => (ops.length - i).toNat) ⟨0, 0, disk, [], td0, tl0, [], rfl, by omega, rfl, rfl, (SH.bagNil resA h).nil none 3⟩ ?_
  clear h
  rintro (l : Sl) (i : Int) w16 ⟨k, clock, disk2, ls, td1, tl1, rs, rfl, hkl, ec, ers, h⟩ J hJ
  have hj := hrun k
  have hok : COk n (aC_ cap clock disk2 ls) := by rw [ec]; exact hj.ok
  have hck : clock ≤ k := by
    have := hj.clock
    rw [← ec] at this
    have h2 : clock ≤ (0 : Int) + ((ops.take k).length : Int) := this
    rw [List.length_take] at h2
    omega
  have hrl : rs.length = k := by
    have := hj.len
    rw [← ers, List.length_map, List.length_take] at this
    omega
  have hdl : disk2.length = 128 * n := hok.disk
  have hfew : ((ls.map RLine.abs).length : Int) ≤ cap := hok.few
  rw [List.length_map] at hfew
  refine BIf.dec (fun hlt => ?_) (fun hge => ?_)
  · have hget : ops[k]? = some ops[k] := List.getElem?_eq_getElem (by omega)
    have hsn := runC_snoc (n := n) (c := new cap disk) hget
    obtain ⟨k3, k6⟩ := hk _ (List.mem_of_getElem? hget)
    generalize ops[k] = o at *
    obtain ⟨q, t, hq, hop⟩ := ho.get k o hget
    have H := hop.ext h.ext
    simp only [Int.toNat_natCast]
    rw [w64 (n := (k : Int) + 1) (by omega) (by omega)]
    refine ⟨by omega, by omega, q, hq, _, H.c0, _, H.c1, _, H.c2, _, H.c3, t, H.c4, ?_⟩
    refine h.alloc (fun w23 h e23 n23 => ?_)
    refine h.put 0 rfl rfl rfl (fun w24 h n24 => ?_)
    refine h.alloc (fun w25 h e25 n25 => ?_)
    generalize w16.heap.size = ob at *
    generalize w24.heap.size = rb at *
    have h : SH w w25 [BR rb 0 N0 N0, BO ob o t, rR l rs, bR rs, BK cb cap clock td1 tl1, rD td1 disk2, rL tl1 ls, bL ls] := h
    refine ⟨_, h.cell 4 rfl rfl, _, h.cell 4 rfl rfl, td1, h.cell 4 rfl rfl, tl1, h.cell 4 rfl rfl, _, h.cell 1 rfl rfl, _, h.cell 1 rfl rfl, _, h.cell 1 rfl rfl, _, h.cell 1 rfl rfl, t, h.cell 1 rfl rfl, ?_⟩
    have hcall := s105 (o := o) (lent_of h 5 6 7 rfl rfl rfl (by omega)) hok hcap hn (by omega) (hop.by_.ext h.ext) k3 k6
    rw [ec] at hcall
    generalize hr2 : stepC n (runC n (new cap disk) (ops.take k)).1 o = r at *
    refine hcall.mono ?_
    rintro _ w36 ⟨ck2, disk3, ls3, ws, td3, tl3, tt, tw, rfl, e1, e2, g⟩
    have h := h.seq g
    have h : SH w w36 [rD td3 disk3, rL tl3 ls3, bL ls3, rD tt r.2.Data, rW tw ws, bW ws, BR rb 0 N0 N0, BO ob o t, rR l rs, bR rs, BK cb cap clock td1 tl1, rD td1 disk2, rL tl1 ls, bL ls] := h
    refine ⟨_, _, td3, tl3, _, tt, tw, rfl, ?_⟩
    refine h.put 10 rfl rfl rfl (fun w44 h n44 => ?_)
    refine h.put 6 rfl rfl rfl (fun w45 h n45 => ?_)
    refine ⟨_, h.cell 6 rfl rfl, tt, h.cell 6 rfl rfl, tw, h.cell 6 rfl rfl, ?_⟩
    have h : SH w w45 [rD td3 disk3, rL tl3 ls3, bL ls3, rD tt r.2.Data, rW tw ws, bW ws, BR rb r.2.Code tt tw, BO ob o t, rR l rs, bR rs, BK cb cap ck2 td3 tl3] := h.take 11
    have h : SH w w45 [rD tt r.2.Data, rW tw ws, bW ws, rR l rs, bR rs, BK cb cap ck2 td3 tl3, rD td3 disk3, rL tl3 ls3, bL ls3] := ((((((((h.dropAt 7).dropAt 6).front (n := 8) rfl).front (n := 8) rfl).front (n := 8) rfl).front (n := 8) rfl).front (n := 8) rfl).front (n := 8) rfl)
    have h := SH.allIn (As := [rD tt r.2.Data, rW tw ws, bW ws]) h
    have h : SH w w45 (rR l rs :: resA ⟨r.2.Code, tt, r.2.Data, tw, ws⟩ :: bR rs :: [BK cb cap ck2 td3 tl3, rD td3 disk3, rL tl3 ls3, bL ls3]) := h.p1
    refine LetW_iff.2 (SH.appendR1 (f := RRes.cells) (x := ⟨r.2.Code, tt, r.2.Data, tw, ws⟩) h rfl rfl rfl (by decide) (by show (_ + _) * 56 ≤ _; omega) (plain_res _) (fun l2 w51 h hl2 _ => ?_))
    have h := SH.bagSnoc (f := resA) (x := (⟨r.2.Code, tt, r.2.Data, tw, ws⟩ : RRes)) (((h.front (n := 2) rfl).front (n := 2) rfl))
    refine hJ _ _ _ ⟨k + 1, ck2, disk3, ls3, td3, tl3, rs ++ [⟨r.2.Code, tt, r.2.Data, tw, ws⟩], by omega, by omega, by rw [hsn]; exact e1, ?_, h.p1⟩ (by omega)
    rw [hsn, List.map_append, ers]
    unfold RRes.abs
    simp only [List.map_cons, List.map_nil, e2]
  · have hke : k = ops.length := by omega
    subst hke
    rw [List.take_length] at ec ers
    refine ⟨td1, h.cell 2 rfl rfl, ?_⟩
    refine SH.appendN (m := []) (h.nil none 1) (h.rowN 3 rfl) rfl rfl (by decide) (by show (_ + _) * 1 ≤ _; simp; omega) (fun l53 w54 h hl53 _ => ?_)
    refine ⟨l, l53, rs, rfl, ers, ?_⟩
    rw [(aC_eta ec).1]
    exact h.take 3
end Go.Proofs.Ytenhcpjlkmbedaa

/- A cache in memory: the reference's line, write, cut. Conditions: none. -/
set_option linter.unusedVariables false
set_option linter.unusedSimpArgs false
namespace Go.Proofs.Ytenhcpjlkmbedaa
open Go Go.Den Go.Cc
theorem s152 {w0 w : World} {As : List Asr} {cap clock : Int} {td tl : Sl} {ls : List RLine} {s : Int} (h : SH w0 w As) (j : Nat) (hj : As[j]? = some (rL tl ls)) (hf : ls.length ≤ 1048576) :
    CallW Try.prog 152 #[cV cap clock td tl, .int .i64 s] w (fun v w' => v = .int .i64 (ixI (ls.map RLine.abs) s) ∧ SH w0 w' As) := by
  refine go152 (a0_0 := cap) (a0_1 := clock) (a0_2 := td) (a0_3 := tl) ?_
  unfold W152
  have hl : tl.len = ls.length := by have := h.len j hj; rw [recs_len] at this; exact this
  refine h.alloc (fun w1 h e1 n1 => ?_)
  generalize w.heap.size = b at *
  have h : SH w0 w1 (BK b cap clock td tl :: As) := h
  have hj2 : (BK b cap clock td tl :: As)[j + 1]? = some (rL tl ls) := hj
  refine LoopW.m1 (fun (k : Int) w' => ∃ m : Nat, k = m ∧ m ≤ ls.length ∧ (∀ a x, a < m → ls[a]? = some x → x.Sector ≠ s) ∧ w' = w1) (fun (k : Int) _ => ((ls.length : Int) - k).toNat) ⟨0, rfl, by omega, fun a x ha => by omega, rfl⟩ ?_
  rintro (k : Int) w5 ⟨m, rfl, hm, hno, rfl⟩ J hJ
  refine ⟨tl, h.cell 0 rfl rfl, BIf.dec (fun hlt => ?_) (fun hge => ?_)⟩
  · obtain ⟨x, hx⟩ : ∃ x, ls[m]? = some x := ⟨_, List.getElem?_eq_getElem (by omega)⟩
    obtain ⟨q, hq⟩ := h.rowQ (j + 1) hj2 hx
    simp only [Int.toNat_natCast]
    refine ⟨tl, h.cell 0 rfl rfl, by omega, by omega, q, hq, _, h.rdR (j + 1) hj2 hq hx rfl, ?_⟩
    rw [w64 (n := (m : Int) + 1) (by omega) (by omega)]
    refine BIf.eq (fun he => ⟨?_, h.drop⟩) (fun hne => ?_)
    · rw [ixI_at (k := m) (x := x.abs) (by rw [List.getElem?_map, hx]; rfl) he (fun a y ha hy => by
        obtain ⟨x2, h2, rfl⟩ := map_at hy
        exact hno a x2 ha h2)]
    · refine hJ _ _ ⟨m + 1, by omega, by omega, fun a y ha hy => ?_, rfl⟩ (by omega)
      by_cases ham : a = m
      · subst ham; rw [hx] at hy; cases hy; exact hne
      · exact hno a y (by omega) hy
  · refine ⟨?_, h.drop⟩
    rw [ixI_no (fun a y ha hy => by
      obtain ⟨x2, h2, rfl⟩ := map_at hy
      exact hno a x2 (by rw [List.length_map] at ha; omega) h2)]
theorem s151 {w0 w : World} {As : List Asr} {cap clock code : Int} {td tl : Sl} (h : SH w0 w As) :
    CallW Try.prog 151 #[cV cap clock td tl, .int .i64 code] w (fun v w' => v = .tuple #[cV cap clock td tl, .agg #[.int .i64 code, .slice none 0 0, .slice none 0 0]] ∧ SH w0 w' As) := by
  refine go151 (a0_0 := cap) (a0_1 := clock) (a0_2 := td) (a0_3 := tl) ?_
  unfold W151
  refine h.alloc (fun w1 h e1 n1 => ?_)
  refine h.alloc (fun w2 h e2 n2 => ?_)
  refine h.alloc (fun w3 h e3 n3 => ?_)
  refine ⟨_, h.cell 2 rfl rfl, _, h.cell 2 rfl rfl, td, h.cell 2 rfl rfl, tl, h.cell 2 rfl rfl, ?_⟩
  refine h.put 1 rfl rfl rfl (fun w8 h n8 => ?_)
  refine h.put 0 rfl rfl rfl (fun w9 h n9 => ?_)
  refine ⟨_, h.cell 1 rfl rfl, _, h.cell 1 rfl rfl, td, h.cell 1 rfl rfl, tl, h.cell 1 rfl rfl, _, h.cell 0 rfl rfl, N0, h.cell 0 rfl rfl, N0, h.cell 0 rfl rfl, ?_⟩
  exact ⟨rfl, h.drop.drop.drop⟩
theorem c172 {a n : Int} {w : World} : CallW Try.prog 172 #[.int .i64 a, .int .i64 n] w (fun v w' => v = .bool (decide (0 ≤ n ∧ n ≤ 128 ∧ 0 ≤ a ∧ a ≤ 128 - n)) ∧ w' = w) := by
  refine go172 ?_
  unfold W172
  refine JoinW.cut1 (fun (b : Bool) w' => b = decide (0 ≤ n ∧ n ≤ 128) ∧ w' = w) (BIf.dec (fun h => ⟨by rw [Bool.eq_iff_iff, decide_eq_true_iff, decide_eq_true_iff]; omega, rfl⟩) (fun h => ⟨(decide_eq_false (by omega)).symm, rfl⟩)) ?_
  rintro (b : Bool) w3 ⟨rfl, rfl⟩
  refine JoinW.cut1 (fun (b : Bool) w' => b = decide (0 ≤ n ∧ n ≤ 128 ∧ 0 ≤ a) ∧ w' = w3) (BIf.dec (fun h => ⟨by rw [Bool.eq_iff_iff, decide_eq_true_iff, decide_eq_true_iff]; omega, rfl⟩) (fun h => ⟨(decide_eq_false (by omega)).symm, rfl⟩)) ?_
  rintro (b : Bool) w6 ⟨rfl, rfl⟩
  refine JoinW.cut1 (fun (b : Bool) w' => b = decide (0 ≤ n ∧ n ≤ 128 ∧ 0 ≤ a ∧ a ≤ 128 - n) ∧ w' = w6) (BIf.dec (fun h => ⟨by rw [w64 (n := 128 - n) (by omega) (by omega), Bool.eq_iff_iff, decide_eq_true_iff, decide_eq_true_iff]; omega, rfl⟩) (fun h => ⟨(decide_eq_false (by omega)).symm, rfl⟩)) ?_
  rintro (b : Bool) w9 ⟨rfl, rfl⟩
  exact ⟨rfl, rfl⟩
theorem c107 {n : Int} {w : World} : CallW Try.prog 107 #[.int .i64 n] w (fun v w' => v = .bool (decide (0 ≤ n ∧ n ≤ 1099511627776)) ∧ w' = w) := by
  refine go107 ?_
  unfold W107
  refine JoinW.cut1 (fun (b : Bool) w' => b = decide (0 ≤ n ∧ n ≤ 1099511627776) ∧ w' = w) (BIf.dec (fun h => ⟨by rw [Bool.eq_iff_iff, decide_eq_true_iff, decide_eq_true_iff]; omega, rfl⟩) (fun h => ⟨(decide_eq_false (by omega)).symm, rfl⟩)) ?_
  rintro (b : Bool) w3 ⟨rfl, rfl⟩
  exact ⟨rfl, rfl⟩
theorem take_over {m d : List Int} {a j : Nat} {y : Int} (hj : d[j]? = some y) (hl : a + d.length ≤ m.length) : (over m a (d.take j)).set (a + j) y = over m a (d.take (j + 1)) := by
  have hjl := (List.getElem?_eq_some_iff.1 hj).1
  have e2 : (d.take j).length = j := by rw [List.length_take]; omega
  have e3 : (d.take (j + 1)).length = j + 1 := by rw [List.length_take]; omega
  apply List.ext_getElem?
  intro k
  have g2 := over_get (d := m) (x := d.take j) (k := a) (j := k) (by omega)
  have g3 := over_get (d := m) (x := d.take (j + 1)) (k := a) (j := k) (by omega)
  rw [e2] at g2
  rw [e3] at g3
  rw [g3]
  by_cases hk : a + j = k
  · subst hk
    rw [List.getElem?_set_self (by rw [over_len (by omega)]; omega), if_neg (by omega), if_pos (by omega), Nat.add_sub_cancel_left, List.getElem?_take_of_lt (by omega), hj]
  · rw [List.getElem?_set_ne hk, g2]
    by_cases h1 : k < a
    · rw [if_pos h1, if_pos h1]
    · rw [if_neg h1, if_neg h1]
      by_cases h2 : k < a + j
      · rw [if_pos h2, if_pos (by omega), List.getElem?_take_of_lt (by omega), List.getElem?_take_of_lt (by omega)]
      · rw [if_neg h2, if_neg (by omega)]
theorem over_nil (m : List Int) (a : Nat) : over m a [] = m := by unfold over; rw [List.append_nil, List.length_nil, Nat.add_zero, List.take_append_drop]
abbrev KC (td tl : Sl) (disk : List Int) (ls : List RLine) (F : List Asr) : List Asr := rD td disk :: rL tl ls :: bL ls :: F
end Go.Proofs.Ytenhcpjlkmbedaa

/- A cache in memory: the reference writes, cuts and fetches. Conditions: none. -/
set_option linter.unusedVariables false
set_option linter.unusedSimpArgs false
namespace Go.Proofs.Ytenhcpjlkmbedaa
open Go Go.Den Go.Cc
def PutS (w0 : World) (F : List Asr) (cap clock : Int) (td tl : Sl) (n : Nat) (r : Cache × List Wr) (v : Value) (w' : World) : Prop :=
  ∃ (t : Sl) (ws : List RWr) (disk' : List Int) (ls' : List RLine), v = .slice t.a t.len t.cap ∧ t.len ≤ 1 ∧ ws.map RWr.abs = r.2 ∧ aC_ cap clock disk' ls' = r.1 ∧ ls'.length = n ∧ SH w0 w' (rW t ws :: bW ws :: KC td tl disk' ls' F)
set_option maxRecDepth 8000 in
set_option maxHeartbeats 2000000 in
theorem s150 {w0 w : World} {F : List Asr} {i : Nat} {cap clock : Int} {td tl : Sl} {disk : List Int} {ls : List RLine} {x : RLine}
    (h : SH w0 w (KC td tl disk ls F)) (hx : ls[i]? = some x) (h0 : 0 ≤ x.Sector) (hn : (x.Sector + 1) * 128 ≤ disk.length) (hd : disk.length ≤ 131072) (hxl : x.Data.length = 128) (hls : ls.length ≤ 1000) :
    CallW Try.prog 150 #[cV cap clock td tl, .int .i64 (i : Int)] w (PutS w0 F cap clock td tl ls.length (wrL (aC_ cap clock disk ls) i x.abs)) := by
  refine go150 (a0_0 := cap) (a0_1 := clock) (a0_2 := td) (a0_3 := tl) ?_
  unfold W150
  have hi := (List.getElem?_eq_some_iff.1 hx).1
  have htl := h.len 1 rfl
  rw [recs_len] at htl
  have htd := h.len 0 rfl
  rw [nums_len] at htd
  refine h.alloc (fun w1 h e1 n1 => ?_)
  generalize w.heap.size = cb at *
  have h : SH w0 w1 (BK cb cap clock td tl :: KC td tl disk ls F) := h
  obtain ⟨q, hq⟩ := h.rowQ 2 rfl hx
  simp only [Int.toNat_natCast]
  refine ⟨tl, h.cell 0 rfl rfl, by omega, by omega, q, hq, _, h.rdR 2 rfl hq hx rfl, _, h.rdR 2 rfl hq hx rfl, _, h.rdR 2 rfl hq hx rfl, _, h.rdR 2 rfl hq hx rfl, x.D, h.rdR 2 rfl hq hx rfl, ?_⟩
  refine h.alloc (fun w9 h e9 n9 => ?_)
  refine h.put 0 rfl rfl rfl (fun w10 h n10 => ?_)
  generalize w1.heap.size = xb at *
  have h : SH w0 w10 (BLn xb x :: BK cb cap clock td tl :: KC td tl disk ls F) := h
  refine ⟨_, h.cell 0 rfl rfl, BIf.of (fun hd0 => ?_) (fun hd0 => ?_)⟩
  · have hdf : x.Dirty = false := by simpa using hd0
    have e : wrL (aC_ cap clock disk ls) i x.abs = (aC_ cap clock disk ls, []) := by
      unfold wrL
      rw [if_neg (show ¬ x.abs.Dirty = true by show ¬ x.Dirty = true; rw [hdf]; decide)]
    rw [e]
    refine h.alloc (fun w12 h e12 n12 => ?_)
    refine ⟨⟨some ⟨w10.heap.size, 0, none⟩, 0, 0⟩, [], disk, ls, rfl, by show 0 ≤ 1; decide, rfl, rfl, rfl, ?_⟩
    exact (SH.bagNil wrA h.drop.drop.drop).nil _ 2
  have hdt : x.Dirty = true := by simpa using hd0
  have e : wrL (aC_ cap clock disk ls) i x.abs = (aC_ cap clock (putSec disk x.Sector.toNat x.Data) (ls.set i x.clean), [⟨x.Sector, x.Data⟩]) := by
    unfold wrL aC_
    rw [if_pos (show x.abs.Dirty = true from hdt)]
    simp only [List.map_set]; rfl
  rw [e]
  refine LoopW.m1 (fun (k : Int) w' => ∃ j : Nat, k = j ∧ j ≤ 128 ∧ SH w0 w' (BLn xb x :: BK cb cap clock td tl :: KC td tl (over disk (128 * x.Sector.toNat) (x.Data.take j)) ls F)) (fun (k : Int) _ => (128 - k).toNat) ⟨0, rfl, by omega, by rw [List.take_zero, over_nil]; exact h⟩ ?_
  clear h
  rintro (k : Int) w15 ⟨j, rfl, hj, h⟩ J hJ
  have hol : (over disk (128 * x.Sector.toNat) (x.Data.take j)).length = disk.length := over_len (by rw [List.length_take]; omega)
  refine BIf.dec (fun hlt => ?_) (fun hge => ?_)
  · have h := h.drew
    obtain ⟨G, g⟩ := line_at h 4 rfl hx
    have hxD := g.len 0 rfl
    rw [nums_len, hxl] at hxD
    obtain ⟨y, hy⟩ : ∃ y, x.Data[j]? = some y := ⟨_, List.getElem?_eq_getElem (by omega)⟩
    obtain ⟨p, hp, hpc⟩ := g.elem0 0 rfl (nums_get hy) rfl
    refine ⟨td, h.cell 1 rfl rfl, _, h.cell 0 rfl rfl, x.D, h.cell 0 rfl rfl, by omega, by omega, p, hp, _, hpc, ?_⟩
    rw [w64 (n := x.Sector * 128) (by omega) (by omega), w64 (n := x.Sector * 128 + (j : Int)) (by omega) (by omega), show x.Sector * 128 + (j : Int) = ((128 * x.Sector.toNat + j : Nat) : Int) by omega, Int.toNat_natCast]
    obtain ⟨z, hz⟩ : ∃ z, (over disk (128 * x.Sector.toNat) (x.Data.take j))[128 * x.Sector.toNat + j]? = some z := ⟨_, List.getElem?_eq_getElem (by omega)⟩
    obtain ⟨r, hr, _⟩ := h.elem0 2 rfl (nums_get hz) rfl
    refine ⟨by omega, by omega, r, hr, h.setE0 2 rfl hr (nums_get hz) rfl (fun w22 h n22 => ?_)⟩
    rw [w64 (by omega) (by omega)]
    have h : SH w0 w22 (BLn xb x :: BK cb cap clock td tl :: aRow td 1 ((nums .u8 (over disk (128 * x.Sector.toNat) (x.Data.take j))).set (128 * x.Sector.toNat + j) ([Ce.v (.int .u8 z)].set 0 (.v (.int .u8 y)))) :: rL tl ls :: bL ls :: F) := h
    rw [nums_set hz, take_over hy (by omega)] at h
    exact hJ _ _ ⟨j + 1, by omega, by omega, h⟩ (by omega)
  · obtain rfl : j = 128 := by omega
    have h : SH w0 w15 (BLn xb x :: BK cb cap clock td tl :: rD td (putSec disk x.Sector.toNat x.Data) :: rL tl (ls.set i x) :: bL ls :: F) := by
      rw [set_id hx]; unfold putSec
      rw [List.take_of_length_le (by omega)] at h
      exact h
    refine ⟨tl, h.cell 1 rfl rfl, by omega, by omega, q, hq, h.setR 3 (k := i) (x := x) x.clean rfl hq hi (by show 2 < 5; decide) rfl (fun w25 h n25 => ?_)⟩
    have h := h.drew
    have h : SH w0 w25.drew (BLn xb x :: BK cb cap clock td tl :: rD td (putSec disk x.Sector.toNat x.Data) :: rL tl (ls.set i x.clean) :: bL ls :: F) := h
    refine ⟨_, h.cell 0 rfl rfl, x.D, h.cell 0 rfl rfl, ?_⟩
    refine h.alloc (fun w28 h e28 n28 => ?_)
    have h := h.drop
    refine ⟨⟨x.D, h.cell 0 rfl rfl, by first | rfl | trivial⟩, ⟨_, h.cell 0 rfl rfl, by first | rfl | trivial⟩, ?_⟩
    obtain ⟨G, g⟩ := line_at h 4 rfl hx
    refine SH.appendN (m := []) (h.nil _ 1) (g.rowN 0 rfl) rfl rfl (by decide) (by show (_ + _) * 1 ≤ _; rw [hxl]; decide) (fun l31 w32 h hl31 _ => ?_)
    refine ⟨⟨_, h.cell 1 rfl rfl, by first | rfl | trivial⟩, ?_⟩
    refine h.alloc (fun w34 h e34 n34 => ?_)
    have h : SH w0 w34 (aB w32.heap.size (((⟨x.Sector, l31, x.Data⟩ : RWr).cells).map Ce.v) :: rD l31 x.Data :: BLn xb x :: BK cb cap clock td tl :: rD td (putSec disk x.Sector.toNat x.Data) :: rL tl (ls.set i x.clean) :: bL ls :: F) := h
    have h := h.toRow (n := 1) (z := 2) (ys := [(⟨x.Sector, l31, x.Data⟩ : RWr).cells]) (by simp) rfl (fun u hu => by rw [List.mem_singleton.1 hu]; rfl)
    have h : SH w0 w34 (rW ⟨some ⟨w32.heap.size, 0, none⟩, 1, 1⟩ [⟨x.Sector, l31, x.Data⟩] :: wrA ⟨x.Sector, l31, x.Data⟩ :: BLn xb x :: BK cb cap clock td tl :: rD td (putSec disk x.Sector.toNat x.Data) :: rL tl (ls.set i x.clean) :: bL ls :: F) := h
    have h := SH.bagNil wrA h
    have h := SH.bagSnoc (f := wrA) (x := (⟨x.Sector, l31, x.Data⟩ : RWr)) (l := []) ((((h.dropAt 4).dropAt 3).front (n := 2) rfl))
    have h := SH.bagOut (((h.front (n := 1) rfl).front (n := 4) rfl)) hx
    have h := SH.bagIn (f := lineA) (x := x) (y := x.clean) hx h
    exact ⟨⟨some ⟨w32.heap.size, 0, none⟩, 1, 1⟩, [⟨x.Sector, l31, x.Data⟩], _, _, rfl, Nat.le_refl _, rfl, rfl, List.length_set, ((((h.front (n := 4) rfl).front (n := 4) rfl).front (n := 4) rfl).front (n := 4) rfl)⟩
/-- A line goes. -/
theorem s153 {w0 w : World} {F : List Asr} {i : Nat} {cap clock : Int} {td tl : Sl} {disk : List Int} {ls : List RLine}
    (h : SH w0 w (KC td tl disk ls F)) (hi : i < ls.length) (hls : ls.length ≤ 1000) :
    CallW Try.prog 153 #[cV cap clock td tl, .int .i64 (i : Int)] w (fun v w' => ∃ tl' : Sl, v = cV cap clock td tl' ∧ SH w0 w' (KC td tl' disk (ls.eraseIdx i) F)) := by
  refine go153 (a0_0 := cap) (a0_1 := clock) (a0_2 := td) (a0_3 := tl) ?_
  unfold W153
  have htl := h.len 1 rfl
  rw [recs_len] at htl
  have hcap := h.lenCap 1 rfl
  refine h.alloc (fun w1 h e1 n1 => ?_)
  refine h.alloc (fun w2 h e2 n2 => ?_)
  generalize w.heap.size = cb at *
  generalize w1.heap.size = ob at *
  have h : SH w0 w2 (BK ob 0 0 N0 N0 :: BK cb cap clock td tl :: KC td tl disk ls F) := h
  have h := h.drew
  simp only [Int.toNat_natCast]
  refine ⟨tl, h.cell 1 rfl rfl, by omega, by omega, tl, h.cell 1 rfl rfl, ?_⟩
  rw [w64 (n := (i : Int) + 1) (by omega) (by omega)]
  have hto : ((i : Int) + 1).toNat = i + 1 := by omega
  rw [hto]
  refine ⟨by omega, by omega, ?_⟩
  refine h.alloc (fun w5 h e5 n5 => ?_)
  have h := h.drop
  refine ⟨⟨tl, h.cell 1 rfl rfl, by first | rfl | trivial⟩, ⟨tl, h.cell 1 rfl rfl, by first | rfl | trivial⟩, ?_⟩
  refine SH.appendR (f := RLine.cells) (l := []) (us := ls.take i) (h.nil _ 5) (RowAt.pre (f := RLine.cells) (z := 5) (i := i) (fun _ => rfl) (h.rowR 3 rfl) (by omega)) (by rw [List.length_take]; show min i ls.length = i - 0; omega) (fun _ => rfl) rfl rfl (by decide) (by show (_ + _) * 56 ≤ _; simp; omega) plain_line (fun l8 w9 h hl8 _ => ?_)
  refine ⟨⟨tl, h.cell 2 rfl rfl, by first | rfl | trivial⟩, ?_⟩
  refine SH.appendR (f := RLine.cells) (us := ls.drop (i + 1)) h (RowAt.suf (f := RLine.cells) (z := 5) (i := i + 1) (fun _ => rfl) (h.rowR 4 rfl) htl hcap (by omega)) (by rw [List.length_drop]; show _ = tl.len - (i + 1); omega) (fun _ => rfl) rfl rfl (by decide) (by show (_ + _) * 56 ≤ _; simp; omega) plain_line (fun l11 w12 h hl11 _ => ?_)
  refine h.setV 2 rfl rfl (fun w13 h n13 => ?_)
  rw [List.nil_append, ← List.eraseIdx_eq_take_drop_succ] at h
  have h : SH w0 w13 (rL l11 (ls.eraseIdx i) :: BK ob 0 0 N0 N0 :: BK cb cap clock td l11 :: rD td disk :: rL tl ls :: bL ls :: F) := h
  refine ⟨_, h.cell 2 rfl rfl, _, h.cell 2 rfl rfl, td, h.cell 2 rfl rfl, l11, h.cell 2 rfl rfl, ?_⟩
  refine h.put 1 rfl rfl rfl (fun w18 h n18 => ?_)
  refine ⟨_, h.cell 1 rfl rfl, _, h.cell 1 rfl rfl, td, h.cell 1 rfl rfl, l11, h.cell 1 rfl rfl, ?_⟩
  have h := SH.bagErase (i := i) ((((((h.dropAt 4).dropAt 2).dropAt 1).front (n := 1) rfl).front (n := 2) rfl))
  exact ⟨l11, rfl, ((h.front (n := 2) rfl).front (n := 2) rfl)⟩
end Go.Proofs.Ytenhcpjlkmbedaa

/- A cache in memory: the reference fetches. Conditions: none. -/
set_option linter.unusedVariables false
set_option linter.unusedSimpArgs false
namespace Go.Proofs.Ytenhcpjlkmbedaa
open Go Go.Den Go.Cc
theorem set_mid {α : Type} {a b : List α} {x y : α} : (a ++ [x] ++ b).set a.length y = a ++ [y] ++ b := by
  rw [List.append_assoc, List.append_assoc, List.set_append_right _ _ (Nat.le_refl _), Nat.sub_self]; rfl
theorem fetch_hit {c : Cache} {s : Int} {i : Nat} {l : Line} (h : ixOf c.Lines s = some i) (hl : c.Lines[i]? = some l) : fetch c s = some (touch c i l, i, []) := by
  unfold fetch; rw [h]; simp only [hl]
theorem fetch_none {c : Cache} {s : Int} (h : ixOf c.Lines s = none) (hr : room c = none) : fetch c s = none := by
  unfold fetch; rw [h, hr]
theorem fetch_room {c c1 : Cache} {s : Int} {w : List Wr} (h : ixOf c.Lines s = none) (hr : room c = some (c1, w)) : fetch c s = some (insL c1 s, place c1.Lines s, w) := by
  unfold fetch; rw [h, hr]
theorem room_no {c : Cache} (hf : (c.Lines.length : Int) = c.Cap) (ho : oldest c.Lines 0 none = none) : room c = none := by
  unfold room; rw [if_pos hf, ho]
theorem room_at {c : Cache} {o : Nat} {u : Int} {l : Line} (hf : (c.Lines.length : Int) = c.Cap) (ho : oldest c.Lines 0 none = some (o, u)) (hl : c.Lines[o]? = some l) : room c = some (cutL (wrL c o l).1 o, (wrL c o l).2) := by
  unfold room; rw [if_pos hf, ho]; simp only [hl]
theorem room_free {c : Cache} (hf : (c.Lines.length : Int) ≠ c.Cap) : room c = some (c, []) := by unfold room; rw [if_neg hf]
def FetchS (w0 : World) (F : List Asr) (cap clock : Int) (td : Sl) (disk : List Int) (ls : List RLine) (s : Int) (v : Value) (w' : World) : Prop :=
  ∃ (clock' : Int) (disk' : List Int) (ls' : List RLine) (tl' t : Sl) (ws : List RWr) (iv : Int), v = .tuple #[cV cap clock' td tl', .int .i64 iv, .slice t.a t.len t.cap] ∧
    ((fetch (aC_ cap clock disk ls) s = none ∧ iv = -1 ∧ aC_ cap clock' disk' ls' = aC_ cap clock disk ls) ∨ ∃ (i : Nat) (x : RLine), iv = i ∧ ls'[i]? = some x ∧ fetch (aC_ cap clock disk ls) s = some (aC_ cap clock' disk' ls', i, ws.map RWr.abs)) ∧
    SH w0 w' (rW t ws :: bW ws :: KC td tl' disk' ls' F)
set_option maxRecDepth 4000 in
set_option maxHeartbeats 4000000 in
theorem s173 {w0 w : World} {F : List Asr} {n : Nat} {cap clock : Int} {td tl : Sl} {disk : List Int} {ls : List RLine} {s : Int}
    (h : SH w0 w (KC td tl disk ls F)) (hok : Cc.Safe n (aC_ cap clock disk ls)) (hcap : cap ≤ 64) (hn : n ≤ 1024) (hck : clock ≤ 1000000) (h0 : 0 ≤ s) (hs : s < n) :
    CallW Try.prog 173 #[cV cap clock td tl, .int .i64 s] w (FetchS w0 F cap clock td disk ls s) := by
  refine go173 (a0_0 := cap) (a0_1 := clock) (a0_2 := td) (a0_3 := tl) ?_
  unfold W173
  have hdl : disk.length = 128 * n := hok.disk
  have hfew : ((ls.map RLine.abs).length : Int) ≤ cap := hok.few
  rw [List.length_map] at hfew
  have hck0 : 0 ≤ clock := hok.clock
  have hcap1 : 1 ≤ cap := hok.cap
  refine h.alloc (fun w1 h e1 n1 => ?_)
  refine h.alloc (fun w2 h e2 n2 => ?_)
  refine h.alloc (fun w3 h e3 n3 => ?_)
  generalize w.heap.size = cb at *
  generalize w1.heap.size = ob at *
  generalize w2.heap.size = wb at *
  have h : SH w0 w3 (BK ob 0 0 N0 N0 :: BK cb cap clock td tl :: KC td tl disk ls F) := h.drop
  have h : SH w0 w3 (rW ⟨some ⟨wb, 0, none⟩, 0, 0⟩ [] :: bW [] :: BK ob 0 0 N0 N0 :: BK cb cap clock td tl :: KC td tl disk ls F) := (SH.bagNil wrA h).nil _ 2
  refine ⟨_, h.cell 3 rfl rfl, _, h.cell 3 rfl rfl, td, h.cell 3 rfl rfl, tl, h.cell 3 rfl rfl, (s152 h 5 rfl (by omega)).mono ?_⟩
  rintro _ w9 ⟨rfl, h⟩
  refine ⟨_, rfl, ?_⟩
  refine JoinW.cut2 (fun (l : Sl) (iv : Int) w' => ∃ (tl2 : Sl) (disk2 : List Int) (ls2 : List RLine) (ws : List RWr) (i : Nat) (x : RLine), iv = i ∧ ls2[i]? = some x ∧ (ls2.length : Int) ≤ cap ∧ fetch (aC_ cap clock disk ls) s = some (aC_ cap (clock + 1) disk2 (ls2.set i (x.used (clock + 1))), i, ws.map RWr.abs) ∧ SH w0 w' (rW l ws :: bW ws :: BK ob 0 0 N0 N0 :: BK cb cap clock td tl2 :: KC td tl2 disk2 ls2 F)) ?_ ?_
  · cases hix : ixOf (ls.map RLine.abs) s with
    | some i =>
      have hix2 : (ls.map RLine.abs).findIdx? (fun l => l.Sector == s) = some i := hix
      obtain ⟨hi, _, _⟩ := List.findIdx?_eq_some_iff_getElem.1 hix2
      rw [List.length_map] at hi
      have hx : ls[i]? = some ls[i] := List.getElem?_eq_getElem hi
      generalize ls[i] = x at hx
      have hixI : ixI (ls.map RLine.abs) s = i := by unfold ixI; rw [hix]
      rw [hixI]
      refine BIf.f (decide_eq_false (by omega)) ?_
      refine ⟨tl, disk, ls, [], i, x, rfl, hx, hfew, ?_, h⟩
      rw [fetch_hit (c := aC_ cap clock disk ls) hix (abs_at hx)]
      unfold aC_ touch
      simp only [List.map_set]; rfl
    | none =>
      have hixI : ixI (ls.map RLine.abs) s = -1 := by unfold ixI; rw [hix]
      rw [hixI]
      refine BIf.t (by decide) ?_
      refine JoinW.cut1 (fun (l : Sl) w' => ∃ (tl1 : Sl) (disk1 : List Int) (ls1 : List RLine) (ws : List RWr), room (aC_ cap clock disk ls) = some (aC_ cap clock disk1 ls1, ws.map RWr.abs) ∧ disk1.length = disk.length ∧ (ls1.length : Int) < cap ∧ SH w0 w' (rW l ws :: bW ws :: BK ob 0 0 N0 N0 :: BK cb cap clock td tl1 :: KC td tl1 disk1 ls1 F)) ?_ ?_
      · have htl := h.len 5 rfl
        rw [recs_len] at htl
        refine ⟨tl, h.cell 3 rfl rfl, _, h.cell 3 rfl rfl, ?_⟩
        refine BIf.eq (fun hfull => ?_) (fun hroom => ⟨tl, disk, ls, [], room_free (by unfold aC_; simp only [List.length_map]; omega), rfl, by omega, h⟩)
        refine LoopW.m2 (fun (o : Int) (i : Int) w' => ∃ (k : Nat) (best : Option (Nat × Int)), i = k ∧ k ≤ ls.length ∧ oldest ((ls.map RLine.abs).drop k) k best = oldest (ls.map RLine.abs) 0 none ∧ BstI ls o best ∧ SH w0 w' (rW ⟨some ⟨wb, 0, none⟩, 0, 0⟩ [] :: bW [] :: BK ob 0 0 N0 N0 :: BK cb cap clock td tl :: KC td tl disk ls F)) (fun _ (i : Int) _ => (ls.length - i).toNat) ⟨0, none, rfl, by omega, rfl, rfl, h⟩ ?_
        clear h
        rintro (o1 : Int) (i : Int) w63 ⟨k, best, rfl, hk, hold, hb, h⟩ J hJ
        refine ⟨tl, h.cell 3 rfl rfl, BIf.dec (fun hlt => ?_) (fun hge => ?_)⟩
        · have hx : ls[k]? = some ls[k] := List.getElem?_eq_getElem (by omega)
          generalize ls[k] = x at hx
          obtain ⟨q, hq⟩ := h.rowQ 5 rfl hx
          simp only [Int.toNat_natCast]
          have h := h.drew
          rw [w64 (n := (k : Int) + 1) (by omega) (by omega)]
          refine JoinW.cut1 (fun (c : Bool) w' => (if x.Pins = 0 then better k x.abs best else best) = (if c = true then some (k, x.Used) else best) ∧ w' = w63.drew) ?_ ?_
          · refine ⟨tl, h.cell 3 rfl rfl, by omega, by omega, q, hq, _, h.rdR 5 rfl hq hx rfl, BIf.eq (fun hp => BIf.dec (fun hneg => ⟨?_, rfl⟩) (fun hpos => ?_)) (fun hp => ⟨by rw [if_neg hp]; rfl, rfl⟩)⟩
            · rw [if_pos hp, if_pos rfl]
              cases best with
              | none => rfl
              | some p => obtain ⟨a, _⟩ := hb; omega
            · cases best with
              | none => have hb : o1 = -1 := hb; omega
              | some p =>
                obtain ⟨e1, y, hy, hyu⟩ := hb
                subst e1
                have hyl := (List.getElem?_eq_some_iff.1 hy).1
                simp only [Int.toNat_natCast]
                refine ⟨tl, h.cell 3 rfl rfl, by omega, by omega, q, hq, _, h.rdR 5 rfl hq hx rfl, tl, h.cell 3 rfl rfl, by omega, by omega, q, hq, _, h.rdR 5 rfl hq hy rfl, ?_, by trivial⟩
                rw [if_pos hp, hyu]
                unfold better
                by_cases hu : x.Used < p.2
                · rw [if_pos (decide_eq_true hu)]
                  exact if_pos hu
                · rw [if_neg (by simpa using hu)]
                  exact if_neg hu
          rintro (c : Bool) w79 ⟨hc, rfl⟩
          have hstep : oldest ((ls.map RLine.abs).drop (k + 1)) (k + 1) (if c = true then some (k, x.Used) else best) = oldest (ls.map RLine.abs) 0 none := by
            rw [← hold, List.drop_eq_getElem_cons (i := k) (by rw [List.length_map]; omega)]
            have hxk : (ls.map RLine.abs)[k]'(by rw [List.length_map]; omega) = x.abs := by
              have := abs_at hx
              rw [List.getElem?_eq_getElem (by rw [List.length_map]; omega)] at this
              simpa using this
            rw [hxk, ← hc]; rfl
          refine BIf.of (fun ht => ?_) (fun hf => ?_)
          · subst ht
            exact hJ _ _ _ ⟨k + 1, _, by omega, by omega, hstep, ⟨rfl, x, hx, rfl⟩, h⟩ (by omega)
          · subst hf
            exact hJ _ _ _ ⟨k + 1, _, by omega, by omega, hstep, hb, h⟩ (by omega)
        · obtain rfl : k = ls.length := by omega
          rw [List.drop_of_length_le (by rw [List.length_map]; omega)] at hold
          have hold : best = oldest (ls.map RLine.abs) 0 none := hold
          have hfl : (((aC_ cap clock disk ls).Lines).length : Int) = (aC_ cap clock disk ls).Cap := by unfold aC_; simp only [List.length_map]; omega
          cases best with
          | none =>
            have hb : o1 = -1 := hb
            subst hb
            have hro : room (aC_ cap clock disk ls) = none := room_no hfl hold.symm
            refine BIf.t (by decide) ?_
            refine ⟨_, h.cell 3 rfl rfl, _, h.cell 3 rfl rfl, td, h.cell 3 rfl rfl, tl, h.cell 3 rfl rfl, ?_⟩
            refine h.put 2 rfl rfl rfl (fun w81 h n81 => ?_)
            refine ⟨_, h.cell 2 rfl rfl, _, h.cell 2 rfl rfl, td, h.cell 2 rfl rfl, tl, h.cell 2 rfl rfl, ?_⟩
            have h : SH w0 w81 (rW ⟨some ⟨wb, 0, none⟩, 0, 0⟩ [] :: bW [] :: BK ob cap clock td tl :: BK cb cap clock td tl :: rD td disk :: rL tl ls :: bL ls :: F) := h
            exact ⟨clock, disk, ls, tl, ⟨some ⟨wb, 0, none⟩, 0, 0⟩, [], -1, rfl, .inl ⟨fetch_none hix hro, rfl, rfl⟩, ((h.dropAt 3).dropAt 2)⟩
          | some p =>
            obtain ⟨rfl, x, hx, hxu⟩ := hb
            have hol := (List.getElem?_eq_some_iff.1 hx).1
            have hxo := hok.ls _ (List.mem_of_getElem? (abs_at hx))
            have x0 : 0 ≤ x.Sector := hxo.s0
            have xn : x.Sector < n := hxo.sn
            have xl : x.Data.length = 128 := hxo.len
            refine BIf.f (decide_eq_false (by omega)) ?_
            refine ⟨_, h.cell 3 rfl rfl, _, h.cell 3 rfl rfl, td, h.cell 3 rfl rfl, tl, h.cell 3 rfl rfl, ?_⟩
            have h : SH w0 w63 (rD td disk :: rL tl ls :: bL ls :: rW ⟨some ⟨wb, 0, none⟩, 0, 0⟩ [] :: bW [] :: BK ob 0 0 N0 N0 :: BK cb cap clock td tl :: F) := (((h.front (n := 6) rfl).front (n := 6) rfl).front (n := 6) rfl)
            have hro := room_at hfl hold.symm (abs_at hx)
            have hsw := (safe_wr hok (abs_at hx)).1.disk
            refine (s150 h hx x0 (by omega) (by omega) xl (by omega)).mono ?_
            generalize wrL (aC_ cap clock disk ls) p.1 x.abs = r at *
            rintro _ w91 ⟨t, ws, disk2, ls2, rfl, _, ew, ec, hl2, h⟩
            refine ⟨t, rfl, ?_⟩
            have h : SH w0 w91 (rD td disk2 :: rL tl ls2 :: bL ls2 :: rW t ws :: bW ws :: BK ob 0 0 N0 N0 :: BK cb cap clock td tl :: F) := (((((h.dropAt 6).dropAt 5).front (n := 4) rfl).front (n := 4) rfl).front (n := 4) rfl)
            refine ⟨_, h.cell 6 rfl rfl, _, h.cell 6 rfl rfl, td, h.cell 6 rfl rfl, tl, h.cell 6 rfl rfl, ?_⟩
            refine (s153 h (i := p.1) (by omega) (by omega)).mono ?_
            rintro _ w98 ⟨tl2, rfl, h⟩
            refine ⟨_, _, td, tl2, rfl, ?_⟩
            refine h.put 6 rfl rfl rfl (fun w103 h n103 => ?_)
            have h : SH w0 w103 (rD td disk2 :: rL tl2 (ls2.eraseIdx p.1) :: bL (ls2.eraseIdx p.1) :: rW t ws :: bW ws :: BK ob 0 0 N0 N0 :: BK cb cap clock td tl2 :: F) := h
            refine ⟨tl2, disk2, ls2.eraseIdx p.1, ws, ?_, ?_, ?_, ((((h.front (n := 6) rfl).front (n := 6) rfl).front (n := 6) rfl).front (n := 6) rfl)⟩
            · rw [hro, ← ec, ew]
              unfold aC_ cutL
              simp only [map_erase]
            · rw [← ec] at hsw
              have hsw : disk2.length = 128 * n := hsw
              omega
            · rw [List.length_eraseIdx_of_lt (by omega)]; omega
      clear h
      rintro (l30 : Sl) w32 ⟨tl, disk1, ls1, ws, hroom, hd1, hl1, h⟩
      have htl := h.len 5 rfl
      rw [recs_len] at htl
      have htc := h.lenCap 5 rfl
      refine LoopW.m1 (fun (i : Int) w' => ∃ k : Nat, i = k ∧ k ≤ ls1.length ∧ (∀ (j : Nat) (y : Line), j < k → (ls1.map RLine.abs)[j]? = some y → y.Sector < s) ∧ w' = w32) (fun (i : Int) _ => (ls1.length - i).toNat) ⟨0, rfl, by omega, fun j y hj => by omega, rfl⟩ ?_
      rintro (i : Int) w35 ⟨k, rfl, hk, hlt, rfl⟩ J hJ
      refine ⟨tl, h.cell 3 rfl rfl, ?_⟩
      refine JoinW.cut1 (fun (c : Bool) w' => (c = true ↔ ∃ y, ls1[k]? = some y ∧ y.Sector < s) ∧ w' = w35) ?_ ?_
      · refine BIf.dec (fun h1 => ?_) (fun h1 => ⟨⟨(fun e => by cases e), (fun ⟨y, hy, _⟩ => by have := (List.getElem?_eq_some_iff.1 hy).1; omega)⟩, rfl⟩)
        have hx : ls1[k]? = some ls1[k] := List.getElem?_eq_getElem (by omega)
        generalize ls1[k] = x at hx
        obtain ⟨q, hq⟩ := h.rowQ 5 rfl hx
        simp only [Int.toNat_natCast]
        refine ⟨tl, h.cell 3 rfl rfl, by omega, by omega, q, hq, _, h.rdR 5 rfl hq hx rfl, ?_, by trivial⟩
        rw [decide_eq_true_iff]
        exact ⟨fun e => ⟨x, hx, e⟩, fun ⟨y, hy, e⟩ => by rw [hx] at hy; cases hy; exact e⟩
      rintro (c : Bool) w39 ⟨hc, rfl⟩
      refine BIf.of (fun ht => ?_) (fun hf => ?_)
      · obtain ⟨y, hy, hys⟩ := hc.1 ht
        have hyl := (List.getElem?_eq_some_iff.1 hy).1
        rw [w64 (n := (k : Int) + 1) (by omega) (by omega)]
        refine hJ _ _ ⟨k + 1, by omega, by omega, fun j z hj hz => ?_, rfl⟩ (by omega)
        by_cases hjk : j = k
        · subst hjk
          obtain ⟨x2, h2, rfl⟩ := map_at hz
          rw [hy] at h2; cases h2; exact hys
        · exact hlt j z (by omega) hz
      have hpl : place (ls1.map RLine.abs) s = k := place_is hlt (fun y hy hys => by
        obtain ⟨x2, h2, rfl⟩ := map_at hy
        have := hc.2 ⟨x2, h2, hys⟩
        rw [hf] at this; cases this) (by rw [List.length_map]; exact hk)
      obtain ⟨sn, rfl⟩ := Int.eq_ofNat_of_zero_le h0
      simp only [Int.toNat_natCast]
      refine h.alloc (fun w40 h e40 n40 => ?_)
      have h := h.drop
      refine ⟨tl, h.cell 3 rfl rfl, by omega, by omega, ?_⟩
      refine SH.appendR (f := RLine.cells) (l := []) (us := ls1.take k) (h.nil _ 5) (RowAt.pre (f := RLine.cells) (z := 5) (i := k) (fun _ => rfl) (h.rowR 5 rfl) (by omega)) (by rw [List.length_take]; show min k ls1.length = k - 0; omega) (fun _ => rfl) rfl rfl (by decide) (by show (_ + _) * 56 ≤ _; simp; omega) plain_line (fun l33 w34 h hl33 _ => ?_)
      refine ⟨td, h.cell 4 rfl rfl, ?_⟩
      refine (s143 (n := 5) h rfl (by omega) (by omega)).mono ?_
      rintro _ w46 ⟨t, rfl, h⟩
      refine ⟨t, rfl, ?_⟩
      have h : SH w0 w46 (rL l33 (ls1.take k) :: rD t (secOf disk1 sn) :: rW l30 ws :: bW ws :: BK ob 0 0 N0 N0 :: BK cb cap clock td tl :: KC td tl disk1 ls1 F) := h.p1
      refine LetW_iff.2 (SH.appendR1 (f := RLine.cells) (x := ⟨(sn : Int), 0, false, 0, t, secOf disk1 sn⟩) h rfl rfl rfl (by decide) (by show (_ + _) * 56 ≤ _; rw [List.length_take]; omega) (plain_line _) (fun l44 w45 h hl44 _ => ?_))
      refine ⟨tl, h.cell 5 rfl rfl, by omega, by omega, ?_⟩
      refine SH.appendR (f := RLine.cells) (us := ls1.drop k) h (RowAt.suf (f := RLine.cells) (z := 5) (i := k) (fun _ => rfl) (h.rowR 7 rfl) htl htc (by omega)) (by rw [List.length_drop]; show _ = tl.len - k; omega) (fun _ => rfl) rfl rfl (by decide) (by show (_ + _) * 56 ≤ _; simp; omega) plain_line (fun l48 w49 h hl48 _ => ?_)
      refine h.setV 5 rfl rfl (fun w51 h n51 => ?_)
      generalize hx0 : (⟨(sn : Int), 0, false, 0, t, secOf disk1 sn⟩ : RLine) = x0 at *
      have h : SH w0 w51 (rL l48 (ls1.take k ++ [x0] ++ ls1.drop k) :: rD t (secOf disk1 sn) :: rW l30 ws :: bW ws :: BK ob 0 0 N0 N0 :: BK cb cap clock td l48 :: rD td disk1 :: rL tl ls1 :: bL ls1 :: F) := h
      have hget : (ls1.take k ++ [x0] ++ ls1.drop k)[k]? = some x0 := by
        rw [List.append_assoc, List.getElem?_append_right (by rw [List.length_take]; omega), List.length_take, Nat.min_eq_left hk, Nat.sub_self]; rfl
      have hset : ∀ y, (ls1.take k ++ [x0] ++ ls1.drop k).set k y = ls1.take k ++ [y] ++ ls1.drop k := fun y => by
        have e : k = (ls1.take k).length := by rw [List.length_take]; omega
        have := set_mid (a := ls1.take k) (b := ls1.drop k) (x := x0) (y := y)
        rwa [← e] at this
      refine ⟨l48, disk1, ls1.take k ++ [x0] ++ ls1.drop k, ws, k, x0, rfl, hget, ?_, ?_, ?_⟩
      · rw [List.length_append, List.length_append, List.length_take, List.length_drop, List.length_singleton]; omega
      · rw [fetch_room (c := aC_ cap clock disk ls) hix hroom, hset]
        subst hx0
        unfold aC_ insL
        simp only [hpl, Int.toNat_natCast, List.map_append, List.map_take, List.map_drop]
        rfl
      · have h : SH w0 w51 (lineA x0 :: bL ls1 :: rW l30 ws :: bW ws :: BK ob 0 0 N0 N0 :: BK cb cap clock td l48 :: rD td disk1 :: rL l48 (ls1.take k ++ [x0] ++ ls1.drop k) :: F) := by
          subst hx0
          exact ((((((((h.dropAt 7).front (n := 6) rfl).front (n := 6) rfl).front (n := 6) rfl).front (n := 6) rfl).front (n := 6) rfl).front (n := 7) rfl).front (n := 7) rfl)
        have h := SH.bagCons h
        have h : SH w0 w51 (bL (ls1.take k ++ [x0] ++ ls1.drop k) :: rW l30 ws :: bW ws :: BK ob 0 0 N0 N0 :: BK cb cap clock td l48 :: rD td disk1 :: rL l48 (ls1.take k ++ [x0] ++ ls1.drop k) :: F) := by
          refine h.bagPerm ?_
          rw [List.append_assoc]
          have := (List.perm_middle (a := x0) (l₁ := ls1.take k) (l₂ := ls1.drop k)).symm
          rwa [List.take_append_drop] at this
        exact ((((((h.front (n := 6) rfl).front (n := 6) rfl).front (n := 6) rfl).front (n := 6) rfl).front (n := 6) rfl).front (n := 6) rfl)
  clear h
  rintro (l11 : Sl) (iv : Int) w14 ⟨tl, disk2, ls2, ws, i, x, rfl, hx, hl2, hf, h⟩
  have hi := (List.getElem?_eq_some_iff.1 hx).1
  have htl := h.len 5 rfl
  rw [recs_len] at htl
  obtain ⟨q, hq⟩ := h.rowQ 5 rfl hx
  simp only [Int.toNat_natCast]
  refine ⟨_, h.cell 3 rfl rfl, ?_⟩
  rw [w64 (n := clock + 1) (by omega) (by omega)]
  refine h.setV 3 rfl rfl (fun w16 h n16 => ?_)
  have h : SH w0 w16 (rW l11 ws :: bW ws :: BK ob 0 0 N0 N0 :: BK cb cap (clock + 1) td tl :: rD td disk2 :: rL tl (ls2.set i x) :: bL ls2 :: F) := by rw [set_id hx]; exact h
  refine ⟨tl, h.cell 3 rfl rfl, _, h.cell 3 rfl rfl, by omega, by omega, q, hq, h.setR 5 (k := i) (x := x) (x.used (clock + 1)) rfl hq hi (by show 1 < 5; decide) rfl (fun w20 h n20 => ?_)⟩
  refine ⟨_, h.cell 3 rfl rfl, _, h.cell 3 rfl rfl, td, h.cell 3 rfl rfl, tl, h.cell 3 rfl rfl, ?_⟩
  refine h.put 2 rfl rfl rfl (fun w25 h n25 => ?_)
  refine ⟨_, h.cell 2 rfl rfl, _, h.cell 2 rfl rfl, td, h.cell 2 rfl rfl, tl, h.cell 2 rfl rfl, ?_⟩
  have h : SH w0 w25 (rW l11 ws :: bW ws :: BK ob cap (clock + 1) td tl :: BK cb cap (clock + 1) td tl :: rD td disk2 :: rL tl (ls2.set i (x.used (clock + 1))) :: bL ls2 :: F) := h
  have h := SH.bagOut ((((h.dropAt 3).dropAt 2).front (n := 4) rfl)) hx
  have h := SH.bagIn (f := lineA) (x := x) (y := x.used (clock + 1)) hx h
  exact ⟨clock + 1, disk2, ls2.set i (x.used (clock + 1)), tl, l11, ws, i, rfl, .inr ⟨i, x.used (clock + 1), rfl, List.getElem?_set_self hi, hf⟩, ((((h.front (n := 4) rfl).front (n := 4) rfl).front (n := 4) rfl).front (n := 4) rfl)⟩
end Go.Proofs.Ytenhcpjlkmbedaa

/- A cache in memory: the reference's step of the kinds that fetch. Conditions: none. -/
set_option linter.unusedVariables false
set_option linter.unusedSimpArgs false
namespace Go.Proofs.Ytenhcpjlkmbedaa
open Go Go.Den Go.Cc
/-- Bytes that are lent: they lie in a part of the frame, or they are the caller's. -/
structure LentB (w0 : World) (F : List Asr) (t : Sl) (l : List Int) : Prop where
  len : t.len = l.length
  cap : t.len ≤ t.cap
  row : ∀ {w : World} {As : List Asr}, SH w0 w As → (∃ P, As = P ++ F) → RowAt w t.a t.len (l.map (Value.int .u8))
theorem LentB.of {w0 : World} {F : List Asr} {t : Sl} {l : List Int} (h : ByAt w0 t l) : LentB w0 F t l := ⟨h.len, h.cap, fun g _ => (h.ext g.ext).row⟩
theorem LentB.up {w0 : World} {F : List Asr} {t : Sl} {l : List Int} (h : LentB w0 F t l) (X : List Asr) : LentB w0 (X ++ F) t l := ⟨h.len, h.cap, fun g ⟨P, hP⟩ => h.row g ⟨P ++ X, by rw [hP, List.append_assoc]⟩⟩
theorem LentB.own {w0 : World} {F : List Asr} {t : Sl} {l : List Int} (i : Nat) (hF : F[i]? = some (rD t l)) {w : World} {As : List Asr} (g : SH w0 w As) (hA : ∃ P, As = P ++ F) : LentB w0 F t l := by
  have at_ : ∀ {As : List Asr}, (∃ P, As = P ++ F) → ∃ n, As[n]? = some (rD t l) := fun ⟨P, hP⟩ => ⟨P.length + i, by rw [hP, List.getElem?_append_right (by omega), Nat.add_sub_cancel_left]; exact hF⟩
  obtain ⟨n, hn⟩ := at_ hA
  exact ⟨by rw [g.len n hn, nums_len], g.lenCap n hn, fun g2 h2 => by obtain ⟨m, hm⟩ := at_ h2; exact g2.rowN m hm⟩
theorem row_get {w : World} {t : Sl} {l : List Int} {i : Nat} {x : Int} (hr : RowAt w t.a t.len (l.map (Value.int .u8))) (hx : l[i]? = some x) : ∃ p, t.a = some p ∧ w.cell? (p.add (i * 1)) = some (.int .u8 x) := by
  obtain ⟨p, hp, hc⟩ := hr.cell (i := i) (v := .int .u8 x) (by simp [hx])
  exact ⟨p, hp, by rw [Nat.mul_one]; exact hc⟩
theorem fetch_safe {n : Nat} {c c1 : Cache} {s : Int} {i : Nat} {w : List Wr} (h : Cc.Safe n c) (h0 : 0 ≤ s) (hn : s < n) (hf : fetch c s = some (c1, i, w)) : Cc.Safe n c1 ∧ c1.Cap = c.Cap ∧ c1.Clock = c.Clock + 1 ∧ ∃ l, c1.Lines[i]? = some l ∧ l.Pins ≤ c.Clock := by
  rcases safe_fetch h h0 hn with e | ⟨c2, i2, w2, l, e, f1, f2, f3, f4, f5⟩
  · rw [e] at hf; cases hf
  · rw [e] at hf
    simp only [Option.some.injEq, Prod.mk.injEq] at hf
    obtain ⟨rfl, rfl, rfl⟩ := hf
    exact ⟨f1, f2, f3, l, f4, f5⟩
def badF (o : COp) : Prop := o.Kind ≠ 3 ∧ (opLen o < 0 ∨ 128 < opLen o ∨ o.At < 0 ∨ 128 - opLen o < o.At)
theorem fe_bad {c : Cache} {o : COp} (h : badF o) : fetchedS c o = (c, ⟨1, [], []⟩) := by unfold fetchedS; exact if_pos h
theorem fe_full {c : Cache} {o : COp} (h : ¬ badF o) (h2 : o.Kind = 3 ∧ full8 c o.Sector = true) : fetchedS c o = (c, ⟨18, [], []⟩) := by unfold fetchedS; exact (if_neg h).trans (if_pos h2)
theorem fe_none {c : Cache} {o : COp} (h : ¬ badF o) (h2 : ¬ (o.Kind = 3 ∧ full8 c o.Sector = true)) (hf : fetch c o.Sector = none) : fetchedS c o = (c, ⟨21, [], []⟩) := by
  unfold fetchedS; rw [if_neg (show ¬ (o.Kind ≠ 3 ∧ (opLen o < 0 ∨ 128 < opLen o ∨ o.At < 0 ∨ 128 - opLen o < o.At)) from h), if_neg h2, hf]
theorem fe_some {c c1 : Cache} {o : COp} {i : Nat} {w : List Wr} {l : Line} (h : ¬ badF o) (h2 : ¬ (o.Kind = 3 ∧ full8 c o.Sector = true)) (hf : fetch c o.Sector = some (c1, i, w)) (hl : c1.Lines[i]? = some l) : fetchedS c o = if o.Kind = 1 then (c1, ⟨0, (l.Data.drop o.At.toNat).take o.N.toNat, w⟩)
        else if o.Kind = 3 then (pinL c1 i l (l.Pins + 1), ⟨0, [], w⟩)
        else (setData c1 i l (over l.Data o.At.toNat o.Data), ⟨0, [], w⟩) := by
  unfold fetchedS; rw [if_neg (show ¬ (o.Kind ≠ 3 ∧ (opLen o < 0 ∨ 128 < opLen o ∨ o.At < 0 ∨ 128 - opLen o < o.At)) from h), if_neg h2, hf]
  simp only [hl]
def RLine.pinned (x : RLine) (k : Int) : RLine := ⟨x.Sector, x.Used, x.Dirty, k, x.D, x.Data⟩
def StepQ (w0 : World) (F : List Asr) (cap : Int) (td : Sl) (r : Cache × Res) (v : Value) (w' : World) : Prop :=
  ∃ (clock : Int) (disk : List Int) (ls : List RLine) (ws : List RWr) (tl tt tw : Sl), v = .tuple #[cV cap clock td tl, .agg #[.int .i64 r.2.Code, .slice tt.a tt.len tt.cap, .slice tw.a tw.len tw.cap]] ∧ aC_ cap clock disk ls = r.1 ∧ ws.map RWr.abs = r.2.Writes ∧
    SH w0 w' (rD tt r.2.Data :: rW tw ws :: bW ws :: KC td tl disk ls F)
theorem stq {w0 w' : World} {F : List Asr} {cap : Int} {td : Sl} {r : Cache × Res} {clock : Int} {disk : List Int} {ls : List RLine} {ws : List RWr} {tl tt tw : Sl} (e1 : aC_ cap clock disk ls = r.1) (e2 : ws.map RWr.abs = r.2.Writes) (h : SH w0 w' (rD tt r.2.Data :: rW tw ws :: bW ws :: KC td tl disk ls F)) :
    StepQ w0 F cap td r (.tuple #[cV cap clock td tl, .agg #[.int .i64 r.2.Code, .slice tt.a tt.len tt.cap, .slice tw.a tw.len tw.cap]]) w' := ⟨clock, disk, ls, ws, tl, tt, tw, rfl, e1, e2, h⟩
/-- No data, no writes. -/
theorem stq0 {w0 w' : World} {F : List Asr} {cap : Int} {td : Sl} {r : Cache × Res} {code clock : Int} {disk : List Int} {ls : List RLine} {tl : Sl} (e : r = (aC_ cap clock disk ls, ⟨code, [], []⟩)) (h : SH w0 w' (KC td tl disk ls F)) :
    StepQ w0 F cap td r (.tuple #[cV cap clock td tl, .agg #[.int .i64 code, .slice none 0 0, .slice none 0 0]]) w' := by
  subst e
  exact stq (ws := []) (tt := N0) (tw := N0) rfl rfl (((SH.bagNil wrA h).nil none 2).nil none 1)
set_option maxRecDepth 8000 in
set_option maxHeartbeats 8000000 in
theorem s154 {w0 w : World} {F : List Asr} {n : Nat} {cap clock : Int} {td tl to : Sl} {disk : List Int} {ls : List RLine} {o : COp}
    (h : SH w0 w (KC td tl disk ls F)) (hok : Cc.Safe n (aC_ cap clock disk ls)) (hcap : cap ≤ 64) (hn : n ≤ 1024) (hck : clock ≤ 1000000) (h0 : 0 ≤ o.Sector) (hs : o.Sector < n) (hk : 1 ≤ o.Kind ∧ o.Kind ≤ 3) (hb : LentB w0 F to o.Data) :
    CallW Try.prog 154 #[cV cap clock td tl, .agg ⟨opV o to⟩] w (StepQ w0 F cap td (fetchedS (aC_ cap clock disk ls) o)) := by
  refine go154 (a0_0 := cap) (a0_1 := clock) (a0_2 := td) (a0_3 := tl) (a1_0 := o.Kind) (a1_1 := o.Sector) (a1_2 := o.At) (a1_3 := o.N) (a1_4 := to) ?_
  unfold W154
  have hdl : disk.length = 128 * n := hok.disk
  have hfew : ((ls.map RLine.abs).length : Int) ≤ cap := hok.few
  rw [List.length_map] at hfew
  have hck0 : 0 ≤ clock := hok.clock
  have hol := hb.len
  refine h.alloc (fun w1 h e1 n1 => ?_)
  refine h.alloc (fun w2 h e2 n2 => ?_)
  refine h.alloc (fun w3 h e3 n3 => ?_)
  refine h.alloc (fun w4 h e4 n4 => ?_)
  generalize w.heap.size = cb at *
  generalize w1.heap.size = pb at *
  generalize w2.heap.size = ob at *
  generalize w3.heap.size = rb at *
  have h : SH w0 w4 (BR rb 0 N0 N0 :: BK ob 0 0 N0 N0 :: BO pb o to :: BK cb cap clock td tl :: rD td disk :: rL tl ls :: bL ls :: F) := h
  have h : SH w0 w4 (KC td tl disk ls (BR rb 0 N0 N0 :: BK ob 0 0 N0 N0 :: BO pb o to :: BK cb cap clock td tl :: F)) := (((h.front (n := 6) rfl).front (n := 6) rfl).front (n := 6) rfl)
  refine ⟨_, h.cell 5 rfl rfl, ?_⟩
  refine JoinW.cut1 (fun (x : Int) w' => x = opLen o ∧ w' = w4) ?_ ?_
  · refine ⟨_, h.cell 5 rfl rfl, BIf.eq (fun h1 => ⟨to, h.cell 5 rfl rfl, by unfold opLen; rw [if_pos h1, hol], rfl⟩) (fun h1 => ⟨by unfold opLen; rw [if_neg h1], rfl⟩)⟩
  rintro (x : Int) w8 ⟨rfl, rfl⟩
  refine ⟨_, h.cell 5 rfl rfl, ?_⟩
  refine JoinW.cut1 (fun (x : Bool) w' => (x = true ↔ badF o) ∧ w' = w8) ?_ ?_
  · refine BIf.ne (fun h1 => ⟨_, h.cell 5 rfl rfl, c172.mono ?_⟩) (fun h1 => ⟨⟨(fun e => by cases e), (fun ⟨e, _⟩ => absurd h1 e)⟩, rfl⟩)
    rintro _ w9 ⟨rfl, rfl⟩
    refine ⟨_, rfl, ?_, by trivial⟩
    unfold badF
    rw [Bool.not_eq_true', decide_eq_false_iff_not]
    constructor
    · intro h2; refine ⟨h1, ?_⟩; omega
    · rintro ⟨_, h2⟩; omega
  rintro (x : Bool) w12 ⟨hx, rfl⟩
  refine BIf.of (fun ht => ?_) (fun hf => ?_)
  · have hbad := hx.1 ht
    refine ⟨_, h.cell 6 rfl rfl, _, h.cell 6 rfl rfl, td, h.cell 6 rfl rfl, tl, h.cell 6 rfl rfl, (s151 h).mono ?_⟩
    rintro _ w18 ⟨rfl, h⟩
    refine ⟨_, _, td, tl, _, N0, N0, rfl, ?_⟩
    refine h.put 4 rfl rfl rfl (fun wp1 h np1 => ?_)
    refine h.put 3 rfl rfl rfl (fun wp2 h np2 => ?_)
    refine ⟨_, h.cell 4 rfl rfl, _, h.cell 4 rfl rfl, td, h.cell 4 rfl rfl, tl, h.cell 4 rfl rfl, _, h.cell 3 rfl rfl, N0, h.cell 3 rfl rfl, N0, h.cell 3 rfl rfl, ?_⟩
    exact stq0 (fe_bad hbad) (((((h.dropAt 6).dropAt 5).dropAt 4).dropAt 3))
  have hnb : ¬ badF o := fun e => by rw [hx.2 e] at hf; cases hf
  refine ⟨_, h.cell 6 rfl rfl, _, h.cell 6 rfl rfl, td, h.cell 6 rfl rfl, tl, h.cell 6 rfl rfl, _, h.cell 5 rfl rfl, (s152 h 1 rfl (by omega)).mono ?_⟩
  rintro _ w41 ⟨rfl, h⟩
  refine ⟨_, rfl, _, h.cell 5 rfl rfl, ?_⟩
  have htl := h.len 1 rfl
  rw [recs_len] at htl
  refine JoinW.cut1 (fun (x : Bool) w' => x = (decide (o.Kind = 3) && decide (ixI (ls.map RLine.abs) o.Sector ≥ 0)) ∧ w' = w41) (BIf.eq (fun h1 => ⟨by rw [decide_eq_true h1, Bool.true_and], rfl⟩) (fun h1 => ⟨by rw [decide_eq_false h1, Bool.false_and], rfl⟩)) ?_
  rintro (x : Bool) w46 ⟨rfl, rfl⟩
  refine JoinW.cut1 (fun (x : Bool) w' => (x = true ↔ (o.Kind = 3 ∧ full8 (aC_ cap clock disk ls) o.Sector = true)) ∧ w' = w46) ?_ ?_
  · unfold full8 lineOf
    show BIf (decide (o.Kind = 3) && decide (ixI (ls.map RLine.abs) o.Sector ≥ 0)) _ _
    have hL : (aC_ cap clock disk ls).Lines = ls.map RLine.abs := rfl
    rw [hL]
    cases hix : ixOf (ls.map RLine.abs) o.Sector with
    | none =>
      have hixI : ixI (ls.map RLine.abs) o.Sector = -1 := by unfold ixI; rw [hix]
      rw [hixI]
      refine BIf.f (by rw [show decide ((-1 : Int) ≥ 0) = false from rfl, Bool.and_false]) ⟨⟨(fun e => by cases e), (fun ⟨_, e⟩ => by cases e)⟩, rfl⟩
    | some i =>
      have hix2 : (ls.map RLine.abs).findIdx? (fun l => l.Sector == o.Sector) = some i := hix
      obtain ⟨hi, _, _⟩ := List.findIdx?_eq_some_iff_getElem.1 hix2
      rw [List.length_map] at hi
      have hx : ls[i]? = some ls[i] := List.getElem?_eq_getElem hi
      generalize ls[i] = x at hx
      have hixI : ixI (ls.map RLine.abs) o.Sector = i := by unfold ixI; rw [hix]
      rw [hixI, decide_eq_true (show (i : Int) ≥ 0 by omega), Bool.and_true]
      simp only [abs_at hx]
      obtain ⟨q, hq⟩ := h.rowQ 1 rfl hx
      simp only [Int.toNat_natCast]
      refine BIf.dec (fun h1 => ⟨tl, h.cell 6 rfl rfl, by omega, by omega, q, hq, _, h.rdR 1 rfl hq hx rfl, ?_, by trivial⟩) (fun h1 => ⟨⟨(fun e => by cases e), (fun ⟨e, _⟩ => absurd e h1)⟩, by trivial⟩)
      rw [beq_iff_eq, decide_eq_true_iff]
      exact ⟨fun e => ⟨h1, e⟩, fun e => e.2⟩
  rintro (x : Bool) w49 ⟨hx8, rfl⟩
  refine BIf.of (fun ht => ?_) (fun hf8 => ?_)
  · have hfull := hx8.1 ht
    refine ⟨_, h.cell 6 rfl rfl, _, h.cell 6 rfl rfl, td, h.cell 6 rfl rfl, tl, h.cell 6 rfl rfl, (s151 h).mono ?_⟩
    rintro _ w18 ⟨rfl, h⟩
    refine ⟨_, _, td, tl, _, N0, N0, rfl, ?_⟩
    refine h.put 4 rfl rfl rfl (fun wp1 h np1 => ?_)
    refine h.put 3 rfl rfl rfl (fun wp2 h np2 => ?_)
    refine ⟨_, h.cell 4 rfl rfl, _, h.cell 4 rfl rfl, td, h.cell 4 rfl rfl, tl, h.cell 4 rfl rfl, _, h.cell 3 rfl rfl, N0, h.cell 3 rfl rfl, N0, h.cell 3 rfl rfl, ?_⟩
    exact stq0 (fe_full hnb hfull) (((((h.dropAt 6).dropAt 5).dropAt 4).dropAt 3))
  have hnf : ¬ (o.Kind = 3 ∧ full8 (aC_ cap clock disk ls) o.Sector = true) := fun e => by rw [hx8.2 e] at hf8; cases hf8
  refine ⟨_, h.cell 6 rfl rfl, _, h.cell 6 rfl rfl, td, h.cell 6 rfl rfl, tl, h.cell 6 rfl rfl, _, h.cell 5 rfl rfl, (s173 h hok hcap hn hck h0 hs).mono ?_⟩
  rintro _ w78 ⟨ck2, disk2, ls2, tl2, t, ws, iv, rfl, hcase, h⟩
  refine ⟨_, _, td, tl2, _, t, rfl, ?_⟩
  refine h.alloc (fun w85 h e85 n85 => ?_)
  refine h.put 0 rfl rfl rfl (fun w86 h n86 => ?_)
  generalize w78.heap.size = db at *
  have h : SH w0 w86 (BK db cap ck2 td tl2 :: rW t ws :: bW ws :: rD td disk2 :: rL tl2 ls2 :: bL ls2 :: BR rb 0 N0 N0 :: BK ob 0 0 N0 N0 :: BO pb o to :: BK cb cap clock td tl :: F) := h
  rcases hcase with ⟨hfn, rfl, ec⟩ | ⟨i, x, rfl, hx, hfs⟩
  · refine BIf.t (by decide) ?_
    refine ⟨_, h.cell 0 rfl rfl, _, h.cell 0 rfl rfl, td, h.cell 0 rfl rfl, tl2, h.cell 0 rfl rfl, (s151 h).mono ?_⟩
    rintro _ w18 ⟨rfl, h⟩
    refine ⟨_, _, td, tl2, _, N0, N0, rfl, ?_⟩
    refine h.put 7 rfl rfl rfl (fun wp1 h np1 => ?_)
    refine h.put 6 rfl rfl rfl (fun wp2 h np2 => ?_)
    refine ⟨_, h.cell 7 rfl rfl, _, h.cell 7 rfl rfl, td, h.cell 7 rfl rfl, tl2, h.cell 7 rfl rfl, _, h.cell 6 rfl rfl, N0, h.cell 6 rfl rfl, N0, h.cell 6 rfl rfl, ?_⟩
    exact stq0 (by rw [ec]; exact fe_none hnb hnf hfn) ((((((((h.dropAt 9).dropAt 8).dropAt 7).dropAt 6).dropAt 2).dropAt 1).dropAt 0))
  refine BIf.f (decide_eq_false (by omega)) ?_
  obtain ⟨s1, s2, s3, l, s4, s5⟩ := fetch_safe hok h0 hs hfs
  have hfe := fe_some hnb hnf hfs (abs_at hx)
  have s4 : x.abs = l := by
    have := abs_at hx
    have s4 : (ls2.map RLine.abs)[i]? = some l := s4
    rw [this] at s4; exact Option.some.inj s4
  subst s4
  have hxo := s1.ls _ (List.mem_of_getElem? (abs_at hx))
  have hxl : x.Data.length = 128 := hxo.len
  have hi := (List.getElem?_eq_some_iff.1 hx).1
  have htl2 := h.len 4 rfl
  rw [recs_len] at htl2
  obtain ⟨q, hq⟩ := h.rowQ 4 rfl hx
  simp only [Int.toNat_natCast]
  unfold badF at hnb
  refine ⟨_, h.cell 8 rfl rfl, BIf.eq (fun k1 => ?_) (fun k1 => BIf.eq (fun k3 => ?_) (fun k3 => ?_))⟩
  · have h := h.drew
    have hop : opLen o = o.N := by unfold opLen; rw [if_neg (by omega)]
    rw [hop] at hnb ⊢
    rw [if_pos k1] at hfe
    obtain ⟨G, g⟩ := line_at h 5 rfl hx
    have hxD := g.len 0 rfl
    rw [nums_len, hxl] at hxD
    have hxc := g.lenCap 0 rfl
    refine ⟨_, h.cell 0 rfl rfl, _, h.cell 0 rfl rfl, td, h.cell 0 rfl rfl, tl2, h.cell 0 rfl rfl, tl2, h.cell 0 rfl rfl, by omega, by omega, q, hq, x.D, h.rdR 4 rfl hq hx rfl, _, h.cell 8 rfl rfl, _, h.cell 8 rfl rfl, ?_⟩
    rw [w64 (n := o.At + o.N) (by omega) (by omega)]
    refine ⟨by omega, by omega, by omega, by omega, ?_⟩
    refine h.alloc (fun w119 h e119 n119 => ?_)
    have h := h.drop
    refine ⟨⟨_, h.cell 8 rfl rfl, by first | rfl | trivial⟩, ⟨_, h.cell 8 rfl rfl, by first | rfl | trivial⟩, ⟨x.D, h.rdR 4 rfl hq hx rfl, by first | rfl | trivial⟩, ⟨tl2, h.cell 0 rfl rfl, by first | rfl | trivial⟩, ⟨_, h.cell 0 rfl rfl, _, h.cell 0 rfl rfl, td, h.cell 0 rfl rfl, tl2, h.cell 0 rfl rfl, by first | rfl | trivial⟩, ?_⟩
    obtain ⟨G2, g2⟩ := line_at h 5 rfl hx
    have hrow := row_cut (a := o.At.toNat) (n := o.N.toNat) (g2.rowN 0 rfl) (by rw [hxD, hxl]) hxc (by omega)
    refine SH.appendN (m := []) (us := (x.Data.drop o.At.toNat).take o.N.toNat) (h.nil _ 1) (by show RowAt _ _ ((o.At + o.N).toNat - o.At.toNat) _; rw [show (o.At + o.N).toNat - o.At.toNat = o.N.toNat by omega]; exact hrow) rfl rfl (by decide) (by show (_ + _) * 1 ≤ _; rw [List.length_take, List.length_drop, hxl]; simp; omega) (fun l128 w129 h hl128 _ => ?_)
    refine ⟨⟨_, h.cell 1 rfl rfl, _, h.cell 1 rfl rfl, td, h.cell 1 rfl rfl, tl2, h.cell 1 rfl rfl, by first | rfl | trivial⟩, ?_⟩
    refine h.put 8 rfl rfl rfl (fun wp1 h np1 => ?_)
    refine h.put 7 rfl rfl rfl (fun wp2 h np2 => ?_)
    refine ⟨_, h.cell 8 rfl rfl, _, h.cell 8 rfl rfl, td, h.cell 8 rfl rfl, tl2, h.cell 8 rfl rfl, _, h.cell 7 rfl rfl, l128, h.cell 7 rfl rfl, t, h.cell 7 rfl rfl, ?_⟩
    rw [hfe]
    have h : SH w0 wp2 (rD l128 ((x.Data.drop o.At.toNat).take o.N.toNat) :: BK db cap ck2 td tl2 :: rW t ws :: bW ws :: rD td disk2 :: rL tl2 ls2 :: bL ls2 :: BR rb 0 l128 t :: BK ob cap ck2 td tl2 :: BO pb o to :: BK cb cap clock td tl :: F) := h
    exact stq (r := (aC_ cap ck2 disk2 ls2, ⟨0, _, ws.map RWr.abs⟩)) rfl rfl ((((((h.dropAt 10).dropAt 9).dropAt 8).dropAt 7).dropAt 1))
  · have h := h.drew
    rw [if_neg k1, if_pos k3] at hfe
    have xp0 : 0 ≤ x.Pins := hxo.p0
    have xp8 : x.Pins ≤ clock := s5
    refine ⟨tl2, h.cell 0 rfl rfl, tl2, h.cell 0 rfl rfl, by omega, by omega, q, hq, _, h.rdR 4 rfl hq hx rfl, by omega, by omega, q, hq, ?_⟩
    rw [w64 (n := x.Pins + 1) (by omega) (by omega)]
    have h : SH w0 w86.drew (BK db cap ck2 td tl2 :: rW t ws :: bW ws :: rD td disk2 :: rL tl2 (ls2.set i x) :: bL ls2 :: BR rb 0 N0 N0 :: BK ob 0 0 N0 N0 :: BO pb o to :: BK cb cap clock td tl :: F) := by rw [set_id hx]; exact h
    refine h.setR 4 (k := i) (x := x) (x.pinned (x.Pins + 1)) rfl hq hi (by show 3 < 5; decide) rfl (fun w148 h n148 => ?_)
    refine ⟨_, h.cell 0 rfl rfl, _, h.cell 0 rfl rfl, td, h.cell 0 rfl rfl, tl2, h.cell 0 rfl rfl, ?_⟩
    refine h.put 7 rfl rfl rfl (fun wp1 h np1 => ?_)
    refine h.put 6 rfl rfl rfl (fun wp2 h np2 => ?_)
    refine ⟨_, h.cell 7 rfl rfl, _, h.cell 7 rfl rfl, td, h.cell 7 rfl rfl, tl2, h.cell 7 rfl rfl, _, h.cell 6 rfl rfl, N0, h.cell 6 rfl rfl, t, h.cell 6 rfl rfl, ?_⟩
    have h : SH w0 wp2 (BK db cap ck2 td tl2 :: rW t ws :: bW ws :: rD td disk2 :: rL tl2 (ls2.set i (x.pinned (x.Pins + 1))) :: bL ls2 :: BR rb 0 N0 t :: BK ob cap ck2 td tl2 :: BO pb o to :: BK cb cap clock td tl :: F) := h
    have h := SH.bagOut (((((((h.dropAt 9).dropAt 8).dropAt 7).dropAt 6).dropAt 0).front (n := 4) rfl)) hx
    have h := SH.bagIn (f := lineA) (x := x) (y := x.pinned (x.Pins + 1)) hx h
    rw [hfe]
    have e : pinL (aC_ cap ck2 disk2 ls2) i x.abs (x.abs.Pins + 1) = aC_ cap ck2 disk2 (ls2.set i (x.pinned (x.Pins + 1))) := by
      unfold pinL aC_
      simp only [List.map_set]; rfl
    rw [e]
    exact stq (r := (aC_ cap ck2 disk2 (ls2.set i (x.pinned (x.Pins + 1))), ⟨0, [], ws.map RWr.abs⟩)) (tt := N0) rfl rfl (SH.nil (((((h.front (n := 4) rfl).front (n := 4) rfl).front (n := 4) rfl).front (n := 4) rfl)) none 1)
  · have hk2 : o.Kind = 2 := by omega
    have hop : opLen o = (o.Data.length : Int) := by unfold opLen; rw [if_pos hk2]
    rw [hop] at hnb ⊢
    rw [if_neg k1, if_neg k3] at hfe
    have h := SH.bagOut ((h.front (n := 5) rfl)) hx
    have h : SH w0 w86 (rD x.D x.Data :: bL (ls2.eraseIdx i) :: BK db cap ck2 td tl2 :: rW t ws :: bW ws :: rD td disk2 :: rL tl2 ls2 :: BR rb 0 N0 N0 :: BK ob 0 0 N0 N0 :: BO pb o to :: BK cb cap clock td tl :: F) := h
    refine LoopW.m1 (fun (k : Int) w' => ∃ j : Nat, k = j ∧ j ≤ o.Data.length ∧ SH w0 w' (rD x.D (over x.Data o.At.toNat (o.Data.take j)) :: bL (ls2.eraseIdx i) :: BK db cap ck2 td tl2 :: rW t ws :: bW ws :: rD td disk2 :: rL tl2 ls2 :: BR rb 0 N0 N0 :: BK ob 0 0 N0 N0 :: BO pb o to :: BK cb cap clock td tl :: F)) (fun (k : Int) _ => (o.Data.length - k).toNat) ⟨0, rfl, by omega, by rw [List.take_zero, over_nil]; exact h⟩ ?_
    clear h
    rintro (k : Int) w164 ⟨j, rfl, hj, h⟩ J hJ
    have hovl : (over x.Data o.At.toNat (o.Data.take j)).length = 128 := by rw [over_len (by rw [List.length_take]; omega), hxl]
    have hxD := h.len 0 rfl
    rw [nums_len, hovl] at hxD
    refine BIf.dec (fun hlt => ?_) (fun hge => ?_)
    · have h := h.drew
      obtain ⟨y, hy⟩ : ∃ y, o.Data[j]? = some y := ⟨_, List.getElem?_eq_getElem (by omega)⟩
      obtain ⟨p, hp, hpc⟩ := row_get (hb.row h ⟨[_, _, _, _, _, _, _, _, _, _, _], rfl⟩) hy
      refine ⟨tl2, h.cell 2 rfl rfl, by omega, by omega, q, hq, x.D, h.rdR 6 rfl hq hx rfl, _, h.cell 9 rfl rfl, to, h.cell 9 rfl rfl, by omega, by omega, p, hp, _, hpc, ?_⟩
      rw [w64 (n := o.At + (j : Int)) (by omega) (by omega), show o.At + (j : Int) = ((o.At.toNat + j : Nat) : Int) by omega, Int.toNat_natCast]
      obtain ⟨z, hz⟩ : ∃ z, (over x.Data o.At.toNat (o.Data.take j))[o.At.toNat + j]? = some z := ⟨_, List.getElem?_eq_getElem (by omega)⟩
      obtain ⟨r, hr, _⟩ := h.elem0 0 rfl (nums_get hz) rfl
      refine ⟨by omega, by omega, r, hr, h.setE0 0 rfl hr (nums_get hz) rfl (fun w22 h n22 => ?_)⟩
      rw [w64 (by omega) (by omega)]
      have h : SH w0 w22 (aRow x.D 1 ((nums .u8 (over x.Data o.At.toNat (o.Data.take j))).set (o.At.toNat + j) ([Ce.v (.int .u8 z)].set 0 (.v (.int .u8 y)))) :: bL (ls2.eraseIdx i) :: BK db cap ck2 td tl2 :: rW t ws :: bW ws :: rD td disk2 :: rL tl2 ls2 :: BR rb 0 N0 N0 :: BK ob 0 0 N0 N0 :: BO pb o to :: BK cb cap clock td tl :: F) := h
      rw [nums_set hz, take_over hy (by omega)] at h
      exact hJ _ _ ⟨j + 1, by omega, by omega, h⟩ (by omega)
    · obtain rfl : j = o.Data.length := by omega
      rw [List.take_length] at h
      have h := SH.bagIn (f := lineA) (x := x) (y := x.dirt.wrote (over x.Data o.At.toNat o.Data)) hx h
      have h : SH w0 w164 (bL (ls2.set i (x.dirt.wrote (over x.Data o.At.toNat o.Data))) :: BK db cap ck2 td tl2 :: rW t ws :: bW ws :: rD td disk2 :: rL tl2 (ls2.set i x) :: BR rb 0 N0 N0 :: BK ob 0 0 N0 N0 :: BO pb o to :: BK cb cap clock td tl :: F) := by rw [set_id hx]; exact h
      refine ⟨tl2, h.cell 1 rfl rfl, by omega, by omega, q, hq, h.setR 5 (k := i) (x := x) (x.dirt.wrote (over x.Data o.At.toNat o.Data)) rfl hq hi (by show 2 < 5; decide) rfl (fun w176 h n176 => ?_)⟩
      refine ⟨_, h.cell 1 rfl rfl, _, h.cell 1 rfl rfl, td, h.cell 1 rfl rfl, tl2, h.cell 1 rfl rfl, ?_⟩
      refine h.put 7 rfl rfl rfl (fun wp1 h np1 => ?_)
      refine h.put 6 rfl rfl rfl (fun wp2 h np2 => ?_)
      refine ⟨_, h.cell 7 rfl rfl, _, h.cell 7 rfl rfl, td, h.cell 7 rfl rfl, tl2, h.cell 7 rfl rfl, _, h.cell 6 rfl rfl, N0, h.cell 6 rfl rfl, t, h.cell 6 rfl rfl, ?_⟩
      have h : SH w0 wp2 (bL (ls2.set i (x.dirt.wrote (over x.Data o.At.toNat o.Data))) :: BK db cap ck2 td tl2 :: rW t ws :: bW ws :: rD td disk2 :: rL tl2 (ls2.set i (x.dirt.wrote (over x.Data o.At.toNat o.Data))) :: BR rb 0 N0 t :: BK ob cap ck2 td tl2 :: BO pb o to :: BK cb cap clock td tl :: F) := h
      rw [hfe]
      have e : setData (aC_ cap ck2 disk2 ls2) i x.abs (over x.abs.Data o.At.toNat o.Data) = aC_ cap ck2 disk2 (ls2.set i (x.dirt.wrote (over x.Data o.At.toNat o.Data))) := by
        unfold setData aC_
        simp only [List.map_set]; rfl
      rw [e]
      exact stq (r := (aC_ cap ck2 disk2 (ls2.set i (x.dirt.wrote (over x.Data o.At.toNat o.Data))), ⟨0, [], ws.map RWr.abs⟩)) (tt := N0) rfl rfl (SH.nil ((((((((((h.dropAt 9).dropAt 8).dropAt 7).dropAt 6).dropAt 1).front (n := 4) rfl).front (n := 4) rfl).front (n := 4) rfl).front (n := 4) rfl)) none 1)
end Go.Proofs.Ytenhcpjlkmbedaa
