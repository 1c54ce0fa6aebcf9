/- Part 6 of 6: plain readings of code, rules for them, and a proof over them, joined by a program. Conditions: none. -/
import Derived.Test.YteigefjiifihpaaSfre5
import Derived.Test.YteigefjiifihpaaRows
import Derived.WalkKit
import Derived.ProofKit
import Derived.OpenShut
import Derived.ShutString
import Derived.ChangeOld
import Derived.Below
import Derived.Carry
import Derived.SizedLaws
/- Draws: an operation on a scheduler (the body printed by a program). Conditions: none. -/
set_option linter.unusedVariables false
set_option linter.unusedSimpArgs false
namespace Go.Proofs.Yteigefjiifihpaa
open Go Go.Den
theorem s87 {w0 w : World} {F : List Asr} {cb : Nat} {s t l : Sl} {d : DSched} (h : SH w0 w (aC cb s :: RT t d.Threads :: RL l d.Locks :: F)) (hb : CurB w0 s) (hf : d.Threads.length ≤ 1048576 ∧ d.Locks.length ≤ 1048576) :
    CallW Try.prog 87 #[.pointer (some ⟨cb, 0, none⟩), sAgg d.Now d.Seq t l] w (fun v w' => ∃ x y z : Int, v = .agg #[.int .i64 x, .int .i64 y, .int .i64 z] ∧ SH w0 w' (aC cb s :: RT t d.Threads :: RL l d.Locks :: F)) := by
  refine go87 ?_
  unfold W87
  have htl := h.len 1 rfl
  rw [recs_len] at htl
  have hll := h.len 2 rfl
  rw [recs_len] at hll
  refine h.alloc (fun w1 h ew1 nw1 => ?_)
  refine h.alloc (fun w2 h ew2 nw2 => ?_)
  have h : SH w0 w2 (aI w1.heap.size 3 (fun _ => True) :: aB w.heap.size ([.int .i64 d.Now, .int .i64 d.Seq, .slice t.a t.len t.cap, .slice l.a l.len l.cap].map Ce.v) :: aC cb s :: RT t d.Threads :: RL l d.Locks :: F) := h.toI 0 [0, 0, 0] rfl rfl (fun _ _ => trivial)
  refine h.alloc (fun w3 h ew3 nw3 => ?_)
  have h : SH w0 w3 (aI w2.heap.size 3 (fun _ => True) :: aI w1.heap.size 3 (fun _ => True) :: aB w.heap.size ([.int .i64 d.Now, .int .i64 d.Seq, .slice t.a t.len t.cap, .slice l.a l.len l.cap].map Ce.v) :: aC cb s :: RT t d.Threads :: RL l d.Locks :: F) := h.toI 0 [0, 0, 0] rfl rfl (fun _ _ => trivial)
  refine h.pI 0 [3, 0, 0] rfl rfl rfl (fun _ _ => trivial) (fun w4 h => ?_)
  refine ⟨t, h.cell 2 rfl rfl, ?_⟩
  refine JoinW.cut1 (fun (b6 : Bool) w' => (b6 = false → 0 < d.Threads.length) ∧ SH w0 w' (aI w2.heap.size 3 (fun _ => True) :: aI w1.heap.size 3 (fun _ => True) :: aB w.heap.size ([.int .i64 d.Now, .int .i64 d.Seq, .slice t.a t.len t.cap, .slice l.a l.len l.cap].map Ce.v) :: aC cb s :: RT t d.Threads :: RL l d.Locks :: F)) ?_ ?_
  · skip
    refine BIf.of (fun c1 => ?_) (fun c1 => ?_)
    · skip
      try have hpos := hpos c1
      try have hlk := hlk c1
      try simp only [Bool.or_eq_true, Bool.and_eq_true, Bool.or_eq_false_iff, Bool.not_eq_true', Bool.not_eq_false', decide_eq_true_eq, decide_eq_false_iff_not, beq_iff_eq, beq_eq_false_iff_ne, bne_iff_ne, bne_eq_false_iff_eq, ne_eq] at c1
      exact ⟨(by first | (intro hx; cases hx; done) | (intro hx; omega) | (intro hx; simp at hx)), h⟩
    · skip
      try have hpos := hpos c1
      try have hlk := hlk c1
      try simp only [Bool.or_eq_true, Bool.and_eq_true, Bool.or_eq_false_iff, Bool.not_eq_true', Bool.not_eq_false', decide_eq_true_eq, decide_eq_false_iff_not, beq_iff_eq, beq_eq_false_iff_ne, bne_iff_ne, bne_eq_false_iff_eq, ne_eq] at c1
      refine (s78 h 3 rfl hb).mono ?_
      rintro _ w148 ⟨b149, rfl, h⟩
      refine ⟨b149, rfl, ?_⟩
      exact ⟨(by first | (intro hx; cases hx; done) | (intro hx; omega) | (intro hx; simp at hx)), h⟩
  · clear h
    rintro (b6 : Bool) w8 ⟨hpos, h⟩
    refine BIf.of (fun c2 => ?_) (fun c2 => ?_)
    · skip
      try have hpos := hpos c2
      try have hlk := hlk c2
      try simp only [Bool.or_eq_true, Bool.and_eq_true, Bool.or_eq_false_iff, Bool.not_eq_true', Bool.not_eq_false', decide_eq_true_eq, decide_eq_false_iff_not, beq_iff_eq, beq_eq_false_iff_ne, bne_iff_ne, bne_eq_false_iff_eq, ne_eq] at c2
      refine h.sI 0 rfl (by decide) trivial (fun w9 h => ?_)
      refine (s77 h 3 rfl hb).mono ?_
      rintro _ w11 ⟨n12, rfl, ⟨pn12a, pn12b⟩, h⟩
      refine ⟨n12, rfl, ?_⟩
      refine h.sI 0 rfl (by decide) trivial (fun w13 h => ?_)
      refine JoinW.cut0 (fun w' => SH w0 w' (aI w2.heap.size 3 (fun _ => True) :: aI w1.heap.size 3 (fun _ => True) :: aB w.heap.size ([.int .i64 d.Now, .int .i64 d.Seq, .slice t.a t.len t.cap, .slice l.a l.len l.cap].map Ce.v) :: aC cb s :: RT t d.Threads :: RL l d.Locks :: F)) ?_ ?_
      · skip
        refine (s78 h 3 rfl hb).mono ?_
        rintro _ w24 ⟨b25, rfl, h⟩
        refine ⟨b25, rfl, ?_⟩
        refine BIf.of (fun c3 => ?_) (fun c3 => ?_)
        · skip
          try have hpos := hpos c3
          try have hlk := hlk c3
          try simp only [Bool.or_eq_true, Bool.and_eq_true, Bool.or_eq_false_iff, Bool.not_eq_true', Bool.not_eq_false', decide_eq_true_eq, decide_eq_false_iff_not, beq_iff_eq, beq_eq_false_iff_ne, bne_iff_ne, bne_eq_false_iff_eq, ne_eq] at c3
          refine h.alloc (fun w26 h ew26 nw26 => ?_)
          have h : SH w0 w26 (aI w24.heap.size 2 (fun _ => True) :: aI w2.heap.size 3 (fun _ => True) :: aI w1.heap.size 3 (fun _ => True) :: aB w.heap.size ([.int .i64 d.Now, .int .i64 d.Seq, .slice t.a t.len t.cap, .slice l.a l.len l.cap].map Ce.v) :: aC cb s :: RT t d.Threads :: RL l d.Locks :: F) := h.toI 0 [(-1), 8] rfl rfl (fun _ _ => trivial)
          refine (s77 h 4 rfl hb).mono ?_
          rintro _ w28 ⟨n29, rfl, ⟨pn29a, pn29b⟩, h⟩
          refine ⟨n29, rfl, ?_⟩
          refine ⟨by omega, ?_⟩
          refine ⟨by omega, ?_⟩
          refine ⟨_, rfl, ?_⟩
          obtain ⟨k4, rfl⟩ := Int.eq_ofNat_of_zero_le pn29a
          rw [Int.toNat_natCast]
          refine h.rIx 0 rfl (by omega) (fun n31 pn31 => ?_)
          refine h.sI 1 rfl (by decide) trivial (fun w32 h => ?_)
          exact h.drop
        · skip
          try have hpos := hpos c3
          try have hlk := hlk c3
          try simp only [Bool.or_eq_true, Bool.and_eq_true, Bool.or_eq_false_iff, Bool.not_eq_true', Bool.not_eq_false', decide_eq_true_eq, decide_eq_false_iff_not, beq_iff_eq, beq_eq_false_iff_ne, bne_iff_ne, bne_eq_false_iff_eq, ne_eq] at c3
          exact h
      · clear h
        intro w15 h
        refine h.rI 0 rfl (by decide) (fun n16 pn16 => ?_)
        refine h.rI 0 rfl (by decide) (fun n17 pn17 => ?_)
        refine h.rI 0 rfl (by decide) (fun n18 pn18 => ?_)
        refine h.pI 1 [n16, n17, n18] rfl rfl rfl (fun _ _ => trivial) (fun w19 h => ?_)
        refine h.rI 1 rfl (by decide) (fun n20 pn20 => ?_)
        refine h.rI 1 rfl (by decide) (fun n21 pn21 => ?_)
        refine h.rI 1 rfl (by decide) (fun n22 pn22 => ?_)
        exact ⟨_, _, _, rfl, h.drop.drop.drop⟩
    · skip
      try have hpos := hpos c2
      try have hlk := hlk c2
      try simp only [Bool.or_eq_true, Bool.and_eq_true, Bool.or_eq_false_iff, Bool.not_eq_true', Bool.not_eq_false', decide_eq_true_eq, decide_eq_false_iff_not, beq_iff_eq, beq_eq_false_iff_ne, bne_iff_ne, bne_eq_false_iff_eq, ne_eq] at c2
      refine ⟨t, h.cell 2 rfl rfl, ?_⟩
      refine ⟨t, h.cell 2 rfl rfl, ?_⟩
      have h := h.drew
      refine (s77 h 3 rfl hb).mono ?_
      rintro _ w36 ⟨n37, rfl, ⟨pn37a, pn37b⟩, h⟩
      refine ⟨n37, rfl, ?_⟩
      refine ⟨⟨t, h.cell 2 rfl rfl, (by first | rfl | trivial)⟩, ?_⟩
      refine ⟨by omega, ?_⟩
      refine ⟨by omega, ?_⟩
      obtain ⟨k5, rfl⟩ := Int.eq_ofNat_of_zero_le pn37a
      simp only [Int.toNat_natCast]
      have hgq39 : d.Threads[k5]? = some d.Threads[k5] := List.getElem?_eq_getElem (by omega)
      obtain ⟨q39, hqq39⟩ := h.rowQ 4 rfl hgq39
      refine ⟨q39, hqq39, ?_⟩
      refine ⟨_, h.rdR 4 rfl hqq39 hgq39 rfl, ?_⟩
      refine h.sI 0 rfl (by decide) trivial (fun w41 h => ?_)
      refine (s77 h 3 rfl hb).mono ?_
      rintro _ w43 ⟨n44, rfl, ⟨pn44a, pn44b⟩, h⟩
      refine ⟨n44, rfl, ?_⟩
      refine h.sI 0 rfl (by decide) trivial (fun w45 h => ?_)
      refine (s77 h 3 rfl hb).mono ?_
      rintro _ w47 ⟨n48, rfl, ⟨pn48a, pn48b⟩, h⟩
      refine ⟨n48, rfl, ?_⟩
      refine JoinW.cut0 (fun w' => SH w0 w' (aI w2.heap.size 3 (fun _ => True) :: aI w1.heap.size 3 (fun _ => True) :: aB w.heap.size ([.int .i64 d.Now, .int .i64 d.Seq, .slice t.a t.len t.cap, .slice l.a l.len l.cap].map Ce.v) :: aC cb s :: RT t d.Threads :: RL l d.Locks :: F)) ?_ ?_
      · skip
        refine BIf.of (fun c6 => ?_) (fun c6 => ?_)
        · skip
          try have hpos := hpos c6
          try have hlk := hlk c6
          try simp only [Bool.or_eq_true, Bool.and_eq_true, Bool.or_eq_false_iff, Bool.not_eq_true', Bool.not_eq_false', decide_eq_true_eq, decide_eq_false_iff_not, beq_iff_eq, beq_eq_false_iff_ne, bne_iff_ne, bne_eq_false_iff_eq, ne_eq] at c6
          refine h.sI 0 rfl (by decide) trivial (fun w91 h => ?_)
          exact h
        · skip
          try have hpos := hpos c6
          try have hlk := hlk c6
          try simp only [Bool.or_eq_true, Bool.and_eq_true, Bool.or_eq_false_iff, Bool.not_eq_true', Bool.not_eq_false', decide_eq_true_eq, decide_eq_false_iff_not, beq_iff_eq, beq_eq_false_iff_ne, bne_iff_ne, bne_eq_false_iff_eq, ne_eq] at c6
          refine BIf.of (fun c7 => ?_) (fun c7 => ?_)
          · skip
            try have hpos := hpos c7
            try have hlk := hlk c7
            try simp only [Bool.or_eq_true, Bool.and_eq_true, Bool.or_eq_false_iff, Bool.not_eq_true', Bool.not_eq_false', decide_eq_true_eq, decide_eq_false_iff_not, beq_iff_eq, beq_eq_false_iff_ne, bne_iff_ne, bne_eq_false_iff_eq, ne_eq] at c7
            refine h.sI 0 rfl (by decide) trivial (fun w92 h => ?_)
            refine ⟨l, h.cell 2 rfl rfl, ?_⟩
            refine JoinW.cut1 (fun (b94 : Bool) w' => (b94 = true → 0 < d.Locks.length) ∧ SH w0 w' (aI w2.heap.size 3 (fun _ => True) :: aI w1.heap.size 3 (fun _ => True) :: aB w.heap.size ([.int .i64 d.Now, .int .i64 d.Seq, .slice t.a t.len t.cap, .slice l.a l.len l.cap].map Ce.v) :: aC cb s :: RT t d.Threads :: RL l d.Locks :: F)) ?_ ?_
            · skip
              refine BIf.of (fun c8 => ?_) (fun c8 => ?_)
              · skip
                try have hpos := hpos c8
                try have hlk := hlk c8
                try simp only [Bool.or_eq_true, Bool.and_eq_true, Bool.or_eq_false_iff, Bool.not_eq_true', Bool.not_eq_false', decide_eq_true_eq, decide_eq_false_iff_not, beq_iff_eq, beq_eq_false_iff_ne, bne_iff_ne, bne_eq_false_iff_eq, ne_eq] at c8
                refine (s78 h 3 rfl hb).mono ?_
                rintro _ w133 ⟨b134, rfl, h⟩
                refine ⟨b134, rfl, ?_⟩
                exact ⟨(by first | (intro hx; cases hx; done) | (intro hx; omega)), h⟩
              · skip
                try have hpos := hpos c8
                try have hlk := hlk c8
                try simp only [Bool.or_eq_true, Bool.and_eq_true, Bool.or_eq_false_iff, Bool.not_eq_true', Bool.not_eq_false', decide_eq_true_eq, decide_eq_false_iff_not, beq_iff_eq, beq_eq_false_iff_ne, bne_iff_ne, bne_eq_false_iff_eq, ne_eq] at c8
                exact ⟨(by first | (intro hx; cases hx; done) | (intro hx; omega)), h⟩
            · clear h
              rintro (b94 : Bool) w96 ⟨hlk, h⟩
              refine BIf.of (fun c9 => ?_) (fun c9 => ?_)
              · skip
                try have hpos := hpos c9
                try have hlk := hlk c9
                try simp only [Bool.or_eq_true, Bool.and_eq_true, Bool.or_eq_false_iff, Bool.not_eq_true', Bool.not_eq_false', decide_eq_true_eq, decide_eq_false_iff_not, beq_iff_eq, beq_eq_false_iff_ne, bne_iff_ne, bne_eq_false_iff_eq, ne_eq] at c9
                refine JoinW.cut1 (fun (p97 : Option Addr) w' => ∃ b10,  p97 = some ⟨b10, 0, none⟩ ∧ SH w0 w' (aI b10 2 (fun _ => True) :: aI w2.heap.size 3 (fun _ => True) :: aI w1.heap.size 3 (fun _ => True) :: aB w.heap.size ([.int .i64 d.Now, .int .i64 d.Seq, .slice t.a t.len t.cap, .slice l.a l.len l.cap].map Ce.v) :: aC cb s :: RT t d.Threads :: RL l d.Locks :: F)) ?_ ?_
                · skip
                  refine ⟨l, h.cell 2 rfl rfl, ?_⟩
                  refine ⟨l, h.cell 2 rfl rfl, ?_⟩
                  refine ⟨?_, ?_⟩
                  · skip
                    have h := h.drew
                    refine (s77 h 3 rfl hb).mono ?_
                    rintro _ w120 ⟨n121, rfl, ⟨pn121a, pn121b⟩, h⟩
                    refine ⟨n121, rfl, ?_⟩
                    refine ⟨⟨l, h.cell 2 rfl rfl, (by first | rfl | trivial)⟩, ?_⟩
                    refine ⟨by omega, ?_⟩
                    refine ⟨by omega, ?_⟩
                    obtain ⟨k11, rfl⟩ := Int.eq_ofNat_of_zero_le pn121a
                    simp only [Int.toNat_natCast]
                    have hgq123 : d.Locks[k11]? = some d.Locks[k11] := List.getElem?_eq_getElem (by omega)
                    obtain ⟨q123, hqq123⟩ := h.rowQ 5 rfl hgq123
                    refine ⟨q123, hqq123, ?_⟩
                    refine ⟨_, h.rdR 5 rfl hqq123 hgq123 rfl, ?_⟩
                    refine ⟨_, h.rdR 5 rfl hqq123 hgq123 rfl, ?_⟩
                    refine ⟨?_, trivial⟩
                    refine h.alloc (fun w126 h ew126 nw126 => ?_)
                    have h : SH w0 w126 (aI w120.heap.size 2 (fun _ => True) :: aI w2.heap.size 3 (fun _ => True) :: aI w1.heap.size 3 (fun _ => True) :: aB w.heap.size ([.int .i64 d.Now, .int .i64 d.Seq, .slice t.a t.len t.cap, .slice l.a l.len l.cap].map Ce.v) :: aC cb s :: RT t d.Threads :: RL l d.Locks :: F) := h.toI 0 [0, 0] rfl rfl (fun _ _ => trivial)
                    refine ⟨⟨_, h.rdR 6 rfl hqq123 hgq123 rfl, _, h.rdR 6 rfl hqq123 hgq123 rfl, (by first | rfl | trivial)⟩, ?_⟩
                    refine ⟨(by first | rfl | trivial), ?_⟩
                    refine ⟨⟨l, h.cell 3 rfl rfl, (by first | rfl | trivial)⟩, ?_⟩
                    refine ⟨⟨l, h.cell 3 rfl rfl, (by first | rfl | trivial)⟩, ?_⟩
                    refine ⟨?_, trivial⟩
                    refine h.pI 0 [_, _] rfl rfl rfl (fun _ _ => trivial) (fun w131 h => ?_)
                    exact ⟨_, rfl, (h.front (n := 0) rfl)⟩
                  · skip
                    refine ⟨?_, trivial⟩
                    have h := h.drew
                    refine h.alloc (fun w108 h ew108 nw108 => ?_)
                    have h : SH w0 w108 (aI w96.drew.heap.size 2 (fun _ => True) :: aI w2.heap.size 3 (fun _ => True) :: aI w1.heap.size 3 (fun _ => True) :: aB w.heap.size ([.int .i64 d.Now, .int .i64 d.Seq, .slice t.a t.len t.cap, .slice l.a l.len l.cap].map Ce.v) :: aC cb s :: RT t d.Threads :: RL l d.Locks :: F) := h.toI 0 [0, 0] rfl rfl (fun _ _ => trivial)
                    refine ⟨(by first | rfl | trivial), ?_⟩
                    refine ⟨⟨l, h.cell 3 rfl rfl, (by first | rfl | trivial)⟩, ?_⟩
                    refine ⟨⟨l, h.cell 3 rfl rfl, (by first | rfl | trivial)⟩, ?_⟩
                    refine ⟨?_, trivial⟩
                    refine (s77 h 4 rfl hb).mono ?_
                    rintro _ w112 ⟨n113, rfl, ⟨pn113a, pn113b⟩, h⟩
                    refine ⟨n113, rfl, ?_⟩
                    refine ⟨⟨l, h.cell 3 rfl rfl, (by first | rfl | trivial)⟩, ?_⟩
                    refine ⟨by omega, ?_⟩
                    refine ⟨by omega, ?_⟩
                    obtain ⟨k12, rfl⟩ := Int.eq_ofNat_of_zero_le pn113a
                    simp only [Int.toNat_natCast]
                    have hgq115 : d.Locks[k12]? = some d.Locks[k12] := List.getElem?_eq_getElem (by omega)
                    obtain ⟨q115, hqq115⟩ := h.rowQ 6 rfl hgq115
                    refine ⟨q115, hqq115, ?_⟩
                    refine ⟨_, h.rdR 6 rfl hqq115 hgq115 rfl, ?_⟩
                    refine ⟨_, h.rdR 6 rfl hqq115 hgq115 rfl, ?_⟩
                    refine ⟨?_, trivial⟩
                    refine h.pI 0 [_, _] rfl rfl rfl (fun _ _ => trivial) (fun w118 h => ?_)
                    exact ⟨_, rfl, (h.front (n := 0) rfl)⟩
                · clear h
                  rintro (p97 : Option Addr) w99 ⟨b10, rfl, h⟩
                  refine addrOf_mk ?_
                  refine h.rIP 0 rfl (by decide) (fun n101 pn101 => ?_)
                  refine h.sI 1 rfl (by decide) trivial (fun w102 h => ?_)
                  refine addrOf_mk ?_
                  refine h.rIP 0 rfl (by decide) (fun n104 pn104 => ?_)
                  refine h.sI 1 rfl (by decide) trivial (fun w105 h => ?_)
                  exact h.drop
              · skip
                try have hpos := hpos c9
                try have hlk := hlk c9
                try simp only [Bool.or_eq_true, Bool.and_eq_true, Bool.or_eq_false_iff, Bool.not_eq_true', Bool.not_eq_false', decide_eq_true_eq, decide_eq_false_iff_not, beq_iff_eq, beq_eq_false_iff_ne, bne_iff_ne, bne_eq_false_iff_eq, ne_eq] at c9
                exact h
          · skip
            try have hpos := hpos c7
            try have hlk := hlk c7
            try simp only [Bool.or_eq_true, Bool.and_eq_true, Bool.or_eq_false_iff, Bool.not_eq_true', Bool.not_eq_false', decide_eq_true_eq, decide_eq_false_iff_not, beq_iff_eq, beq_eq_false_iff_ne, bne_iff_ne, bne_eq_false_iff_eq, ne_eq] at c7
            refine BIf.of (fun c13 => ?_) (fun c13 => ?_)
            · skip
              try have hpos := hpos c13
              try have hlk := hlk c13
              try simp only [Bool.or_eq_true, Bool.and_eq_true, Bool.or_eq_false_iff, Bool.not_eq_true', Bool.not_eq_false', decide_eq_true_eq, decide_eq_false_iff_not, beq_iff_eq, beq_eq_false_iff_ne, bne_iff_ne, bne_eq_false_iff_eq, ne_eq] at c13
              refine h.sI 0 rfl (by decide) trivial (fun w135 h => ?_)
              exact h
            · skip
              try have hpos := hpos c13
              try have hlk := hlk c13
              try simp only [Bool.or_eq_true, Bool.and_eq_true, Bool.or_eq_false_iff, Bool.not_eq_true', Bool.not_eq_false', decide_eq_true_eq, decide_eq_false_iff_not, beq_iff_eq, beq_eq_false_iff_ne, bne_iff_ne, bne_eq_false_iff_eq, ne_eq] at c13
              refine BIf.of (fun c14 => ?_) (fun c14 => ?_)
              · skip
                try have hpos := hpos c14
                try have hlk := hlk c14
                try simp only [Bool.or_eq_true, Bool.and_eq_true, Bool.or_eq_false_iff, Bool.not_eq_true', Bool.not_eq_false', decide_eq_true_eq, decide_eq_false_iff_not, beq_iff_eq, beq_eq_false_iff_ne, bne_iff_ne, bne_eq_false_iff_eq, ne_eq] at c14
                refine h.sI 0 rfl (by decide) trivial (fun w136 h => ?_)
                refine (s77 h 3 rfl hb).mono ?_
                rintro _ w138 ⟨n139, rfl, ⟨pn139a, pn139b⟩, h⟩
                refine ⟨n139, rfl, ?_⟩
                refine h.sI 0 rfl (by decide) trivial (fun w140 h => ?_)
                exact h
              · skip
                try have hpos := hpos c14
                try have hlk := hlk c14
                try simp only [Bool.or_eq_true, Bool.and_eq_true, Bool.or_eq_false_iff, Bool.not_eq_true', Bool.not_eq_false', decide_eq_true_eq, decide_eq_false_iff_not, beq_iff_eq, beq_eq_false_iff_ne, bne_iff_ne, bne_eq_false_iff_eq, ne_eq] at c14
                refine BIf.of (fun c15 => ?_) (fun c15 => ?_)
                · skip
                  try have hpos := hpos c15
                  try have hlk := hlk c15
                  try simp only [Bool.or_eq_true, Bool.and_eq_true, Bool.or_eq_false_iff, Bool.not_eq_true', Bool.not_eq_false', decide_eq_true_eq, decide_eq_false_iff_not, beq_iff_eq, beq_eq_false_iff_ne, bne_iff_ne, bne_eq_false_iff_eq, ne_eq] at c15
                  refine h.sI 0 rfl (by decide) trivial (fun w141 h => ?_)
                  exact h
                · skip
                  try have hpos := hpos c15
                  try have hlk := hlk c15
                  try simp only [Bool.or_eq_true, Bool.and_eq_true, Bool.or_eq_false_iff, Bool.not_eq_true', Bool.not_eq_false', decide_eq_true_eq, decide_eq_false_iff_not, beq_iff_eq, beq_eq_false_iff_ne, bne_iff_ne, bne_eq_false_iff_eq, ne_eq] at c15
                  refine BIf.of (fun c16 => ?_) (fun c16 => ?_)
                  · skip
                    try have hpos := hpos c16
                    try have hlk := hlk c16
                    try simp only [Bool.or_eq_true, Bool.and_eq_true, Bool.or_eq_false_iff, Bool.not_eq_true', Bool.not_eq_false', decide_eq_true_eq, decide_eq_false_iff_not, beq_iff_eq, beq_eq_false_iff_ne, bne_iff_ne, bne_eq_false_iff_eq, ne_eq] at c16
                    refine h.sI 0 rfl (by decide) trivial (fun w142 h => ?_)
                    refine (s77 h 3 rfl hb).mono ?_
                    rintro _ w144 ⟨n145, rfl, ⟨pn145a, pn145b⟩, h⟩
                    refine ⟨n145, rfl, ?_⟩
                    refine h.sI 0 rfl (by decide) trivial (fun w146 h => ?_)
                    exact h
                  · skip
                    try have hpos := hpos c16
                    try have hlk := hlk c16
                    try simp only [Bool.or_eq_true, Bool.and_eq_true, Bool.or_eq_false_iff, Bool.not_eq_true', Bool.not_eq_false', decide_eq_true_eq, decide_eq_false_iff_not, beq_iff_eq, beq_eq_false_iff_ne, bne_iff_ne, bne_eq_false_iff_eq, ne_eq] at c16
                    exact h
      · clear h
        intro w50 h
        refine JoinW.cut0 (fun w' => SH w0 w' (aI w2.heap.size 3 (fun _ => True) :: aI w1.heap.size 3 (fun _ => True) :: aB w.heap.size ([.int .i64 d.Now, .int .i64 d.Seq, .slice t.a t.len t.cap, .slice l.a l.len l.cap].map Ce.v) :: aC cb s :: RT t d.Threads :: RL l d.Locks :: F)) ?_ ?_
        · skip
          refine (s78 h 3 rfl hb).mono ?_
          rintro _ w85 ⟨b86, rfl, h⟩
          refine ⟨b86, rfl, ?_⟩
          refine BIf.of (fun c17 => ?_) (fun c17 => ?_)
          · skip
            try have hpos := hpos c17
            try have hlk := hlk c17
            try simp only [Bool.or_eq_true, Bool.and_eq_true, Bool.or_eq_false_iff, Bool.not_eq_true', Bool.not_eq_false', decide_eq_true_eq, decide_eq_false_iff_not, beq_iff_eq, beq_eq_false_iff_ne, bne_iff_ne, bne_eq_false_iff_eq, ne_eq] at c17
            refine (s77 h 3 rfl hb).mono ?_
            rintro _ w88 ⟨n89, rfl, ⟨pn89a, pn89b⟩, h⟩
            refine ⟨n89, rfl, ?_⟩
            refine h.sI 0 rfl (by decide) trivial (fun w90 h => ?_)
            exact h
          · skip
            try have hpos := hpos c17
            try have hlk := hlk c17
            try simp only [Bool.or_eq_true, Bool.and_eq_true, Bool.or_eq_false_iff, Bool.not_eq_true', Bool.not_eq_false', decide_eq_true_eq, decide_eq_false_iff_not, beq_iff_eq, beq_eq_false_iff_ne, bne_iff_ne, bne_eq_false_iff_eq, ne_eq] at c17
            exact h
        · clear h
          intro w52 h
          refine JoinW.cut0 (fun w' => SH w0 w' (aI w2.heap.size 3 (fun _ => True) :: aI w1.heap.size 3 (fun _ => True) :: aB w.heap.size ([.int .i64 d.Now, .int .i64 d.Seq, .slice t.a t.len t.cap, .slice l.a l.len l.cap].map Ce.v) :: aC cb s :: RT t d.Threads :: RL l d.Locks :: F)) ?_ ?_
          · skip
            refine (s78 h 3 rfl hb).mono ?_
            rintro _ w75 ⟨b76, rfl, h⟩
            refine ⟨b76, rfl, ?_⟩
            refine BIf.of (fun c18 => ?_) (fun c18 => ?_)
            · skip
              try have hpos := hpos c18
              try have hlk := hlk c18
              try simp only [Bool.or_eq_true, Bool.and_eq_true, Bool.or_eq_false_iff, Bool.not_eq_true', Bool.not_eq_false', decide_eq_true_eq, decide_eq_false_iff_not, beq_iff_eq, beq_eq_false_iff_ne, bne_iff_ne, bne_eq_false_iff_eq, ne_eq] at c18
              refine h.alloc (fun w77 h ew77 nw77 => ?_)
              have h : SH w0 w77 (aI w75.heap.size 8 (fun _ => True) :: aI w2.heap.size 3 (fun _ => True) :: aI w1.heap.size 3 (fun _ => True) :: aB w.heap.size ([.int .i64 d.Now, .int .i64 d.Seq, .slice t.a t.len t.cap, .slice l.a l.len l.cap].map Ce.v) :: aC cb s :: RT t d.Threads :: RL l d.Locks :: F) := h.toI 0 [(-1), 8, 16, 15, 1000, 1001, 0, 4611686018427387904] rfl rfl (fun _ _ => trivial)
              refine (s77 h 4 rfl hb).mono ?_
              rintro _ w79 ⟨n80, rfl, ⟨pn80a, pn80b⟩, h⟩
              refine ⟨n80, rfl, ?_⟩
              refine ⟨by omega, ?_⟩
              refine ⟨by omega, ?_⟩
              refine ⟨_, rfl, ?_⟩
              obtain ⟨k19, rfl⟩ := Int.eq_ofNat_of_zero_le pn80a
              rw [Int.toNat_natCast]
              refine h.rIx 0 rfl (by omega) (fun n82 pn82 => ?_)
              refine h.sI 1 rfl (by decide) trivial (fun w83 h => ?_)
              exact h.drop
            · skip
              try have hpos := hpos c18
              try have hlk := hlk c18
              try simp only [Bool.or_eq_true, Bool.and_eq_true, Bool.or_eq_false_iff, Bool.not_eq_true', Bool.not_eq_false', decide_eq_true_eq, decide_eq_false_iff_not, beq_iff_eq, beq_eq_false_iff_ne, bne_iff_ne, bne_eq_false_iff_eq, ne_eq] at c18
              exact h
          · clear h
            intro w54 h
            refine JoinW.cut0 (fun w' => SH w0 w' (aI w2.heap.size 3 (fun _ => True) :: aI w1.heap.size 3 (fun _ => True) :: aB w.heap.size ([.int .i64 d.Now, .int .i64 d.Seq, .slice t.a t.len t.cap, .slice l.a l.len l.cap].map Ce.v) :: aC cb s :: RT t d.Threads :: RL l d.Locks :: F)) ?_ ?_
            · skip
              refine (s78 h 3 rfl hb).mono ?_
              rintro _ w65 ⟨b66, rfl, h⟩
              refine ⟨b66, rfl, ?_⟩
              refine BIf.of (fun c20 => ?_) (fun c20 => ?_)
              · skip
                try have hpos := hpos c20
                try have hlk := hlk c20
                try simp only [Bool.or_eq_true, Bool.and_eq_true, Bool.or_eq_false_iff, Bool.not_eq_true', Bool.not_eq_false', decide_eq_true_eq, decide_eq_false_iff_not, beq_iff_eq, beq_eq_false_iff_ne, bne_iff_ne, bne_eq_false_iff_eq, ne_eq] at c20
                refine h.alloc (fun w67 h ew67 nw67 => ?_)
                have h : SH w0 w67 (aI w65.heap.size 4 (fun _ => True) :: aI w2.heap.size 3 (fun _ => True) :: aI w1.heap.size 3 (fun _ => True) :: aB w.heap.size ([.int .i64 d.Now, .int .i64 d.Seq, .slice t.a t.len t.cap, .slice l.a l.len l.cap].map Ce.v) :: aC cb s :: RT t d.Threads :: RL l d.Locks :: F) := h.toI 0 [(-1), 31, 32, 4611686018427387904] rfl rfl (fun _ _ => trivial)
                refine (s77 h 4 rfl hb).mono ?_
                rintro _ w69 ⟨n70, rfl, ⟨pn70a, pn70b⟩, h⟩
                refine ⟨n70, rfl, ?_⟩
                refine ⟨by omega, ?_⟩
                refine ⟨by omega, ?_⟩
                refine ⟨_, rfl, ?_⟩
                obtain ⟨k21, rfl⟩ := Int.eq_ofNat_of_zero_le pn70a
                rw [Int.toNat_natCast]
                refine h.rIx 0 rfl (by omega) (fun n72 pn72 => ?_)
                refine h.sI 1 rfl (by decide) trivial (fun w73 h => ?_)
                exact h.drop
              · skip
                try have hpos := hpos c20
                try have hlk := hlk c20
                try simp only [Bool.or_eq_true, Bool.and_eq_true, Bool.or_eq_false_iff, Bool.not_eq_true', Bool.not_eq_false', decide_eq_true_eq, decide_eq_false_iff_not, beq_iff_eq, beq_eq_false_iff_ne, bne_iff_ne, bne_eq_false_iff_eq, ne_eq] at c20
                exact h
            · clear h
              intro w56 h
              refine h.rI 0 rfl (by decide) (fun n57 pn57 => ?_)
              refine h.rI 0 rfl (by decide) (fun n58 pn58 => ?_)
              refine h.rI 0 rfl (by decide) (fun n59 pn59 => ?_)
              refine h.pI 1 [n57, n58, n59] rfl rfl rfl (fun _ _ => trivial) (fun w60 h => ?_)
              refine h.rI 1 rfl (by decide) (fun n61 pn61 => ?_)
              refine h.rI 1 rfl (by decide) (fun n62 pn62 => ?_)
              refine h.rI 1 rfl (by decide) (fun n63 pn63 => ?_)
              exact ⟨_, _, _, rfl, h.drop.drop.drop⟩
end Go.Proofs.Yteigefjiifihpaa

/- Draws: operations on a scheduler, one behind the other. Conditions: none. -/
set_option linter.unusedVariables false
set_option linter.unusedSimpArgs false
namespace Go.Proofs.Yteigefjiifihpaa
open Go Go.Den
abbrev RS3 (s : Sl) (l : List DSchedOp) : Asr := aRow s 3 (recs DSchedOp.cells l)
theorem plain_op (x : DSchedOp) : ∀ v, v ∈ x.cells → plainB v = true := by intro v hv; simp [DSchedOp.cells] at hv; rcases hv with rfl | rfl | rfl <;> rfl
theorem s119 {w0 w : World} {F : List Asr} {n : Nat} (h : SH w0 w F) (hn : n ≤ 100) :
    CallW Try.prog 119 #[.int .i64 (n : Int)] w (fun v w' => ∃ s ops, v = .slice s.a s.len s.cap ∧ ops.length ≤ 3 * n ∧ SH w0 w' (RS3 s ops :: F)) := by
  refine go119 ?_
  unfold W119
  refine h.alloc (fun w1 h e1 n1 => ?_)
  have h : SH w0 w1 (RS3 ⟨some ⟨w.heap.size, 0, none⟩, 0, 0⟩ [] :: F) := h.drop.nil _ 3
  refine LoopW.m2 (fun (s : Sl) (i : Int) w' => ∃ (m : Nat) (ops : List DSchedOp), i = m ∧ m ≤ n ∧ ops.length ≤ m ∧ SH w0 w' (RS3 s ops :: F)) (fun _ (i : Int) _ => (n - i).toNat) ⟨0, [], rfl, by omega, Nat.le_refl _, h⟩ ?_
  clear h
  rintro (s : Sl) (i : Int) w5 ⟨m, ops, rfl, hm, hl, h⟩ J hJ
  refine BIf.dec (fun hlt => ?_) (fun hge => ?_)
  · rw [w64 (by omega) (by omega)]
    refine LetW_iff.2 (SH.appendR1 (f := DSchedOp.cells) (x := ⟨1, 0, m⟩) h rfl rfl rfl (by decide) (by show _ * 24 ≤ _; omega) (plain_op _) (fun l7 w8 h hl7 _ => ?_))
    exact hJ _ _ _ ⟨m + 1, _, by omega, by omega, by rw [List.length_append]; simp; omega, h⟩ (by omega)
  clear hJ J
  have hl1 : ops.length ≤ n := by omega
  refine LoopW.m2 (fun (s : Sl) (i : Int) w' => ∃ (m : Nat) (ops : List DSchedOp), i = m ∧ m ≤ n ∧ ops.length ≤ n + m ∧ SH w0 w' (RS3 s ops :: F)) (fun _ (i : Int) _ => (n - i).toNat) ⟨0, ops, rfl, by omega, by omega, h⟩ ?_
  clear h
  rintro (s2 : Sl) (i : Int) w12 ⟨m2, ops2, rfl, hm2, hl2, h⟩ J hJ
  refine BIf.dec (fun hlt => ?_) (fun hge => ?_)
  · rw [w64 (by omega) (by omega)]
    refine LetW_iff.2 (SH.appendR1 (f := DSchedOp.cells) (x := ⟨4, m2, m2⟩) h rfl rfl rfl (by decide) (by show _ * 24 ≤ _; omega) (plain_op _) (fun l7 w8 h hl7 _ => ?_))
    exact hJ _ _ _ ⟨m2 + 1, _, by omega, by omega, by rw [List.length_append]; simp; omega, h⟩ (by omega)
  clear hJ J
  refine LoopW.m2 (fun (s : Sl) (i : Int) w' => ∃ (m : Nat) (ops : List DSchedOp), i = m ∧ m ≤ n ∧ ops.length ≤ 2 * n + m ∧ SH w0 w' (RS3 s ops :: F)) (fun _ (i : Int) _ => (n - i).toNat) ⟨0, ops2, rfl, by omega, by omega, h⟩ ?_
  clear h
  rintro (s3 : Sl) (i : Int) w19 ⟨m3, ops3, rfl, hm3, hl3, h⟩ J hJ
  refine BIf.dec (fun hlt => ?_) (fun hge => ?_)
  · rw [w64 (n := (m3 : Int) + 1) (by omega) (by omega)]
    refine ⟨by omega, ?_⟩
    refine LetW_iff.2 (SH.appendR1 (f := DSchedOp.cells) (x := ⟨4, m3, Int.tmod ((m3 : Int) + 1) n⟩) h rfl rfl rfl (by decide) (by show _ * 24 ≤ _; omega) (plain_op _) (fun l7 w8 h hl7 _ => ?_))
    exact hJ _ _ _ ⟨m3 + 1, _, by omega, by omega, by rw [List.length_append]; simp; omega, h⟩ (by omega)
  · exact ⟨s3, ops3, rfl, by omega, h⟩
/-- A state on the way, after k steps. -/
structure Way (k : Nat) (e : DSched) : Prop where
  inv : Inv0 e
  now : e.Now ≤ k
  seq : e.Seq ≤ 33 * k
theorem Way.step {k : Nat} {e : DSched} (h : Way k e) (hk : k ≤ 1000000) (a b c : Int) : Way (k + 1) (stepF e a b c).1 := by
  have h1 := h.now
  have h2 := h.seq
  obtain ⟨g1, g2, g3⟩ := h.inv.step (by omega) a b c
  exact ⟨g1, by omega, by omega⟩
theorem way0 : Way 0 zeroS := ⟨zero_inv, by decide, by decide⟩
abbrev BSt (b : Nat) (e : DSched) (t l : Sl) : Asr := aB b ((sCells e.Now e.Seq t l).map Ce.v)
theorem s76 {w0 w : World} {F : List Asr} {cb : Nat} {s : Sl} {n : Int} (h : SH w0 w (aC cb s :: F)) (hb : CurB w0 s) (hn : 0 ≤ n ∧ n ≤ 100) :
    CallW Try.prog 76 #[.pointer (some ⟨cb, 0, none⟩), .int .i64 n] w (fun v w' => ∃ (e : DSched) (t l o : Sl) (ops : List DSchedOp), v = .tuple #[sAgg e.Now e.Seq t l, .slice o.a o.len o.cap] ∧ Way 3012 e ∧ ops.length ≤ 3012 ∧ SH w0 w' (RS3 o ops :: aC cb s :: RT t e.Threads :: RL l e.Locks :: F)) := by
  refine go76 ?_
  unfold W76
  refine h.alloc (fun w1 h e1 n1 => ?_)
  refine h.alloc (fun w2 h e2 n2 => ?_)
  refine h.put 0 rfl rfl rfl (fun w3 h n3 => ?_)
  refine h.alloc (fun w4 h e4 n4 => ?_)
  have h : SH w0 w4 (RS3 ⟨some ⟨w3.heap.size, 0, none⟩, 0, 0⟩ [] :: aC cb s :: RT ⟨none, 0, 0⟩ zeroS.Threads :: RL ⟨none, 0, 0⟩ zeroS.Locks :: BSt w1.heap.size zeroS ⟨none, 0, 0⟩ ⟨none, 0, 0⟩ :: aB w.heap.size (ZS.map Ce.v) :: F) := ((((SH.nil (SH.nil (h.drop.nil (some ⟨w3.heap.size, 0, none⟩) 3) none 2) none 8).front (n := 5) rfl).front (n := 3) rfl))
  refine JoinW.cut1 (fun (l5 : Sl) w' => ∃ (k : Nat) (e : DSched) (ops : List DSchedOp) (t l : Sl), k ≤ 12 ∧ Way k e ∧ ops.length ≤ 12 ∧ SH w0 w' (RS3 l5 ops :: aC cb s :: RT t e.Threads :: RL l e.Locks :: BSt w1.heap.size e t l :: aB w.heap.size (ZS.map Ce.v) :: F)) ?_ ?_
  · refine (s78 h 1 rfl hb).mono ?_
    rintro _ w77 ⟨b78, rfl, h⟩
    refine ⟨b78, rfl, BIf.of (fun hb1 => ?_) (fun hb1 => ⟨0, zeroS, [], _, _, by omega, way0, by simp, h⟩)⟩
    refine (s77 h 1 rfl hb).mono ?_
    rintro _ w80 ⟨n81, rfl, hn81, h⟩
    obtain ⟨m81, rfl⟩ := Int.eq_ofNat_of_zero_le hn81.1
    have hm81 : m81 ≤ 2 := by have := hn81.2; omega
    refine ⟨_, rfl, ?_⟩
    rw [w64 (n := 2 + (m81 : Int)) (by omega) (by omega), show (2 : Int) + m81 = ((2 + m81 : Nat) : Int) by omega]
    refine (s119 (n := 2 + m81) h.drop (by omega)).mono ?_
    rintro _ w83 ⟨l84, cops, rfl, hcl, h⟩
    have hll := h.len 0 rfl
    rw [recs_len] at hll
    refine ⟨l84, rfl, ?_⟩
    refine LoopW.m1 (fun (i : Int) w' => ∃ (k : Nat) (e : DSched) (t l : Sl), i = k ∧ k ≤ cops.length ∧ Way k e ∧ SH w0 w' (RS3 l84 cops :: aC cb s :: RT t e.Threads :: RL l e.Locks :: BSt w1.heap.size e t l :: aB w.heap.size (ZS.map Ce.v) :: F)) (fun (i : Int) _ => (cops.length - i).toNat) ⟨0, zeroS, _, _, rfl, by omega, way0, h⟩ ?_
    clear h
    rintro (i : Int) w87 ⟨k, e, t, l, rfl, hk, hway, h⟩ J hJ
    refine BIf.dec (fun hlt => ?_) (fun hge => ?_)
    · have hget : cops[k]? = some cops[k] := List.getElem?_eq_getElem (by omega)
      generalize cops[k] = op at *
      have hw2 := hway.step (by omega) op.Kind op.Id op.N
      have hie := hway.inv
      have hen := hway.now
      have hes := hway.seq
      obtain ⟨q, hqa⟩ := h.rowQ 0 rfl hget
      simp only [Int.toNat_natCast]
      rw [w64 (n := (k : Int) + 1) (by omega) (by omega)]
      refine JoinW.cut1 (fun (p : Option Addr) w' => ∃ (b : Nat) (t' l' : Sl), p = some ⟨b, 0, none⟩ ∧ SH w0 w' (BSt b (stepF e op.Kind op.Id op.N).1 t' l' :: RS3 l84 cops :: aC cb s :: RT t' (stepF e op.Kind op.Id op.N).1.Threads :: RL l' (stepF e op.Kind op.Id op.N).1.Locks :: BSt w1.heap.size e t l :: aB w.heap.size (ZS.map Ce.v) :: F)) ?_ ?_
      · have h := h.drew
        refine ⟨_, h.cell 4 rfl rfl, _, h.cell 4 rfl rfl, t, h.cell 4 rfl rfl, l, h.cell 4 rfl rfl, by omega, by omega, q, hqa, _, h.rdR 0 rfl hqa hget rfl, _, h.rdR 0 rfl hqa hget rfl, _, h.rdR 0 rfl hqa hget rfl, ?_⟩
        refine ⟨?_, ?_⟩
        · skip
          refine (s61 ((h.front (n := 3) rfl).front (n := 3) rfl) hie (by omega) (by omega)).mono ?_
          rintro _ w194 ⟨tw194, lw194, rfl, h⟩
          refine ⟨_, _, tw194, lw194, _, _, rfl, ?_⟩
          refine ⟨?_, ?_⟩
          · skip
            refine h.alloc (fun w219 h ew219 nw219 => ?_)
            refine ⟨⟨_, h.rdR 3 rfl hqa hget rfl, _, h.rdR 3 rfl hqa hget rfl, _, h.rdR 3 rfl hqa hget rfl, rfl⟩, ?_⟩
            refine ⟨⟨_, h.cell 5 rfl rfl, _, h.cell 5 rfl rfl, t, h.cell 5 rfl rfl, l, h.cell 5 rfl rfl, rfl⟩, ?_⟩
            refine ⟨?_, trivial⟩
            refine h.alloc (fun w227 h ew227 nw227 => ?_)
            refine ⟨⟨_, h.rdR 4 rfl hqa hget rfl, _, h.rdR 4 rfl hqa hget rfl, _, h.rdR 4 rfl hqa hget rfl, rfl⟩, ?_⟩
            refine ⟨⟨_, h.cell 6 rfl rfl, _, h.cell 6 rfl rfl, t, h.cell 6 rfl rfl, l, h.cell 6 rfl rfl, rfl⟩, ?_⟩
            refine ⟨?_, trivial⟩
            refine h.put 1 rfl rfl rfl (fun w235 h nw235 => ?_)
            refine ⟨?_, trivial⟩
            refine h.put 0 rfl rfl rfl (fun w236 h nw236 => ?_)
            exact ⟨_, tw194, lw194, rfl, ((((((((h.dropAt 0).front (n := 6) rfl).front (n := 6) rfl).front (n := 4) rfl).front (n := 4) rfl).front (n := 6) rfl).front (n := 6) rfl).front (n := 6) rfl)⟩
          · skip
            refine ⟨?_, trivial⟩
            refine h.alloc (fun w201 h ew201 nw201 => ?_)
            refine ⟨⟨_, h.rdR 3 rfl hqa hget rfl, _, h.rdR 3 rfl hqa hget rfl, _, h.rdR 3 rfl hqa hget rfl, rfl⟩, ?_⟩
            refine ⟨⟨_, h.cell 5 rfl rfl, _, h.cell 5 rfl rfl, t, h.cell 5 rfl rfl, l, h.cell 5 rfl rfl, rfl⟩, ?_⟩
            refine ⟨?_, trivial⟩
            refine h.alloc (fun w209 h ew209 nw209 => ?_)
            refine ⟨⟨_, h.rdR 4 rfl hqa hget rfl, _, h.rdR 4 rfl hqa hget rfl, _, h.rdR 4 rfl hqa hget rfl, rfl⟩, ?_⟩
            refine ⟨⟨_, h.cell 6 rfl rfl, _, h.cell 6 rfl rfl, t, h.cell 6 rfl rfl, l, h.cell 6 rfl rfl, rfl⟩, ?_⟩
            refine ⟨?_, trivial⟩
            refine h.put 0 rfl rfl rfl (fun w217 h nw217 => ?_)
            refine ⟨?_, trivial⟩
            refine h.put 1 rfl rfl rfl (fun w218 h nw218 => ?_)
            exact ⟨_, tw194, lw194, rfl, ((((((((h.dropAt 1).front (n := 6) rfl).front (n := 6) rfl).front (n := 4) rfl).front (n := 4) rfl).front (n := 6) rfl).front (n := 6) rfl).front (n := 6) rfl)⟩
        · skip
          refine ⟨?_, ?_⟩
          · skip
            refine h.alloc (fun w149 h ew149 nw149 => ?_)
            refine ⟨⟨_, h.rdR 1 rfl hqa hget rfl, _, h.rdR 1 rfl hqa hget rfl, _, h.rdR 1 rfl hqa hget rfl, rfl⟩, ?_⟩
            refine ⟨⟨_, h.cell 5 rfl rfl, _, h.cell 5 rfl rfl, t, h.cell 5 rfl rfl, l, h.cell 5 rfl rfl, rfl⟩, ?_⟩
            refine ⟨?_, ?_⟩
            · skip
              refine (s61 ((h.front (n := 4) rfl).front (n := 4) rfl) hie (by omega) (by omega)).mono ?_
              rintro _ w176 ⟨tw176, lw176, rfl, h⟩
              refine ⟨_, _, tw176, lw176, _, _, rfl, ?_⟩
              refine ⟨?_, trivial⟩
              refine h.alloc (fun w183 h ew183 nw183 => ?_)
              refine ⟨⟨_, h.rdR 4 rfl hqa hget rfl, _, h.rdR 4 rfl hqa hget rfl, _, h.rdR 4 rfl hqa hget rfl, rfl⟩, ?_⟩
              refine ⟨⟨_, h.cell 6 rfl rfl, _, h.cell 6 rfl rfl, t, h.cell 6 rfl rfl, l, h.cell 6 rfl rfl, rfl⟩, ?_⟩
              refine ⟨?_, trivial⟩
              refine h.put 3 rfl rfl rfl (fun w191 h nw191 => ?_)
              refine ⟨?_, trivial⟩
              refine h.put 0 rfl rfl rfl (fun w192 h nw192 => ?_)
              exact ⟨_, tw176, lw176, rfl, ((((((((h.dropAt 0).front (n := 6) rfl).front (n := 6) rfl).front (n := 3) rfl).front (n := 3) rfl).front (n := 6) rfl).front (n := 6) rfl).front (n := 6) rfl)⟩
            · skip
              refine ⟨?_, trivial⟩
              refine h.alloc (fun w157 h ew157 nw157 => ?_)
              refine ⟨⟨_, h.rdR 2 rfl hqa hget rfl, _, h.rdR 2 rfl hqa hget rfl, _, h.rdR 2 rfl hqa hget rfl, rfl⟩, ?_⟩
              refine ⟨⟨_, h.cell 6 rfl rfl, _, h.cell 6 rfl rfl, t, h.cell 6 rfl rfl, l, h.cell 6 rfl rfl, rfl⟩, ?_⟩
              refine ⟨?_, trivial⟩
              refine (s61 ((h.front (n := 5) rfl).front (n := 5) rfl) hie (by omega) (by omega)).mono ?_
              rintro _ w166 ⟨tw166, lw166, rfl, h⟩
              refine ⟨_, _, tw166, lw166, _, _, rfl, ?_⟩
              refine ⟨?_, trivial⟩
              refine h.put 3 rfl rfl rfl (fun w173 h nw173 => ?_)
              refine ⟨?_, trivial⟩
              refine h.put 2 rfl rfl rfl (fun w174 h nw174 => ?_)
              exact ⟨_, tw166, lw166, rfl, ((((((((h.dropAt 2).front (n := 6) rfl).front (n := 6) rfl).front (n := 3) rfl).front (n := 3) rfl).front (n := 6) rfl).front (n := 6) rfl).front (n := 6) rfl)⟩
          · skip
            refine ⟨?_, trivial⟩
            refine h.alloc (fun w105 h ew105 nw105 => ?_)
            refine ⟨⟨_, h.rdR 1 rfl hqa hget rfl, _, h.rdR 1 rfl hqa hget rfl, _, h.rdR 1 rfl hqa hget rfl, rfl⟩, ?_⟩
            refine ⟨⟨_, h.cell 5 rfl rfl, _, h.cell 5 rfl rfl, t, h.cell 5 rfl rfl, l, h.cell 5 rfl rfl, rfl⟩, ?_⟩
            refine ⟨?_, ?_⟩
            · skip
              refine (s61 ((h.front (n := 4) rfl).front (n := 4) rfl) hie (by omega) (by omega)).mono ?_
              rintro _ w132 ⟨tw132, lw132, rfl, h⟩
              refine ⟨_, _, tw132, lw132, _, _, rfl, ?_⟩
              refine ⟨?_, trivial⟩
              refine h.alloc (fun w139 h ew139 nw139 => ?_)
              refine ⟨⟨_, h.rdR 4 rfl hqa hget rfl, _, h.rdR 4 rfl hqa hget rfl, _, h.rdR 4 rfl hqa hget rfl, rfl⟩, ?_⟩
              refine ⟨⟨_, h.cell 6 rfl rfl, _, h.cell 6 rfl rfl, t, h.cell 6 rfl rfl, l, h.cell 6 rfl rfl, rfl⟩, ?_⟩
              refine ⟨?_, trivial⟩
              refine h.put 0 rfl rfl rfl (fun w147 h nw147 => ?_)
              refine ⟨?_, trivial⟩
              refine h.put 3 rfl rfl rfl (fun w148 h nw148 => ?_)
              exact ⟨_, tw132, lw132, rfl, ((((((((h.dropAt 3).front (n := 6) rfl).front (n := 6) rfl).front (n := 4) rfl).front (n := 4) rfl).front (n := 6) rfl).front (n := 6) rfl).front (n := 6) rfl)⟩
            · skip
              refine ⟨?_, trivial⟩
              refine h.alloc (fun w113 h ew113 nw113 => ?_)
              refine ⟨⟨_, h.rdR 2 rfl hqa hget rfl, _, h.rdR 2 rfl hqa hget rfl, _, h.rdR 2 rfl hqa hget rfl, rfl⟩, ?_⟩
              refine ⟨⟨_, h.cell 6 rfl rfl, _, h.cell 6 rfl rfl, t, h.cell 6 rfl rfl, l, h.cell 6 rfl rfl, rfl⟩, ?_⟩
              refine ⟨?_, trivial⟩
              refine (s61 ((h.front (n := 5) rfl).front (n := 5) rfl) hie (by omega) (by omega)).mono ?_
              rintro _ w122 ⟨tw122, lw122, rfl, h⟩
              refine ⟨_, _, tw122, lw122, _, _, rfl, ?_⟩
              refine ⟨?_, trivial⟩
              refine h.put 2 rfl rfl rfl (fun w129 h nw129 => ?_)
              refine ⟨?_, trivial⟩
              refine h.put 3 rfl rfl rfl (fun w130 h nw130 => ?_)
              exact ⟨_, tw122, lw122, rfl, ((((((((h.dropAt 3).front (n := 6) rfl).front (n := 6) rfl).front (n := 3) rfl).front (n := 3) rfl).front (n := 6) rfl).front (n := 6) rfl).front (n := 6) rfl)⟩
      · rintro (p : Option Addr) w90 ⟨b, t', l', rfl, h⟩
        refine addrOf_mk ?_
        refine ⟨_, h.cellP 0 rfl rfl, _, h.cellP 0 rfl rfl, t', h.cellP 0 rfl rfl, l', h.cellP 0 rfl rfl, ?_⟩
        refine h.put 5 rfl rfl rfl (fun w96 h n96 => ?_)
        exact hJ _ _ ⟨k + 1, _, t', l', by omega, by omega, hw2, h.drop⟩ (by omega)
    · exact ⟨k, e, cops, t, l, by omega, hway, by omega, h⟩
  clear h
  rintro (l5 : Sl) w7 ⟨k0, e0, ops0, t0, l0, hk0, hway0, hops0, h⟩
  refine LoopW.m2 (fun (l8 : Sl) (i : Int) w' => ∃ (m k : Nat) (e : DSched) (ops : List DSchedOp) (t l : Sl), i = m ∧ (m : Int) ≤ n ∧ k ≤ 12 + 30 * m ∧ Way k e ∧ ops.length ≤ 12 + 30 * m ∧ SH w0 w' (RS3 l8 ops :: aC cb s :: RT t e.Threads :: RL l e.Locks :: BSt w1.heap.size e t l :: aB w.heap.size (ZS.map Ce.v) :: F)) (fun _ (i : Int) _ => (n - i).toNat) ⟨0, k0, e0, ops0, t0, l0, rfl, by omega, by omega, hway0, by omega, h⟩ ?_
  clear h
  rintro (l8 : Sl) (i : Int) w11 ⟨m, k, e, ops, t, l, rfl, hm, hk, hway, hops, h⟩ J hJ
  refine BIf.dec (fun hlt => ?_) (fun hge => ?_)
  · have hf := hway.inv.few
    refine ⟨_, h.cell 4 rfl rfl, _, h.cell 4 rfl rfl, t, h.cell 4 rfl rfl, l, h.cell 4 rfl rfl, ?_⟩
    refine (s87 (F := RS3 l8 ops :: BSt w1.heap.size e t l :: aB w.heap.size (ZS.map Ce.v) :: F) (((h.front (n := 3) rfl).front (n := 3) rfl).front (n := 3) rfl) hb ⟨by omega, by omega⟩).mono ?_
    rintro _ w17 ⟨x, y, z, rfl, h⟩
    have h : SH w0 w17 (RS3 l8 ops :: aC cb s :: RT t e.Threads :: RL l e.Locks :: BSt w1.heap.size e t l :: aB w.heap.size (ZS.map Ce.v) :: F) := h.front (n := 3) rfl
    refine ⟨x, y, z, rfl, ?_⟩
    refine h.alloc (fun w21 h e21 n21 => ?_)
    refine h.put 0 rfl rfl rfl (fun w22 h n22 => ?_)
    have h : SH w0 w22 (RS3 l8 ops :: aC cb s :: RT t e.Threads :: RL l e.Locks :: BSt w1.heap.size e t l :: aB w17.heap.size ([Value.int .i64 x, .int .i64 y, .int .i64 z].map Ce.v) :: aB w.heap.size (ZS.map Ce.v) :: F) := ((((h.front (n := 5) rfl).front (n := 5) rfl).front (n := 5) rfl).front (n := 5) rfl).front (n := 5) rfl
    refine JoinW.cut1 (fun (r : Int) w' => (0 ≤ r ∧ r ≤ 30) ∧ SH w0 w' (RS3 l8 ops :: aC cb s :: RT t e.Threads :: RL l e.Locks :: BSt w1.heap.size e t l :: aB w17.heap.size ([Value.int .i64 x, .int .i64 y, .int .i64 z].map Ce.v) :: aB w.heap.size (ZS.map Ce.v) :: F)) ?_ ?_
    · refine ⟨_, h.cell 5 rfl rfl, BIf.of (fun h3 => ?_) (fun h3 => ⟨by omega, h⟩)⟩
      refine (s77 h 1 rfl hb).mono ?_
      rintro _ w62 ⟨n63, rfl, hn63, h⟩
      refine ⟨n63, rfl, (s78 h 1 rfl hb).mono ?_⟩
      rintro _ w65 ⟨b66, rfl, h⟩
      obtain ⟨ha, hc⟩ := hn63
      refine ⟨b66, rfl, BIf.of (fun _ => ⟨by omega, h⟩) (fun _ => ⟨?_, h⟩)⟩
      rw [w64 (by omega) (by omega)]; omega
    clear h
    rintro (r : Int) w25 ⟨hr, h⟩
    refine LoopW.m2 (fun (l26 : Sl) (i : Int) w' => ∃ (m2 k2 : Nat) (e : DSched) (ops2 : List DSchedOp) (t l : Sl), i = m2 ∧ (m2 : Int) ≤ r ∧ k2 ≤ k + m2 ∧ Way k2 e ∧ ops2.length ≤ ops.length + m2 ∧ SH w0 w' (RS3 l26 ops2 :: aC cb s :: RT t e.Threads :: RL l e.Locks :: BSt w1.heap.size e t l :: aB w17.heap.size ([Value.int .i64 x, .int .i64 y, .int .i64 z].map Ce.v) :: aB w.heap.size (ZS.map Ce.v) :: F)) (fun _ (i : Int) _ => (r - i).toNat) ⟨0, k, e, ops, t, l, rfl, by omega, by omega, hway, by omega, h⟩ ?_
    clear h
    rintro (l26 : Sl) (i : Int) w29 ⟨m2, k2, e2, ops2, t2, l2, rfl, hm2, hk2, hway2, hops2, h⟩ J2 hJ2
    refine BIf.dec (fun hlt2 => ?_) (fun hge2 => ?_)
    · have hw3 := hway2.step (by omega) x y z
      have hen := hway2.now
      have hes := hway2.seq
      refine ⟨_, h.cell 4 rfl rfl, _, h.cell 4 rfl rfl, t2, h.cell 4 rfl rfl, l2, h.cell 4 rfl rfl, _, h.cell 5 rfl rfl, _, h.cell 5 rfl rfl, _, h.cell 5 rfl rfl, ?_⟩
      refine (s61 ((h.front (n := 3) rfl).front (n := 3) rfl) hway2.inv (by omega) (by omega)).mono ?_
      rintro _ w38 ⟨t3, l3, rfl, h⟩
      refine ⟨_, _, t3, l3, _, _, rfl, ?_⟩
      refine h.alloc (fun w45 h e45 n45 => ?_)
      refine h.alloc (fun w46 h e46 n46 => ?_)
      refine h.put 1 rfl rfl rfl (fun w47 h n47 => ?_)
      refine h.put 0 rfl rfl rfl (fun w48 h n48 => ?_)
      refine ⟨_, h.cell 1 rfl rfl, _, h.cell 1 rfl rfl, t3, h.cell 1 rfl rfl, l3, h.cell 1 rfl rfl, ?_⟩
      refine h.put 6 rfl rfl rfl (fun w53 h n53 => ?_)
      refine ⟨_, h.cell 7 rfl rfl, _, h.cell 7 rfl rfl, _, h.cell 7 rfl rfl, ?_⟩
      rw [w64 (n := (m2 : Int) + 1) (by omega) (by omega)]
      refine LetW_iff.2 (SH.appendR1 (f := DSchedOp.cells) (x := ⟨x, y, z⟩) (((h.dropAt 1).dropAt 0).front (n := 2) rfl) rfl rfl rfl (by decide) (by show _ * 24 ≤ _; omega) (plain_op _) (fun l58 w59 h hl58 _ => ?_))
      refine hJ2 _ _ _ ⟨m2 + 1, k2 + 1, (stepF e2 x y z).1, ops2 ++ [⟨x, y, z⟩], t3, l3, by omega, by omega, by omega, hw3, by rw [List.length_append]; simp; omega, ?_⟩ (by omega)
      exact ((h.front (n := 3) rfl).front (n := 1) rfl)
    · refine (by rw [w64 (n := (m : Int) + 1) (by omega) (by omega)]; exact hJ _ _ _ ⟨m + 1, k2, e2, ops2, t2, l2, by omega, by omega, by omega, hway2, by omega, h.dropAt 5⟩ (by omega))
  · refine ⟨_, h.cell 4 rfl rfl, _, h.cell 4 rfl rfl, t, h.cell 4 rfl rfl, l, h.cell 4 rfl rfl, ?_⟩
    refine h.put 5 rfl rfl rfl (fun w71 h n71 => ?_)
    refine ⟨_, h.cell 5 rfl rfl, _, h.cell 5 rfl rfl, t, h.cell 5 rfl rfl, l, h.cell 5 rfl rfl, ?_⟩
    have hn0 := hway.now
    have hs0 := hway.seq
    exact ⟨e, t, l, l8, ops, rfl, ⟨hway.inv, by omega, by omega⟩, by omega, (h.dropAt 5).dropAt 4⟩
end Go.Proofs.Yteigefjiifihpaa

/- Draws: what a run of the scheduler is drawn to be. Conditions: none. -/
set_option linter.unusedVariables false
set_option linter.unusedSimpArgs false
namespace Go.Proofs.Yteigefjiifihpaa
open Go Go.Den
theorem s30 {w : World} {s : Sl} (hb : CurB w s) :
    CallW Try.prog 30 #[.slice s.a s.len s.cap] w (fun v w' => ∃ (o : Sl) (ops : List DSchedOp), v = .slice o.a o.len o.cap ∧ ops.length ≤ 4097 ∧ SH w w' [RS3 o ops]) := by
  refine go30 ?_
  unfold W30
  refine (s75 (SH.start w) hb).mono ?_
  rintro _ w2 ⟨cb, rfl, h⟩
  refine ⟨_, rfl, (s77 h 0 rfl hb).mono ?_⟩
  rintro _ w5 ⟨n6, rfl, ⟨ha, hc⟩, h⟩
  refine ⟨n6, rfl, ?_⟩
  rw [w64 (n := 4 + n6) (by omega) (by omega)]
  refine (s76 h hb ⟨by omega, by omega⟩).mono ?_
  rintro _ w8 ⟨e, t, l, o, ops, rfl, hway, hops, h⟩
  refine ⟨_, _, t, l, o, rfl, ?_⟩
  refine h.alloc (fun w14 h e14 n14 => ?_)
  refine h.put 0 rfl rfl rfl (fun w15 h n15 => ?_)
  refine (s78 h 2 rfl hb).mono ?_
  rintro _ w17 ⟨b18, rfl, h⟩
  have h : SH w w17 [RS3 o ops, aC cb s] := ((h.dropAt 4).dropAt 3).dropAt 0
  refine ⟨b18, rfl, BIf.of (fun _ => ?_) (fun _ => ⟨o, ops, rfl, by omega, h.dropAt 1⟩)⟩
  refine LoopW.m1 (fun (l19 : Sl) w' => ∃ ops : List DSchedOp, l19.len = ops.length ∧ ops.length ≤ 4097 ∧ SH w w' [RS3 l19 ops, aC cb s]) (fun (l19 : Sl) _ => 5000 - l19.len) ⟨ops, by have := h.len 0 rfl; rwa [recs_len] at this, by omega, h⟩ ?_
  clear h
  rintro (l19 : Sl) w21 ⟨ops2, hll, hops2, h⟩ J hJ
  refine (s77 h 1 rfl hb).mono ?_
  rintro _ w23 ⟨n24, rfl, ⟨ga, gc⟩, h⟩
  refine ⟨n24, rfl, ?_⟩
  rw [w64 (n := 4096 + n24) (by omega) (by omega)]
  refine BIf.dec (fun hlt => ?_) (fun hge => ⟨l19, ops2, rfl, hops2, h.dropAt 1⟩)
  refine LetW_iff.2 (SH.appendR1 (f := DSchedOp.cells) (x := ⟨3, 0, 0⟩) h rfl rfl rfl (by decide) (by show _ * 24 ≤ _; omega) (plain_op _) (fun l26 w27 h hl26 _ => ?_))
  exact hJ _ _ ⟨_, by rw [List.length_append]; simpa using hl26, by rw [List.length_append]; simp; omega, h⟩ (by omega)
end Go.Proofs.Yteigefjiifihpaa

/- FnSchedFree: who is needed in the end; the bytes of a draw. Conditions: none. -/
set_option linter.unusedVariables false
set_option linter.unusedSimpArgs false
namespace Go.Proofs.Yteigefjiifihpaa
open Go Go.Den
theorem curb_of {bs : List Int} {w : World} {s : Sl} (h : IsD w (.sl 1 (bs.map (Dat.int .u8))) [.slice s.a s.len s.cap]) (hl : s.len ≤ 1048576) : CurB w s := by
  refine ⟨hl, fun k hk => ?_⟩
  have hlen := (isD_len h).1
  have hget : bs[k]? = some bs[k] := List.getElem?_eq_getElem (by omega)
  obtain ⟨p, es, hp, _, hc, hi⟩ := isD_elem h hget
  obtain ⟨rfl, hwf⟩ := isD_int hi
  have h0 := hc 0 _ rfl
  refine ⟨p, _, hp, h0, ?_⟩
  simp [Lit.wf, IntKind.min, IntKind.max, IntKind.signed, IntKind.bits] at hwf
  omega
/-- How many are of less rank. -/
def below_ (r : Int → Nat) (d : DSched) (a : Int) : Nat := (d.Threads.filter (fun y => decide (r y.Id < r a))).length
def waitIn (l : List DThread) (id : Int) : Int := match l.find? (fun t => t.Id == id) with
  | some t => t.Wait
  | none => -1
theorem waitIn_step {l : List DThread} (hs : Srt DThread.Id l) {m : Nat} {x : DThread} (hx : l[m]? = some x) (id : Int) : waitIn (l.take (m + 1)) id = if x.Id = id then x.Wait else waitIn (l.take m) id := by
  unfold waitIn
  rw [List.take_add_one, hx, List.find?_append]
  by_cases h : x.Id = id
  · rw [if_pos h]
    have hn : (l.take m).find? (fun t => t.Id == id) = none := by
      refine List.find?_eq_none.2 (fun y hy => ?_)
      obtain ⟨j, hj⟩ := List.getElem?_of_mem hy
      have hjm : j < m := by have := (List.getElem?_eq_some_iff.1 hj).1; rw [List.length_take] at this; omega
      rw [List.getElem?_take_of_lt hjm] at hj
      have := hs.lt hj hx hjm
      simp; omega
    rw [hn]
    simp [h]
  · rw [if_neg h]
    rcases hf : (l.take m).find? (fun t => t.Id == id) with _ | y
    · simp [h]
    · rw [hf]; rfl
theorem waitIn_at {l : List DThread} (hs : Srt DThread.Id l) {x : DThread} (hx : x ∈ l) : waitIn l x.Id = x.Wait := by
  unfold waitIn
  rw [hs.find hx]
def ownIn (l : List DLock) (id o : Int) : Int := match l.find? (fun t => t.Id == id) with
  | some t => t.Owner
  | none => o
theorem ownIn_step {l : List DLock} (hs : Srt DLock.Id l) {m : Nat} {x : DLock} (hx : l[m]? = some x) (id o : Int) : ownIn (l.take (m + 1)) id o = if x.Id = id then x.Owner else ownIn (l.take m) id o := by
  unfold ownIn
  rw [List.take_add_one, hx, List.find?_append]
  by_cases h : x.Id = id
  · rw [if_pos h]
    have hn : (l.take m).find? (fun t => t.Id == id) = none := by
      refine List.find?_eq_none.2 (fun y hy => ?_)
      obtain ⟨j, hj⟩ := List.getElem?_of_mem hy
      have hjm : j < m := by have := (List.getElem?_eq_some_iff.1 hj).1; rw [List.length_take] at this; omega
      rw [List.getElem?_take_of_lt hjm] at hj
      have := hs.lt hj hx hjm
      simp; omega
    rw [hn]
    simp [h]
  · rw [if_neg h]
    rcases hf : (l.take m).find? (fun t => t.Id == id) with _ | y
    · simp [h]
    · rw [hf]; rfl
/-- One step in a way of waiting. -/
theorem wait_next {d : DSched} (h : Inv0 d) {x : DThread} (hx : x ∈ d.Threads) (hw : ¬ x.Wait < 0) : ∃ k z, k ∈ d.Locks ∧ k.Id = x.Wait ∧ z ∈ d.Threads ∧ k.Owner = z.Id ∧ x.State = 2 := by
  have hs : x.State = 2 ∧ ∃ k, k ∈ d.Locks ∧ k.Id = x.Wait := by
    rcases (h.tok x hx).st with g | ⟨g1, _, g2⟩ | g
    · omega
    · exact ⟨g1, g2⟩
    · omega
  obtain ⟨hs, k, hk, hkw⟩ := hs
  rcases h.own k hk with hf | ⟨z, hz, hzo⟩
  · exact hf.elim
  · exact ⟨k, z, hk, hkw, hz, hzo.symm, hs⟩
/-- Who is needed in the end: one who does not wait. -/
theorem c32 {t l : Sl} {d : DSched} {x : DThread} {w : World} (hs : SAt w t l d) (hi : Inv0 d) (hx : x ∈ d.Threads) : CallW Try.prog 32 #[sAgg d.Now d.Seq t l, .int .i64 x.Id] w (fun v w' => (∃ y, y ∈ d.Threads ∧ v = .int .i64 y.Id ∧ y.Wait < 0 ∧ y.State ≠ 2 ∧ (∀ R : DThread → Prop, R x → (∀ a b k, a ∈ d.Threads → b ∈ d.Threads → k ∈ d.Locks → a.State = 2 → k.Id = a.Wait → k.Owner = b.Id → R a → R b) → R y)) ∧ Ext w w') := by
  refine go32 ?_
  unfold W32
  have htl := hs.tl
  have hll := hs.ll
  have hfew := hi.few
  have h := SH.start w
  refine h.alloc (fun w1 h e1 n1 => ?_)
  have hs := hs.ext h.ext
  obtain ⟨r, hr⟩ := hi.rank
  have hm0 : below_ r d x.Id ≤ 31 := by
    have := filter_lt (p := fun y : DThread => decide (r y.Id < r x.Id)) (q := fun _ => true) d.Threads (fun _ _ _ => rfl) ⟨x, hx, decide_eq_false (by omega), rfl⟩
    rw [List.filter_eq_self.2 (fun _ _ => rfl)] at this
    unfold below_; omega
  refine LoopW.m2 (fun (a i : Int) w' => ∃ (m : Nat) (z : DThread), i = m ∧ z ∈ d.Threads ∧ a = z.Id ∧ m + below_ r d z.Id ≤ 31 ∧ (∀ R : DThread → Prop, R x → (∀ a b k, a ∈ d.Threads → b ∈ d.Threads → k ∈ d.Locks → a.State = 2 → k.Id = a.Wait → k.Owner = b.Id → R a → R b) → R z) ∧ w' = w1) (fun _ (i : Int) _ => (40 - i).toNat) ⟨0, x, rfl, hx, rfl, by omega, fun R h1 _ => h1, rfl⟩ ?_
  rintro (a : Int) (i : Int) w5 ⟨m, z, rfl, hz, rfl, hm, hR, rfl⟩ J hJ
  refine BIf.dec (fun hle => ?_) (fun hgt => absurd (by omega) hgt)
  refine LoopW.m2 (fun (u i : Int) w' => ∃ k : Nat, i = k ∧ k ≤ d.Threads.length ∧ u = waitIn (d.Threads.take k) z.Id ∧ w' = w5) (fun _ (i : Int) _ => (d.Threads.length - i).toNat) ⟨0, rfl, by omega, rfl, rfl⟩ ?_
  rintro (u : Int) (i : Int) w9 ⟨k, rfl, hk, rfl, rfl⟩ J2 hJ2
  refine ⟨t, h.cell 0 rfl rfl, BIf.dec (fun hlt => ?_) (fun hge => ?_)⟩
  · have hget : d.Threads[k]? = some d.Threads[k] := List.getElem?_eq_getElem (by omega)
    have hst := waitIn_step hi.ts hget z.Id
    generalize d.Threads[k] = y at *
    obtain ⟨p, hp, hc⟩ := hs.thr hget
    simp only [Int.toNat_natCast]
    rw [w64 (n := (k : Int) + 1) (by omega) (by omega)]
    refine ⟨t, h.cell 0 rfl rfl, by omega, by omega, p, hp, _, hc 0 _ rfl, BIf.eq (fun he => ?_) (fun he => ?_)⟩
    · rw [if_pos he] at hst
      exact ⟨t, h.cell 0 rfl rfl, by omega, by omega, p, hp, _, hc 7 _ rfl, hJ2 _ _ _ ⟨k + 1, by omega, by omega, hst.symm, rfl⟩ (by omega)⟩
    · rw [if_neg he] at hst
      exact hJ2 _ _ _ ⟨k + 1, by omega, by omega, hst.symm, rfl⟩ (by omega)
  · rw [show k = d.Threads.length by omega, List.take_length, waitIn_at hi.ts hz]
    clear hJ2 J2
    refine BIf.dec (fun hneg => ?_) (fun hpos => ?_)
    · refine ⟨⟨z, hz, rfl, hneg, fun e => ?_, hR⟩, h.ext⟩
      rcases (hi.tok z hz).st with g | ⟨g1, _, q, hq, hqw⟩ | g
      · omega
      · have := hi.lok q hq; omega
      · omega
    · obtain ⟨q, z', hq, hqw, hz', hqo, hst2⟩ := wait_next hi hz hpos
      refine LoopW.m2 (fun (u i : Int) w' => ∃ k : Nat, i = k ∧ k ≤ d.Locks.length ∧ u = ownIn (d.Locks.take k) z.Wait z.Id ∧ w' = w9) (fun _ (i : Int) _ => (d.Locks.length - i).toNat) ⟨0, rfl, by omega, rfl, rfl⟩ ?_
      rintro (u : Int) (i : Int) w20 ⟨k2, rfl, hk2, rfl, rfl⟩ J3 hJ3
      refine ⟨l, h.cell 0 rfl rfl, BIf.dec (fun hlt => ?_) (fun hge => ?_)⟩
      · have hget : d.Locks[k2]? = some d.Locks[k2] := List.getElem?_eq_getElem (by omega)
        have hst := ownIn_step hi.ls hget z.Wait z.Id
        generalize d.Locks[k2] = y at *
        obtain ⟨p, hp, hc⟩ := hs.lck hget
        simp only [Int.toNat_natCast]
        rw [w64 (n := (k2 : Int) + 1) (by omega) (by omega)]
        refine ⟨l, h.cell 0 rfl rfl, by omega, by omega, p, hp, _, hc 0 _ rfl, BIf.eq (fun he => ?_) (fun he => ?_)⟩
        · rw [if_pos he] at hst
          exact ⟨l, h.cell 0 rfl rfl, by omega, by omega, p, hp, _, hc 1 _ rfl, hJ3 _ _ _ ⟨k2 + 1, by omega, by omega, hst.symm, rfl⟩ (by omega)⟩
        · rw [if_neg he] at hst
          exact hJ3 _ _ _ ⟨k2 + 1, by omega, by omega, hst.symm, rfl⟩ (by omega)
      · have ho : ownIn (d.Locks.take k2) z.Wait z.Id = z'.Id := by
          rw [show k2 = d.Locks.length by omega, List.take_length]
          unfold ownIn
          rw [← hqw, hi.ls.find hq]
          exact hqo
        rw [ho, w64 (by omega) (by omega)]
        have hrk := hr z hz hst2 q hq hqw
        rw [hqo] at hrk
        have hlt2 : below_ r d z'.Id < below_ r d z.Id := by
          unfold below_
          exact filter_lt _ (fun y hy hyq => by have := of_decide_eq_true hyq; exact decide_eq_true (by omega)) ⟨z', hz', decide_eq_false (by omega), decide_eq_true hrk⟩
        exact hJ _ _ _ ⟨m + 1, z', by omega, hz', rfl, by omega, fun R h1 h2 => h2 z z' q hz hz' hq hst2 hqw hqo (hR R h1 h2), rfl⟩ (by omega)
theorem c33 {t l : Sl} {d : DSched} {x : DThread} {w : World} (hs : SAt w t l d) (hi : Inv0 d) (hx : x ∈ d.Threads) : CallW Try.prog 33 #[sAgg d.Now d.Seq t l, .int .i64 x.Id] w (fun v w' => v = .int .i64 x.State ∧ Ext w w') := by
  refine go33 ?_
  unfold W33
  have htl := hs.tl
  have hfew := hi.few
  have h := SH.start w
  refine h.alloc (fun w1 h e1 n1 => ?_)
  have hs := hs.ext h.ext
  refine LoopW.m1 (fun (i : Int) w' => ∃ k : Nat, i = k ∧ k ≤ d.Threads.length ∧ (∀ y, y ∈ d.Threads.take k → y.Id ≠ x.Id) ∧ w' = w1) (fun (i : Int) _ => (d.Threads.length - i).toNat) ⟨0, rfl, by omega, (fun y hy => by simp at hy), rfl⟩ ?_
  rintro (i : Int) w4 ⟨k, rfl, hk, hno, rfl⟩ J hJ
  refine ⟨t, h.cell 0 rfl rfl, BIf.dec (fun hlt => ?_) (fun hge => ?_)⟩
  · have hget : d.Threads[k]? = some d.Threads[k] := List.getElem?_eq_getElem (by omega)
    have hmem : ∀ y, y ∈ d.Threads.take (k + 1) → y ∈ d.Threads.take k ∨ y = d.Threads[k] := fun y hy => by
      rw [List.take_add_one, hget] at hy
      rcases List.mem_append.1 hy with hy | hy
      · exact .inl hy
      · exact .inr (by simpa using hy)
    generalize d.Threads[k] = y at *
    obtain ⟨p, hp, hc⟩ := hs.thr hget
    simp only [Int.toNat_natCast]
    rw [w64 (n := (k : Int) + 1) (by omega) (by omega)]
    refine ⟨t, h.cell 0 rfl rfl, by omega, by omega, p, hp, _, hc 0 _ rfl, BIf.eq (fun he => ?_) (fun he => ?_)⟩
    · have := hi.ts.uniq (List.mem_of_getElem? hget) hx he
      subst this
      exact ⟨t, h.cell 0 rfl rfl, by omega, by omega, p, hp, _, hc 2 _ rfl, rfl, h.ext⟩
    · refine hJ _ _ ⟨k + 1, by omega, by omega, fun z hz => ?_, rfl⟩ (by omega)
      rcases hmem z hz with hz | rfl
      · exact hno z hz
      · exact he
  · rw [show k = d.Threads.length by omega, List.take_length] at hno
    exact absurd rfl (hno x hx)
end Go.Proofs.Yteigefjiifihpaa

/- The bytes of a draw as a parameter. Conditions: none. -/
namespace Go.Proofs.Yteigefjiifihpaa
open Go Go.Den
theorem o5 : Opens Try.prog 5 (cInt .u8) := opens_int Try.underlying5
theorem o55 : Opens Try.prog 55 (cSlice (cInt .u8)) := opens_slice Try.underlying55 (by kernel_rfl) o5
end Go.Proofs.Yteigefjiifihpaa

/- FnSchedFree: the law's walk (two regions printed by a program). Conditions: none. -/
set_option linter.unusedVariables false
set_option linter.unusedSimpArgs false
namespace Go.Proofs.Yteigefjiifihpaa
open Go Go.Den
theorem Way.ok {k : Nat} {e : DSched} (h : Way k e) (hk : k ≤ 1000000) : SOk e := by
  have := h.now
  have := h.seq
  exact sok_iff.2 ⟨h.inv, by omega, by omega⟩
theorem goc5 {a0 : Sl} {w : World} {K : Value → World → Prop} (h : W5 a0 w K) : Calls Try.prog 5 #[.slice a0.a a0.len a0.cap] w (fun e w' => ∃ v, e = .returned v ∧ K v w') :=
  denFn_sound tt_ok mix Try.func5 (by kernel_rfl) (eq5 a0 w K ▸ h)
set_option maxHeartbeats 1000000 in
theorem walk5 {w : World} {bs : List Int} {p0 : Sl} (h0 : IsD w (.sl 1 (bs.map (Dat.int .u8))) [.slice p0.a p0.len p0.cap]) : Calls Try.prog 5 #[.slice p0.a p0.len p0.cap] w (fun e w' => ∃ v, e = .returned v ∧ (v = .bool true ∧ Ext w w')) := by
  refine goc5 ?_
  unfold W5
  refine c29.mono ?_
  rintro _ w2 ⟨rfl, rfl⟩
  refine ⟨_, rfl, BIf.dec (fun _ => ⟨rfl, Only.refl _ _⟩) (fun hbig => ?_)⟩
  have hb := curb_of h0 (by omega)
  refine (s30 hb).mono ?_
  rintro _ w5 ⟨o, ops, rfl, hops, h⟩
  have hol := h.len 0 rfl
  rw [recs_len] at hol
  refine ⟨o, rfl, ?_⟩
  refine h.alloc (fun w7 h e7 n7 => ?_)
  refine h.put 0 rfl rfl rfl (fun w8 h n8 => ?_)
  have h : SH w2 w8 [RS3 o ops, RT ⟨none, 0, 0⟩ zeroS.Threads, RL ⟨none, 0, 0⟩ zeroS.Locks, BSt w5.heap.size zeroS ⟨none, 0, 0⟩ ⟨none, 0, 0⟩] := (SH.nil (SH.nil h none 2) none 8).front (n := 3) rfl
  refine LoopW.m1 (fun (i : Int) w' => ∃ (k : Nat) (e : DSched) (t l : Sl), i = k ∧ k ≤ 60 ∧ Way k e ∧ SH w2 w' [RS3 o ops, RT t e.Threads, RL l e.Locks, BSt w5.heap.size e t l]) (fun (i : Int) _ => (60 - i).toNat) ⟨0, zeroS, _, _, rfl, by omega, way0, h⟩ ?_
  clear h
  rintro (i : Int) w11 ⟨k, e, t, l, rfl, hk, hway, h⟩ J hJ
  refine join_and.2 ?_
  refine BIf.of (fun hc => ?_) (fun hc => ⟨rfl, h.ext⟩)
  simp only [Bool.and_eq_true, decide_eq_true_eq] at hc
  have hen := hway.now
  have hes := hway.seq
  have hget : ops[k]? = some ops[k] := List.getElem?_eq_getElem (by omega)
  generalize ops[k] = op at *
  obtain ⟨q, hqa⟩ := h.rowQ 0 rfl hget
  have hw2 := hway.step (by omega) op.Kind op.Id op.N
  simp only [Int.toNat_natCast]
  rw [w64 (n := (k : Int) + 1) (by omega) (by omega)]
  refine JoinW.cut1 (fun (p : Option Addr) w' => ∃ (b : Nat) (t' l' : Sl), p = some ⟨b, 0, none⟩ ∧ SH w2 w' [BSt b (stepF e op.Kind op.Id op.N).1 t' l', RT t' (stepF e op.Kind op.Id op.N).1.Threads, RL l' (stepF e op.Kind op.Id op.N).1.Locks, RS3 o ops, RT t e.Threads, RL l e.Locks, BSt w5.heap.size e t l]) ?_ ?_
  · have h := h.drew
    refine ⟨_, h.cell 3 rfl rfl, _, h.cell 3 rfl rfl, t, h.cell 3 rfl rfl, l, h.cell 3 rfl rfl, by omega, by omega, q, hqa, _, h.rdR 0 rfl hqa hget rfl, _, h.rdR 0 rfl hqa hget rfl, _, h.rdR 0 rfl hqa hget rfl, ?_⟩
    refine ⟨?_, ?_⟩
    · skip
      refine (s24 (satOf2 h 1 2 rfl rfl hway.inv)).mono ?_
      rintro _ w316 ⟨tw316, lw316, rfl, g⟩
      rw [stepR_inv hway.inv (by omega) (by omega)] at g ⊢
      have h := h.seq g
      refine ⟨_, _, tw316, lw316, _, _, rfl, ?_⟩
      refine ⟨?_, ?_⟩
      · skip
        refine h.alloc (fun w341 h ew341 nw341 => ?_)
        refine ⟨⟨_, h.rdR 3 rfl hqa hget rfl, _, h.rdR 3 rfl hqa hget rfl, _, h.rdR 3 rfl hqa hget rfl, rfl⟩, ?_⟩
        refine ⟨⟨_, h.cell 6 rfl rfl, _, h.cell 6 rfl rfl, t, h.cell 6 rfl rfl, l, h.cell 6 rfl rfl, rfl⟩, ?_⟩
        refine ⟨?_, trivial⟩
        refine h.alloc (fun w349 h ew349 nw349 => ?_)
        refine ⟨⟨_, h.rdR 4 rfl hqa hget rfl, _, h.rdR 4 rfl hqa hget rfl, _, h.rdR 4 rfl hqa hget rfl, rfl⟩, ?_⟩
        refine ⟨⟨_, h.cell 7 rfl rfl, _, h.cell 7 rfl rfl, t, h.cell 7 rfl rfl, l, h.cell 7 rfl rfl, rfl⟩, ?_⟩
        refine ⟨?_, trivial⟩
        refine h.put 1 rfl rfl rfl (fun w357 h nw357 => ?_)
        refine ⟨?_, trivial⟩
        refine h.put 0 rfl rfl rfl (fun w358 h nw358 => ?_)
        exact ⟨_, tw316, lw316, rfl, (h.dropAt 0)⟩
      · skip
        refine ⟨?_, trivial⟩
        refine h.alloc (fun w323 h ew323 nw323 => ?_)
        refine ⟨⟨_, h.rdR 3 rfl hqa hget rfl, _, h.rdR 3 rfl hqa hget rfl, _, h.rdR 3 rfl hqa hget rfl, rfl⟩, ?_⟩
        refine ⟨⟨_, h.cell 6 rfl rfl, _, h.cell 6 rfl rfl, t, h.cell 6 rfl rfl, l, h.cell 6 rfl rfl, rfl⟩, ?_⟩
        refine ⟨?_, trivial⟩
        refine h.alloc (fun w331 h ew331 nw331 => ?_)
        refine ⟨⟨_, h.rdR 4 rfl hqa hget rfl, _, h.rdR 4 rfl hqa hget rfl, _, h.rdR 4 rfl hqa hget rfl, rfl⟩, ?_⟩
        refine ⟨⟨_, h.cell 7 rfl rfl, _, h.cell 7 rfl rfl, t, h.cell 7 rfl rfl, l, h.cell 7 rfl rfl, rfl⟩, ?_⟩
        refine ⟨?_, trivial⟩
        refine h.put 0 rfl rfl rfl (fun w339 h nw339 => ?_)
        refine ⟨?_, trivial⟩
        refine h.put 1 rfl rfl rfl (fun w340 h nw340 => ?_)
        exact ⟨_, tw316, lw316, rfl, (h.dropAt 1)⟩
    · skip
      refine ⟨?_, ?_⟩
      · skip
        refine h.alloc (fun w271 h ew271 nw271 => ?_)
        refine ⟨⟨_, h.rdR 1 rfl hqa hget rfl, _, h.rdR 1 rfl hqa hget rfl, _, h.rdR 1 rfl hqa hget rfl, rfl⟩, ?_⟩
        refine ⟨⟨_, h.cell 4 rfl rfl, _, h.cell 4 rfl rfl, t, h.cell 4 rfl rfl, l, h.cell 4 rfl rfl, rfl⟩, ?_⟩
        refine ⟨?_, ?_⟩
        · skip
          refine (s24 (satOf2 h 2 3 rfl rfl hway.inv)).mono ?_
          rintro _ w298 ⟨tw298, lw298, rfl, g⟩
          rw [stepR_inv hway.inv (by omega) (by omega)] at g ⊢
          have h := h.seq g
          refine ⟨_, _, tw298, lw298, _, _, rfl, ?_⟩
          refine ⟨?_, trivial⟩
          refine h.alloc (fun w305 h ew305 nw305 => ?_)
          refine ⟨⟨_, h.rdR 4 rfl hqa hget rfl, _, h.rdR 4 rfl hqa hget rfl, _, h.rdR 4 rfl hqa hget rfl, rfl⟩, ?_⟩
          refine ⟨⟨_, h.cell 7 rfl rfl, _, h.cell 7 rfl rfl, t, h.cell 7 rfl rfl, l, h.cell 7 rfl rfl, rfl⟩, ?_⟩
          refine ⟨?_, trivial⟩
          refine h.put 3 rfl rfl rfl (fun w313 h nw313 => ?_)
          refine ⟨?_, trivial⟩
          refine h.put 0 rfl rfl rfl (fun w314 h nw314 => ?_)
          exact ⟨_, tw298, lw298, rfl, ((((((((h.dropAt 0).front (n := 6) rfl).front (n := 6) rfl).front (n := 6) rfl).front (n := 6) rfl).front (n := 5) rfl).front (n := 5) rfl).front (n := 6) rfl)⟩
        · skip
          refine ⟨?_, trivial⟩
          refine h.alloc (fun w279 h ew279 nw279 => ?_)
          refine ⟨⟨_, h.rdR 2 rfl hqa hget rfl, _, h.rdR 2 rfl hqa hget rfl, _, h.rdR 2 rfl hqa hget rfl, rfl⟩, ?_⟩
          refine ⟨⟨_, h.cell 5 rfl rfl, _, h.cell 5 rfl rfl, t, h.cell 5 rfl rfl, l, h.cell 5 rfl rfl, rfl⟩, ?_⟩
          refine ⟨?_, trivial⟩
          refine (s24 (satOf2 h 3 4 rfl rfl hway.inv)).mono ?_
          rintro _ w288 ⟨tw288, lw288, rfl, g⟩
          rw [stepR_inv hway.inv (by omega) (by omega)] at g ⊢
          have h := h.seq g
          refine ⟨_, _, tw288, lw288, _, _, rfl, ?_⟩
          refine ⟨?_, trivial⟩
          refine h.put 3 rfl rfl rfl (fun w295 h nw295 => ?_)
          refine ⟨?_, trivial⟩
          refine h.put 2 rfl rfl rfl (fun w296 h nw296 => ?_)
          exact ⟨_, tw288, lw288, rfl, ((((((((h.dropAt 2).front (n := 6) rfl).front (n := 6) rfl).front (n := 6) rfl).front (n := 6) rfl).front (n := 5) rfl).front (n := 5) rfl).front (n := 6) rfl)⟩
      · skip
        refine ⟨?_, trivial⟩
        refine h.alloc (fun w227 h ew227 nw227 => ?_)
        refine ⟨⟨_, h.rdR 1 rfl hqa hget rfl, _, h.rdR 1 rfl hqa hget rfl, _, h.rdR 1 rfl hqa hget rfl, rfl⟩, ?_⟩
        refine ⟨⟨_, h.cell 4 rfl rfl, _, h.cell 4 rfl rfl, t, h.cell 4 rfl rfl, l, h.cell 4 rfl rfl, rfl⟩, ?_⟩
        refine ⟨?_, ?_⟩
        · skip
          refine (s24 (satOf2 h 2 3 rfl rfl hway.inv)).mono ?_
          rintro _ w254 ⟨tw254, lw254, rfl, g⟩
          rw [stepR_inv hway.inv (by omega) (by omega)] at g ⊢
          have h := h.seq g
          refine ⟨_, _, tw254, lw254, _, _, rfl, ?_⟩
          refine ⟨?_, trivial⟩
          refine h.alloc (fun w261 h ew261 nw261 => ?_)
          refine ⟨⟨_, h.rdR 4 rfl hqa hget rfl, _, h.rdR 4 rfl hqa hget rfl, _, h.rdR 4 rfl hqa hget rfl, rfl⟩, ?_⟩
          refine ⟨⟨_, h.cell 7 rfl rfl, _, h.cell 7 rfl rfl, t, h.cell 7 rfl rfl, l, h.cell 7 rfl rfl, rfl⟩, ?_⟩
          refine ⟨?_, trivial⟩
          refine h.put 0 rfl rfl rfl (fun w269 h nw269 => ?_)
          refine ⟨?_, trivial⟩
          refine h.put 3 rfl rfl rfl (fun w270 h nw270 => ?_)
          exact ⟨_, tw254, lw254, rfl, (h.dropAt 3)⟩
        · skip
          refine ⟨?_, trivial⟩
          refine h.alloc (fun w235 h ew235 nw235 => ?_)
          refine ⟨⟨_, h.rdR 2 rfl hqa hget rfl, _, h.rdR 2 rfl hqa hget rfl, _, h.rdR 2 rfl hqa hget rfl, rfl⟩, ?_⟩
          refine ⟨⟨_, h.cell 5 rfl rfl, _, h.cell 5 rfl rfl, t, h.cell 5 rfl rfl, l, h.cell 5 rfl rfl, rfl⟩, ?_⟩
          refine ⟨?_, trivial⟩
          refine (s24 (satOf2 h 3 4 rfl rfl hway.inv)).mono ?_
          rintro _ w244 ⟨tw244, lw244, rfl, g⟩
          rw [stepR_inv hway.inv (by omega) (by omega)] at g ⊢
          have h := h.seq g
          refine ⟨_, _, tw244, lw244, _, _, rfl, ?_⟩
          refine ⟨?_, trivial⟩
          refine h.put 2 rfl rfl rfl (fun w251 h nw251 => ?_)
          refine ⟨?_, trivial⟩
          refine h.put 3 rfl rfl rfl (fun w252 h nw252 => ?_)
          exact ⟨_, tw244, lw244, rfl, ((((((((h.dropAt 3).front (n := 6) rfl).front (n := 6) rfl).front (n := 6) rfl).front (n := 6) rfl).front (n := 5) rfl).front (n := 5) rfl).front (n := 6) rfl)⟩
  clear h
  rintro (p15 : Option Addr) w17 ⟨b1, t1, l1, rfl, h⟩
  refine JoinW.cut1 (fun (p : Option Addr) w' => ∃ (b : Nat) (t' l' : Sl), p = some ⟨b, 0, none⟩ ∧ SH w2 w' [BSt b (stepF e op.Kind op.Id op.N).1 t' l', RT t' (stepF e op.Kind op.Id op.N).1.Threads, RL l' (stepF e op.Kind op.Id op.N).1.Locks, BSt b1 (stepF e op.Kind op.Id op.N).1 t1 l1, RT t1 (stepF e op.Kind op.Id op.N).1.Threads, RL l1 (stepF e op.Kind op.Id op.N).1.Locks, RS3 o ops, RT t e.Threads, RL l e.Locks, BSt w5.heap.size e t l]) ?_ ?_
  · have h := h.drew
    refine ⟨_, h.cell 6 rfl rfl, _, h.cell 6 rfl rfl, t, h.cell 6 rfl rfl, l, h.cell 6 rfl rfl, by omega, by omega, q, hqa, _, h.rdR 3 rfl hqa hget rfl, _, h.rdR 3 rfl hqa hget rfl, _, h.rdR 3 rfl hqa hget rfl, ?_⟩
    refine ⟨?_, ?_⟩
    · skip
      refine (s21 (satOf2 h 4 5 rfl rfl hway.inv)).mono ?_
      rintro _ w176 ⟨tw176, lw176, rfl, g⟩
      rw [stepR_inv hway.inv (by omega) (by omega)] at g ⊢
      have h := h.seq g
      refine ⟨_, _, tw176, lw176, _, _, rfl, ?_⟩
      refine ⟨?_, ?_⟩
      · skip
        refine h.alloc (fun w201 h ew201 nw201 => ?_)
        refine ⟨⟨_, h.rdR 6 rfl hqa hget rfl, _, h.rdR 6 rfl hqa hget rfl, _, h.rdR 6 rfl hqa hget rfl, rfl⟩, ?_⟩
        refine ⟨⟨_, h.cell 9 rfl rfl, _, h.cell 9 rfl rfl, t, h.cell 9 rfl rfl, l, h.cell 9 rfl rfl, rfl⟩, ?_⟩
        refine ⟨?_, trivial⟩
        refine h.alloc (fun w209 h ew209 nw209 => ?_)
        refine ⟨⟨_, h.rdR 7 rfl hqa hget rfl, _, h.rdR 7 rfl hqa hget rfl, _, h.rdR 7 rfl hqa hget rfl, rfl⟩, ?_⟩
        refine ⟨⟨_, h.cell 10 rfl rfl, _, h.cell 10 rfl rfl, t, h.cell 10 rfl rfl, l, h.cell 10 rfl rfl, rfl⟩, ?_⟩
        refine ⟨?_, trivial⟩
        refine h.put 1 rfl rfl rfl (fun w217 h nw217 => ?_)
        refine ⟨?_, trivial⟩
        refine h.put 0 rfl rfl rfl (fun w218 h nw218 => ?_)
        exact ⟨_, tw176, lw176, rfl, (h.dropAt 0)⟩
      · skip
        refine ⟨?_, trivial⟩
        refine h.alloc (fun w183 h ew183 nw183 => ?_)
        refine ⟨⟨_, h.rdR 6 rfl hqa hget rfl, _, h.rdR 6 rfl hqa hget rfl, _, h.rdR 6 rfl hqa hget rfl, rfl⟩, ?_⟩
        refine ⟨⟨_, h.cell 9 rfl rfl, _, h.cell 9 rfl rfl, t, h.cell 9 rfl rfl, l, h.cell 9 rfl rfl, rfl⟩, ?_⟩
        refine ⟨?_, trivial⟩
        refine h.alloc (fun w191 h ew191 nw191 => ?_)
        refine ⟨⟨_, h.rdR 7 rfl hqa hget rfl, _, h.rdR 7 rfl hqa hget rfl, _, h.rdR 7 rfl hqa hget rfl, rfl⟩, ?_⟩
        refine ⟨⟨_, h.cell 10 rfl rfl, _, h.cell 10 rfl rfl, t, h.cell 10 rfl rfl, l, h.cell 10 rfl rfl, rfl⟩, ?_⟩
        refine ⟨?_, trivial⟩
        refine h.put 0 rfl rfl rfl (fun w199 h nw199 => ?_)
        refine ⟨?_, trivial⟩
        refine h.put 1 rfl rfl rfl (fun w200 h nw200 => ?_)
        exact ⟨_, tw176, lw176, rfl, (h.dropAt 1)⟩
    · skip
      refine ⟨?_, ?_⟩
      · skip
        refine h.alloc (fun w131 h ew131 nw131 => ?_)
        refine ⟨⟨_, h.rdR 4 rfl hqa hget rfl, _, h.rdR 4 rfl hqa hget rfl, _, h.rdR 4 rfl hqa hget rfl, rfl⟩, ?_⟩
        refine ⟨⟨_, h.cell 7 rfl rfl, _, h.cell 7 rfl rfl, t, h.cell 7 rfl rfl, l, h.cell 7 rfl rfl, rfl⟩, ?_⟩
        refine ⟨?_, ?_⟩
        · skip
          refine (s21 (satOf2 h 5 6 rfl rfl hway.inv)).mono ?_
          rintro _ w158 ⟨tw158, lw158, rfl, g⟩
          rw [stepR_inv hway.inv (by omega) (by omega)] at g ⊢
          have h := h.seq g
          refine ⟨_, _, tw158, lw158, _, _, rfl, ?_⟩
          refine ⟨?_, trivial⟩
          refine h.alloc (fun w165 h ew165 nw165 => ?_)
          refine ⟨⟨_, h.rdR 7 rfl hqa hget rfl, _, h.rdR 7 rfl hqa hget rfl, _, h.rdR 7 rfl hqa hget rfl, rfl⟩, ?_⟩
          refine ⟨⟨_, h.cell 10 rfl rfl, _, h.cell 10 rfl rfl, t, h.cell 10 rfl rfl, l, h.cell 10 rfl rfl, rfl⟩, ?_⟩
          refine ⟨?_, trivial⟩
          refine h.put 3 rfl rfl rfl (fun w173 h nw173 => ?_)
          refine ⟨?_, trivial⟩
          refine h.put 0 rfl rfl rfl (fun w174 h nw174 => ?_)
          exact ⟨_, tw158, lw158, rfl, (((((((((((h.dropAt 0).front (n := 9) rfl).front (n := 9) rfl).front (n := 9) rfl).front (n := 9) rfl).front (n := 9) rfl).front (n := 9) rfl).front (n := 9) rfl).front (n := 8) rfl).front (n := 8) rfl).front (n := 9) rfl)⟩
        · skip
          refine ⟨?_, trivial⟩
          refine h.alloc (fun w139 h ew139 nw139 => ?_)
          refine ⟨⟨_, h.rdR 5 rfl hqa hget rfl, _, h.rdR 5 rfl hqa hget rfl, _, h.rdR 5 rfl hqa hget rfl, rfl⟩, ?_⟩
          refine ⟨⟨_, h.cell 8 rfl rfl, _, h.cell 8 rfl rfl, t, h.cell 8 rfl rfl, l, h.cell 8 rfl rfl, rfl⟩, ?_⟩
          refine ⟨?_, trivial⟩
          refine (s21 (satOf2 h 6 7 rfl rfl hway.inv)).mono ?_
          rintro _ w148 ⟨tw148, lw148, rfl, g⟩
          rw [stepR_inv hway.inv (by omega) (by omega)] at g ⊢
          have h := h.seq g
          refine ⟨_, _, tw148, lw148, _, _, rfl, ?_⟩
          refine ⟨?_, trivial⟩
          refine h.put 3 rfl rfl rfl (fun w155 h nw155 => ?_)
          refine ⟨?_, trivial⟩
          refine h.put 2 rfl rfl rfl (fun w156 h nw156 => ?_)
          exact ⟨_, tw148, lw148, rfl, (((((((((((h.dropAt 2).front (n := 9) rfl).front (n := 9) rfl).front (n := 9) rfl).front (n := 9) rfl).front (n := 9) rfl).front (n := 9) rfl).front (n := 9) rfl).front (n := 8) rfl).front (n := 8) rfl).front (n := 9) rfl)⟩
      · skip
        refine ⟨?_, trivial⟩
        refine h.alloc (fun w87 h ew87 nw87 => ?_)
        refine ⟨⟨_, h.rdR 4 rfl hqa hget rfl, _, h.rdR 4 rfl hqa hget rfl, _, h.rdR 4 rfl hqa hget rfl, rfl⟩, ?_⟩
        refine ⟨⟨_, h.cell 7 rfl rfl, _, h.cell 7 rfl rfl, t, h.cell 7 rfl rfl, l, h.cell 7 rfl rfl, rfl⟩, ?_⟩
        refine ⟨?_, ?_⟩
        · skip
          refine (s21 (satOf2 h 5 6 rfl rfl hway.inv)).mono ?_
          rintro _ w114 ⟨tw114, lw114, rfl, g⟩
          rw [stepR_inv hway.inv (by omega) (by omega)] at g ⊢
          have h := h.seq g
          refine ⟨_, _, tw114, lw114, _, _, rfl, ?_⟩
          refine ⟨?_, trivial⟩
          refine h.alloc (fun w121 h ew121 nw121 => ?_)
          refine ⟨⟨_, h.rdR 7 rfl hqa hget rfl, _, h.rdR 7 rfl hqa hget rfl, _, h.rdR 7 rfl hqa hget rfl, rfl⟩, ?_⟩
          refine ⟨⟨_, h.cell 10 rfl rfl, _, h.cell 10 rfl rfl, t, h.cell 10 rfl rfl, l, h.cell 10 rfl rfl, rfl⟩, ?_⟩
          refine ⟨?_, trivial⟩
          refine h.put 0 rfl rfl rfl (fun w129 h nw129 => ?_)
          refine ⟨?_, trivial⟩
          refine h.put 3 rfl rfl rfl (fun w130 h nw130 => ?_)
          exact ⟨_, tw114, lw114, rfl, (h.dropAt 3)⟩
        · skip
          refine ⟨?_, trivial⟩
          refine h.alloc (fun w95 h ew95 nw95 => ?_)
          refine ⟨⟨_, h.rdR 5 rfl hqa hget rfl, _, h.rdR 5 rfl hqa hget rfl, _, h.rdR 5 rfl hqa hget rfl, rfl⟩, ?_⟩
          refine ⟨⟨_, h.cell 8 rfl rfl, _, h.cell 8 rfl rfl, t, h.cell 8 rfl rfl, l, h.cell 8 rfl rfl, rfl⟩, ?_⟩
          refine ⟨?_, trivial⟩
          refine (s21 (satOf2 h 6 7 rfl rfl hway.inv)).mono ?_
          rintro _ w104 ⟨tw104, lw104, rfl, g⟩
          rw [stepR_inv hway.inv (by omega) (by omega)] at g ⊢
          have h := h.seq g
          refine ⟨_, _, tw104, lw104, _, _, rfl, ?_⟩
          refine ⟨?_, trivial⟩
          refine h.put 2 rfl rfl rfl (fun w111 h nw111 => ?_)
          refine ⟨?_, trivial⟩
          refine h.put 3 rfl rfl rfl (fun w112 h nw112 => ?_)
          exact ⟨_, tw104, lw104, rfl, (((((((((((h.dropAt 3).front (n := 9) rfl).front (n := 9) rfl).front (n := 9) rfl).front (n := 9) rfl).front (n := 9) rfl).front (n := 9) rfl).front (n := 9) rfl).front (n := 8) rfl).front (n := 8) rfl).front (n := 9) rfl)⟩
  clear h
  rintro (p18 : Option Addr) w20 ⟨b2, t2, l2, rfl, h⟩
  generalize (stepF e op.Kind op.Id op.N).1 = d at *
  have hfew := hw2.inv.few
  have k1 := h.len 1 rfl
  have k2 := h.len 2 rfl
  have k4 := h.len 4 rfl
  have k5 := h.len 5 rfl
  rw [recs_len] at k1 k2 k4 k5
  refine addrOf_mk ⟨t1, h.cellP 3 rfl rfl, addrOf_mk ⟨t2, h.cellP 0 rfl rfl, ?_⟩⟩
  refine JoinW.cut1 (fun (c : Bool) w' => c = false ∧ w' = w20) ?_ ?_
  · refine BIf.ne (fun hne => absurd (by omega) hne) (fun _ => addrOf_mk ⟨l1, h.cellP 3 rfl rfl, addrOf_mk ⟨l2, h.cellP 0 rfl rfl, ?_, rfl⟩⟩)
    rw [bne_eq_false_iff_eq]; omega
  rintro (c : Bool) w27 ⟨rfl, rfl⟩
  refine BIf.f rfl (addrOf_mk ⟨_, h.cellP 3 rfl rfl, _, h.cellP 3 rfl rfl, t1, h.cellP 3 rfl rfl, l1, h.cellP 3 rfl rfl, ?_⟩)
  refine h.put 9 rfl rfl rfl (fun w33 h n33 => ?_)
  have h : SH w2 w33 [RS3 o ops, RT t1 d.Threads, RL l1 d.Locks, BSt w5.heap.size d t1 l1] := ((((((h.dropAt 8).dropAt 7).dropAt 3).dropAt 2).dropAt 1).dropAt 0).front (n := 2) rfl
  refine ⟨_, h.cell 3 rfl rfl, _, h.cell 3 rfl rfl, t1, h.cell 3 rfl rfl, l1, h.cell 3 rfl rfl, (c31 (satOf2 h 1 2 rfl rfl hw2.inv)).mono ?_⟩
  rintro _ w39 ⟨b40, rfl, hb40, e39⟩
  have h := h.to e39
  have hbt : b40 = true := hb40.2 (hw2.ok (by omega))
  refine ⟨b40, rfl, BIf.f (by rw [hbt]; rfl) ?_⟩
  refine LoopW.m1 (fun (i : Int) w' => ∃ m : Nat, i = m ∧ m ≤ d.Threads.length ∧ SH w2 w' [RS3 o ops, RT t1 d.Threads, RL l1 d.Locks, BSt w5.heap.size d t1 l1]) (fun (i : Int) _ => (d.Threads.length - i).toNat) ⟨0, rfl, by omega, h⟩ ?_
  clear h
  rintro (i : Int) w43 ⟨m, rfl, hm, h⟩ J2 hJ2
  refine ⟨t1, h.cell 3 rfl rfl, BIf.dec (fun hlt => ?_) (fun hge => hJ _ _ ⟨k + 1, d, t1, l1, by omega, by omega, hw2, h⟩ (by omega))⟩
  have hgt : d.Threads[m]? = some d.Threads[m] := List.getElem?_eq_getElem (by omega)
  generalize d.Threads[m] = x at *
  obtain ⟨q2, hq2⟩ := h.rowQ 1 rfl hgt
  have h := h.drew
  simp only [Int.toNat_natCast]
  rw [w64 (n := (m : Int) + 1) (by omega) (by omega)]
  refine ⟨_, h.cell 3 rfl rfl, _, h.cell 3 rfl rfl, t1, h.cell 3 rfl rfl, l1, h.cell 3 rfl rfl, t1, h.cell 3 rfl rfl, by omega, by omega, q2, hq2, _, h.rdR 1 rfl hq2 hgt rfl, ?_⟩
  refine (c32 (satOf2 h 1 2 rfl rfl hw2.inv) hw2.inv (List.mem_of_getElem? hgt)).mono ?_
  rintro _ w53 ⟨⟨y, hy, rfl, hyw, hys, _⟩, e53⟩
  have h := h.to e53
  have hyid := (hw2.inv.tok y hy).id
  have hyst : y.State ≠ 0 := by
    rcases (hw2.inv.tok y hy).st with g | g | g <;> omega
  refine ⟨_, rfl, JoinW.cut1 (fun (c : Bool) w' => c = false ∧ SH w2 w' [RS3 o ops, RT t1 d.Threads, RL l1 d.Locks, BSt w5.heap.size d t1 l1]) ?_ ?_⟩
  · refine BIf.f (decide_eq_false (by omega)) ⟨_, h.cell 3 rfl rfl, _, h.cell 3 rfl rfl, t1, h.cell 3 rfl rfl, l1, h.cell 3 rfl rfl, (c33 (satOf2 h 1 2 rfl rfl hw2.inv) hw2.inv hy).mono ?_⟩
    rintro _ w73 ⟨rfl, e73⟩
    exact ⟨_, rfl, by simpa using hys, h.to e73⟩
  clear h
  rintro (c : Bool) w57 ⟨rfl, h⟩
  refine JoinW.cut1 (fun (c : Bool) w' => c = false ∧ SH w2 w' [RS3 o ops, RT t1 d.Threads, RL l1 d.Locks, BSt w5.heap.size d t1 l1]) ?_ ?_
  · refine BIf.f rfl ⟨_, h.cell 3 rfl rfl, _, h.cell 3 rfl rfl, t1, h.cell 3 rfl rfl, l1, h.cell 3 rfl rfl, (c33 (satOf2 h 1 2 rfl rfl hw2.inv) hw2.inv hy).mono ?_⟩
    rintro _ w66 ⟨rfl, e66⟩
    exact ⟨_, rfl, by simpa using hyst, h.to e66⟩
  clear h
  rintro (c : Bool) w60 ⟨rfl, h⟩
  exact BIf.f rfl (hJ2 _ _ ⟨m + 1, by omega, by omega, h⟩ (by omega))
open Go.RowKit in
theorem law_calls5 {w : World} {a0 : Option Addr} {len0 cap0 : Nat} {bs : List Int} (h0 : (cSlice (cInt .u8)).is w [.slice a0 len0 cap0] bs) : Calls Try.prog 5 #[.slice a0 len0 cap0] w (fun e w' => e = .returned (.bool true) ∧ Below w.heap.size w w') :=
  (walk5 (p0 := ⟨a0, len0, cap0⟩) (isD_mkSl (f := Dat.int .u8) h0 (fun es x hx => isD_mkInt hx))).mono (by rintro e w' ⟨v, rfl, rfl, he⟩; exact ⟨rfl, he.below⟩)
end Go.Proofs.Yteigefjiifihpaa

/- The row of the law FnSchedFree: what its walk shows is what the statement says. Conditions: none. -/
namespace Go.Proofs.Yteigefjiifihpaa.fnSchedFree
open Go.ChangeShapes Go.WideShapes Go.ChangeAt Go.RowKit
open Go.ChangeMaps (open_string shut_string)
set_option linter.unusedVariables false
theorem own : ownKnob Try.prog.godebug = none := by kernel_rfl
theorem laidOut : laidOutB Try.prog = true := by kernel_rfl
set_option maxRecDepth 100000 in
theorem lifted (os : Os) (started : os.Started) (H : Type) (enc : TypeId × Value → H) :
    ReturnsInHanded {} Try.checked os 5 .any (Rows.fnSchedFreeSpec.pre6 enc Try.prog Try.f5 Rows.fnSchedFreeRow.domain false) (Rows.fnSchedFreeSpec.post enc Try.prog Try.f5 false true false false) := by
  refine returnsInHanded_of_change_sized (C := Try.checked) own started (by kernel_rfl) Try.func5
    (ChangeSpec.witness6 (enc := enc) (C := Try.checked) false ⟨#[], #[.slice none 0 0], []⟩ 8 (by kernel_rfl) (by kernel_rfl) (by kernel_rfl) (by kernel_rfl)) ?_
  intro W base args ds gs before hval0 hW hcnd hsz0 _
  have hsz : (DataW.weightsEach Try.prog (Try.f5.params.toList ++ Rows.fnSchedFreeSpec.plain.varTypes Try.prog) (ds ++ gs)).all (· ≤ reachBytes) = true := hsz0
  have hval : ∀ (j : Nat) t v, Try.f5.params[j]? = some t → args[j]? = some v → Value.okWide Try.prog W .any base t v := hval0
  have hW' := hW
  obtain ⟨p, q, hA0, hV, rfl, hfz, hnd⟩ := hW
  have hA : DataW.TrodAll enc Try.prog W 0 (fun _ => true) true Try.f5.params.toList args.toList ds p := hA0
  rw [Try.params5] at hA hval hsz
  obtain ⟨v0, vs0, d0, ds0, p0, q0, hargs, rfl, rfl, h0, r0⟩ := trodAll_cons hA
  obtain ⟨rfl, rfl, rfl⟩ := trodAll_nil r0
  obtain rfl : args = #[v0] := by cases args; simp_all
  obtain ⟨rfl, rfl⟩ := trodVars_none hV
  have k0 := h0
  have lt0 : ∀ x ∈ p0, x.block < W.heap.size := by obtain ⟨m, hm⟩ := k0; exact DataW.trod_lt m _ _ _ hm
  obtain ⟨a0, len0, cap0, rfl⟩ := okWide_slice Try.underlying55 (hval 0 55 v0 rfl rfl)
  obtain ⟨x0, w0⟩ : ∃ x, (Go.Den.cSlice (Go.Den.cInt .u8)).is W [.slice a0 len0 cap0] x := by obtain ⟨fuel, hf⟩ := h0; exact ((o55).at_ enc W fuel _ _ hf).2
  clear hA0 hval0 hsz0 hsz
  refine (law_calls5 w0).mono fun e W' ⟨he, bel⟩ => ?_
  subst he
  exact ⟨_, rfl, _, _, _, [], _, [], hW', trodAll_mk1 (shut_bool Try.underlying4 _), (trodAll_cons_mk (Below.trod laidOut (by kernel_rfl) (of_decide_eq_true (by kernel_rfl)) k0 bel lt0) trodAll_mk0), rfl, bel.frame _, fun h => by cases h⟩
theorem over : Rows.fnSchedFreeRow.holds Try.pinned (OpenSpec.ofChange Rows.fnSchedFreeSpec) :=
  OpenClaim.holds_of_wide 5 Try.f5 rfl rfl rfl rfl rfl rfl rfl ⟨rfl, rfl, rfl, rfl, rfl⟩ rfl rfl rfl rfl rfl (by kernel_rfl) Try.func5 (by kernel_rfl)
    (of_decide_eq_true (by kernel_rfl)) (by unfold Func.isWrapper; first | (rw [if_pos (by decide +kernel)]; kernel_rfl) | (rw [if_neg (by decide +kernel)]; exact ⟨rfl, rfl⟩))
    (fun os started H enc _ => lifted os started H enc)
theorem proved : Rows.FnSchedFreeSaid := over
#print axioms proved
end Go.Proofs.Yteigefjiifihpaa.fnSchedFree
namespace Go.Proofs.Yteigefjiifihpaa
/-- The row, under a short name, for the claim. -/
theorem fnSchedFree_holds : Rows.FnSchedFreeSaid := fnSchedFree.proved
end Go.Proofs.Yteigefjiifihpaa
