/- Walks: guisebook.Book at strings: Stays. -/
import Derived.Test.YtkenffbonnbflaaBookS0
import Derived.Test.YtkenffbonnbflaaQuiet
import Derived.Deep.RegionHeld3
namespace Go.Proofs.Ytkenffbonnbflaa
open Go.RowKit
set_option linter.unusedVariables false

/-- a store of what lies there turns nothing -/
theorem below_same {w : World} {g : Nat} {t : TypeId} {cs : Array Value} {i : Nat} {u : Value} (h : Blk w g t cs) (hu : cs[i]? = some u) : Below w.heap.size w (w.setCell ⟨g, i, none⟩ u) := by
  refine ⟨rfl, rfl, rfl, by simp [World.setCell], fun k hk => ?_⟩
  by_cases e : k = g
  · subst e
    have h2 := h.set_ i u
    have e2 : cs.setIfInBounds i u = cs := by
      obtain ⟨hi, hv⟩ := Array.getElem?_eq_some_iff.1 hu
      apply Array.ext_getElem?
      intro j
      rw [Array.getElem?_setIfInBounds]
      split
      · rename_i e3; subst e3; first | exact hu.symm | (rw [if_pos hi]; exact hu.symm)
      · rfl
    rw [e2] at h2
    exact h2.trans h.symm
  · exact Below.heap_setCell _ _ _ _ e

theorem blk_ne {w : World} {g b : Nat} {t u : TypeId} {x y : Array Value} (h : Blk w g t x) (k : Blk w b u y) (hne : t ≠ u) : g ≠ b := by
  rintro rfl
  have := h.symm.trans k
  injection this with this
  injection this with _ ht
  exact hne ht
/-- one block alone has turned -/
structure OnlyR (g : Nat) (w w' : World) : Prop where
  os : w'.os = w.os
  tape : w'.tape = w.tape
  output : w'.output = w.output
  size : w'.heap.size = w.heap.size
  block : ∀ b, b ≠ g → w'.heap[b]? = w.heap[b]?
theorem OnlyR.refl (g : Nat) (w : World) : OnlyR g w w := ⟨rfl, rfl, rfl, rfl, fun _ _ => rfl⟩
theorem OnlyR.trans {g : Nat} {a b c : World} (h : OnlyR g a b) (k : OnlyR g b c) : OnlyR g a c := ⟨k.os.trans h.os, k.tape.trans h.tape, k.output.trans h.output, k.size.trans h.size, fun i hi => (k.block i hi).trans (h.block i hi)⟩
theorem OnlyR.setCell {g : Nat} {a w : World} (h : OnlyR g a w) (o : Nat) (u : Value) : OnlyR g a (w.setCell ⟨g, o, none⟩ u) :=
  h.trans ⟨rfl, rfl, rfl, by simp [World.setCell], fun b hb => Below.heap_setCell _ _ _ _ hb⟩
theorem OnlyR.to {g base : Nat} {w w' : World} (h : OnlyR g w w') (hg : base ≤ g) : Below base w w' := ⟨h.os, h.tape, h.output, by rw [h.size]; exact Nat.le_refl _, fun k hk => h.block k (by omega)⟩
/-- a kept list -/
def EntR (w : World) (A : Option Addr) (c : Nat) (ns : List ByteArray) : Prop :=
  RunesAt w A ns ∧ ((A = none ∧ ns.length = 0 ∧ c = 0) ∨ ∃ g row, A = some ⟨g, 0, none⟩ ∧ Blk w g 9 row ∧ row.size = c ∧ ns.length ≤ c)
theorem EntR.below {w w' : World} {A : Option Addr} {c : Nat} {ns : List ByteArray} (h : EntR w A c ns) (hb : Below w.heap.size w w') : EntR w' A c ns := by
  refine ⟨h.1.below hb, ?_⟩
  rcases h.2 with h2 | ⟨g, row, e, hB, r⟩
  · exact .inl h2
  · exact .inr ⟨g, row, e, hB.below hb, r⟩
/-- a book of k lists of runes, each of the same runes -/
structure BookR (w : World) (B gl ol cl gw ow cw : Nat) (hd : Int) (k : Nat) (A : Nat → Option Addr) (C : Nat → Nat) (V : Nat → Option Addr) (D : Nat → Nat) (ns : List ByteArray) : Prop where
  blk : Blk w B 43 #[.slice (some ⟨gl, ol, none⟩) k cl, .slice (some ⟨gw, ow, none⟩) k cw, .int .i64 hd, .bool false]
  lists : ∃ r, Blk w gl 45 r ∧ ∀ j, j < k → r[ol + j]? = some (.slice (A j) ns.length (C j))
  was : ∃ r, Blk w gw 45 r ∧ ∀ j, j < k → r[ow + j]? = some (.slice (V j) ns.length (D j))
  cl : k ≤ cl
  cw : k ≤ cw
  ent : ∀ j, j < k → EntR w (A j) (C j) ns
  copy : ∀ j, j < k → EntR w (V j) (D j) ns
  apart : ∀ i j, i < k → j < k → i ≠ j → ∀ g, A i = some ⟨g, 0, none⟩ → A j ≠ some ⟨g, 0, none⟩
theorem BookR.below {w w' : World} {B gl ol cl gw ow cw : Nat} {hd : Int} {k : Nat} {A : Nat → Option Addr} {C : Nat → Nat} {V : Nat → Option Addr} {D : Nat → Nat} {ns : List ByteArray}
    (h : BookR w B gl ol cl gw ow cw hd k A C V D ns) (hb : Below w.heap.size w w') : BookR w' B gl ol cl gw ow cw hd k A C V D ns := by
  obtain ⟨r, hr, hr2⟩ := h.lists
  obtain ⟨q, hq, hq2⟩ := h.was
  exact ⟨h.blk.below hb, ⟨r, hr.below hb, hr2⟩, ⟨q, hq.below hb, hq2⟩, h.cl, h.cw, fun j hj => (h.ent j hj).below hb, fun j hj => (h.copy j hj).below hb, h.apart⟩

set_option maxRecDepth 100000 in
set_option maxHeartbeats 4000000 in
theorem staysR {B gl ol cl gw ow cw : Nat} {hd : Int} {k : Nat} {A : Nat → Option Addr} {C : Nat → Nat} {V : Nat → Option Addr} {D : Nat → Nat} {ns : List ByteArray} (w : World)
    (h : BookR w B gl ol cl gw ow cw hd k A C V D ns) (hk : k ≤ 9223372036854775806) (hl : ns.length ≤ 9223372036854775806) :
    Calls Try.prog 38 #[.pointer (some ⟨B, 0, none⟩)] w fun e w' => e = .returned (.bool true) ∧ Below w.heap.size w w' := by
  have H := Lib.hid h
  have HS := Lib.hid (fun (A B : Option Addr) (c d : Nat) (w : World) (h1 : RunesAt w A ns) (h2 : RunesAt w B ns) => sameR ns A B c d w h1 h2 hl)
  obtain ⟨n, hn⟩ : ∃ n, ns.length = n := ⟨_, rfl⟩
  have Hn := Lib.hid hn
  rw [hn] at HS hl
  clear h hn
  go_enter Try.func38, Try.ntmps38
  go_wp2_with fail
  go_loopw [3] (fun i wr => ∃ j : Nat, j ≤ k ∧ i = .int .i64 (j : Int) ∧ Hid (Below w.heap.size w wr)) (fun i _ => k - (intOf i).toNat)
  case atStart => exact ⟨0, Nat.zero_le _, rfl, Lib.hid (Below.refl _ _)⟩
  case round =>
    obtain ⟨j, hj, rfl, hb⟩ := hrel
    have HB : Hid (BookR wr B gl ol cl gw ow cw hd k A C V D ns) := Lib.hid (H.out.below hb.out)
    have c0 := HB.out.blk.cell 0
    have c1 := HB.out.blk.cell 1
    have c3 := HB.out.blk.cell 3
    have f3 := HB.out.blk.frozen 3
    have HBlk := Lib.hid HB.out.blk
    simp only [List.getElem?_toArray, List.getElem?_cons_succ, List.getElem?_cons_zero] at c0 c1 c3
    by_cases hlt : j < k
    · obtain ⟨r, hr, hr2⟩ := HB.out.lists
      obtain ⟨q, hq, hq2⟩ := HB.out.was
      have d0 := (hr.cell (ol + j)).trans (hr2 j hlt)
      have d1 := (hq.cell (ow + j)).trans (hq2 j hlt)
      rw [Hn.out] at d0 d1
      have i1 : (0 : Int) ≤ (j : Int) := by omega
      have i2 : (j : Int) < (k : Int) := by omega
      have E1 := Lib.hid (HB.out.ent j hlt).1
      have E2 := Lib.hid (HB.out.copy j hlt).1
      have ne : gl ≠ B ∧ gw ≠ B := by
        constructor
        · rintro rfl
          have := hr.symm.trans HB.out.blk
          injection this with this
          injection this with _ ht
          exact absurd ht (by decide)
        · rintro rfl
          have := hq.symm.trans HB.out.blk
          injection this with this
          injection this with _ ht
          exact absurd ht (by decide)
      obtain ⟨ne1, ne2⟩ := ne
      have hKp : ∀ m, Below wr.heap.size wr ((wr.drewN m).setCell ⟨B, 3, none⟩ (.bool false)) := fun m => (below_drewN (Below.refl _ wr) m).trans (below_same (w := wr.drewN m) (HBlk.out.of rfl) rfl)
      have qB := HBlk.out.lt
      have ql := hr.lt
      have qw := hq.lt
      have HKp := Lib.hid hKp
      clear hKp
      clear hr hr2 hq hq2
      generalize A j = Aj at *
      generalize V j = Vj at *
      generalize C j = Cj at *
      generalize D j = Dj at *
      go_wp2_with fail
      go_region_held3 (fun w' => w'.cell? ⟨B, 0, none⟩ = some (.slice (some ⟨gl, ol, none⟩) k cl) ∧ w'.cell? ⟨B, 1, none⟩ = some (.slice (some ⟨gw, ow, none⟩) k cw) ∧ w'.cell? ⟨B, 3, none⟩ = some (.bool false) ∧ w'.cell? ⟨gl, ol + j, none⟩ = some (.slice Aj n Cj) ∧ w'.cell? ⟨gw, ow + j, none⟩ = some (.slice Vj n Dj))
        (first
          | go_keep
          | (go_split_ands
             exact ⟨((HKp.out _).cell (p := ⟨B, 0, none⟩) qB).trans c0, ((HKp.out _).cell (p := ⟨B, 1, none⟩) qB).trans c1, ((HKp.out _).cell (p := ⟨B, 3, none⟩) qB).trans c3, ((HKp.out _).cell (p := ⟨gl, ol + j, none⟩) ql).trans d0, ((HKp.out _).cell (p := ⟨gw, ow + j, none⟩) qw).trans d1⟩)
          | fail)
        (first | (go_at_call 18; refine (HS.out _ _ _ _ _ (by first | exact E1.out | exact E1.out.below (Below.refl _ _).drew) (by first | exact E2.out | exact E2.out.below (Below.refl _ _).drew)).mono ?_; rintro e w' ⟨rfl, q, rfl⟩))
      all_goals go_wp2_with fail
      go_roundw
      case rel => exact ⟨j + 1, by omega, by go_num, Lib.hid (hb.out.trans ((HKp.out _).mono hb.out.size))⟩
      case measure => simp [intOf]; omega
    · obtain rfl : j = k := by omega
      go_wp2_with fail
      go_ret
      exact ⟨rfl, hb.out⟩
end Go.Proofs.Ytkenffbonnbflaa
