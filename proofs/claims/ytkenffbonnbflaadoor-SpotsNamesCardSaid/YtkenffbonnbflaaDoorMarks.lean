/- Several ranges over functions in one activation: the marks that they leave; a loop of few rounds by an invariant over the whole activation. -/
import Derived.Test.YtkenffbonnbflaaDoorBackI
import Derived.LoopNIn
import Derived.Test.YtkenffbonnbflaaDoorRoundQ
import Derived.Test.YtkenffbonnbflaaDoorEnds
import Derived.Test.YtkenffbonnbflaaDoorWithin
import Derived.Test.YtkenffbonnbflaaDoorCount
namespace Go.Proofs.YtkenffbonnbflaaDoor
open Go.RowKit Go.Shelf
set_option linter.unusedVariables false

/-- the marks of the ranges so far -/
def marks (Ds : List Nat) : List Deferred := Ds.map fun D => { target := .collected D, args := #[] }
theorem marks_cons (D : Nat) (Ds : List Nat) : ({ target := .collected D, args := #[] } : Deferred) :: marks Ds = marks (D :: Ds) := rfl
/-- the blocks of these marks alone have turned -/
structure But (Ds : List Nat) (w w' : World) : Prop where
  os : w'.os = w.os
  tape : w'.tape = w.tape
  output : w'.output = w.output
  size : w'.heap.size = w.heap.size
  block : ∀ k, k ∉ Ds → w'.heap[k]? = w.heap[k]?
theorem But.below {Ds : List Nat} {w w' : World} {n : Nat} (h : But Ds w w') (hd : ∀ D ∈ Ds, n ≤ D) : Below n w w' :=
  ⟨h.os, h.tape, h.output, by rw [h.size]; exact Nat.le_refl _, fun k hk => h.block k (fun hm => by have := hd k hm; omega)⟩
theorem leaves_marks {F : Fence} {n : Nat} {P : Program} {fn : Func} {tmps : Array Value} {R : Ending → World → Prop} : ∀ (Ds : List Nat) (W : World), Ds.Nodup → (∀ D ∈ Ds, W.heap[D]? = some (.deferred (some []))) →
    (∀ W', But Ds W W' → ∃ v, (results fn tmps).run P W' = .ok v W' ∧ R (.returned v) W') → LeavesInM F n P fn tmps R (marks Ds) .returning W
  | [], W, _, _, h => h W ⟨rfl, rfl, rfl, rfl, fun _ _ => rfl⟩
  | D :: Ds, W, hn, hd, h => by
    have hD := hd D (by simp)
    have hlt := (Array.getElem?_eq_some_iff.1 hD).1
    rw [List.nodup_cons] at hn
    refine ⟨by simp, .inl ⟨_, _, rfl, run_takeDeferred hD, ?_⟩⟩
    refine leaves_marks Ds _ hn.2 (fun E hE => ?_) (fun W' hB => h W' ?_)
    · have hne : E ≠ D := fun e => hn.1 (by rw [← e]; exact hE)
      exact (World.putObj_heap_other hne).trans (hd E (by simp [hE]))
    · refine ⟨hB.os, hB.tape, hB.output, ?_, fun k hk => ?_⟩
      · rw [hB.size]; exact Nat.le_antisymm (by simp [World.putObj]) (grownBy_putObj' _ _ _).size
      · rw [List.mem_cons, not_or] at hk
        exact (hB.block k hk.2).trans (World.putObj_heap_other hk.1)
/-- a loop of at most m rounds, by an invariant over the activation -/
theorem rounds_of {F : Fence} {n : Nat} {P : Program} {Q : Exit → Act → World → Prop} {c : Code} (I : Nat → Act → World → Prop) : ∀ (m k : Nat) (a : Act) (w : World), I k a w →
    (∀ j a w, k ≤ j → j < k + m → I j a w → c.wpIn F n P (Exit.then (I (j + 1)) Q) a w) → (∀ a w, I (k + m) a w → c.wpIn F n P (Exit.then (fun _ _ => False) Q) a w) → Code.roundsIn F n P c Q (m + 1) a w
  | 0, k, a, w, h, _, he => by
    rw [roundsIn_succ]
    exact he a w h
  | m + 1, k, a, w, h, hs, he => by
    rw [roundsIn_succ]
    refine wpIn_mono (hs k a w (Nat.le_refl _) (by omega) h) ?_
    intro e a' w' hq
    cases e with
    | normal => exact rounds_of I m (k + 1) a' w' hq (fun j a w h1 h2 hI => hs j a w (by omega) (by omega) hI) (fun a w hI => he a w (by rw [show k + (m + 1) = k + 1 + m by omega]; exact hI))
    | _ => exact hq
/-- a region that draws its order, outside of every round -/
theorem wpIn_wide_below {id n : Nat} {P : Program} {Q : Exit → Act → World → Prop} {a : Act} {w : World} {ops : List Oper} (hm : P.follows .mixedOrders = true) (hB : Region.lexB .any ops.toArray = true)
    (h : wpQuietIn Fence.wide n P ops.toArray (fun w' => Below w.heap.size w w') (fun a' => ∀ w', Below w.heap.size w w' → Q .normal a' w') ops a) : (Code.region id ops.toArray true).wpIn Fence.wide n P Q a w := by
  simp only [Region.lexB, Bool.and_eq_true] at hB
  refine wpIn_region_any hm (wpAnyIn_of_quiet (C := fun w' => Below w.heap.size w w') (Q := fun a' => ∀ w', Below w.heap.size w w' → Q .normal a' w') rfl (fun _ w' hw' h => h w' hw') _ _ _ _ ⟨rfl, rfl, rfl, Nat.le_refl _, fun _ _ => rfl⟩ ?_)
  have := wpAnyQIn_lex (F := Fence.wide) (n := n) (C := fun w' => Below w.heap.size w w') (md := .any) hB.1 ops.toArray.toList 0 (Array.replicate ops.toArray.size false) a (by simp) (by simpa using hB.2) (by simpa using h)
  simpa using this
theorem wide_fn (f : Nat) : Fence.wide.fn f := trivial
theorem wide_round_fn (l f : Nat) : (Fence.wide.inRound l).fn f := trivial
/-- an iterator is not nil -/
theorem seq_ne_nil (f : Nat) (b : Nat) (W : World) : (binOp .eql 73 (.func (.func f) #[] #[.pointer (some ⟨b, 0, none⟩)]) .nilFunc).run Tryd.prog W = .ok (.bool false) W := by
  kernel_rfl
end Go.Proofs.YtkenffbonnbflaaDoor
