/- guisebook.Book at strings while lists are kept (turned by tostr.py). -/
import Derived.Test.YtkenffbonnbflaaBookSA
namespace Go.Proofs.Ytkenffbonnbflaa
open Go.RowKit
set_option linter.unusedVariables false

/-- a list in new memory -/
def FreshR (w w' : World) (A : Option Addr) (c : Nat) (ns : List ByteArray) : Prop := EntR w' A c ns ∧ c ≤ 9223372036854775807 ∧ ∀ g, A = some ⟨g, 0, none⟩ → w.heap.size ≤ g
def NewR (base : Nat) (A : Option Addr) (c : Nat) : Prop := c ≤ 9223372036854775807 ∧ ∀ g, A = some ⟨g, 0, none⟩ → base ≤ g
/-- the book while lists are kept -/
def StateR (wr : World) (base B : Nat) (ns : List ByteArray) (k : Nat) : Prop :=
  (k = 0 ∧ KeepR wr base B (.slice none 0 0) (.slice none 0 0) 0 [] [] ns) ∨
  (k = 1 ∧ ∃ vl vw hd A c V, KeepR wr base B vl vw hd [(A, c)] V ns ∧ V.length = 1 ∧ NewR base A c) ∨
  (k = 2 ∧ ∃ gl ol cl gw ow cw hd m A C V D, BookR wr B gl ol cl gw ow cw hd m A C V D ns ∧ m ≤ 2 ∧ ∀ j, j < m → NewR base (A j) (C j))
theorem BookR.state {wr : World} {base B : Nat} {ns : List ByteArray} {vl vw : Value} {hd : Int} {A A' : Option Addr} {c c' : Nat} {V : List (Option Addr × Nat)} (h : KeepR wr base B vl vw hd [(A, c), (A', c')] V ns) (hV : V.length = 2)
    (h1 : NewR base A c) (h2 : NewR base A' c') (hne : ∀ g, A = some ⟨g, 0, none⟩ → A' ≠ some ⟨g, 0, none⟩) : StateR wr base B ns 2 := by
  obtain ⟨gl, cl, gw, cw, _, _, hB⟩ := h.book (by simp) (by rw [hV]; rfl) (fun i j hi hj hij g => by
    have hi2 : i = 0 ∨ i = 1 := by simp at hi; omega
    have hj2 : j = 0 ∨ j = 1 := by simp at hj; omega
    rcases hi2 with rfl | rfl <;> rcases hj2 with rfl | rfl
    · omega
    · exact hne g
    · intro (h3 : A' = _) (h4 : A = _)
      exact hne g h4 h3
    · omega)
  exact .inr (.inr ⟨rfl, _, _, _, _, _, _, _, _, _, _, _, _, hB, Nat.le_refl _, fun j hj => by
    have hj2 : j = 0 ∨ j = 1 := by simp at hj; omega
    rcases hj2 with rfl | rfl
    · exact h1
    · exact h2⟩)
theorem StateR.keep {w1 w2 w3 w4 : World} {base B : Nat} {ns : List ByteArray} {k : Nat} {A : Option Addr} {c : Nat} (h : StateR w1 base B ns k) (hk : k < 2) (hbB : base ≤ B) (hl : ns.length ≤ 1000000)
    (hb12 : Below w1.heap.size w1 w2) (hF : FreshR w1 w2 A c ns) (hb23 : Below w2.heap.size w2 w3) (hbase : base ≤ w1.heap.size) :
    Calls Try.prog 20 #[.pointer (some ⟨B, 0, none⟩), .slice A ns.length c] w3 fun e w' => e = .returned (.tuple #[]) ∧ StateR w' base B ns (k + 1) ∧ BelowR base w3 w' := by
  have hb13 : Below w1.heap.size w1 w3 := hb12.trans (hb23.mono hb12.size)
  have hE := hF.1.below hb23
  have hN : NewR base A c := ⟨hF.2.1, fun g hg => by have := hF.2.2 g hg; omega⟩
  rcases h with ⟨rfl, h⟩ | ⟨rfl, vl, vw, hd, A0, c0, V, h, hV, h0⟩ | ⟨rfl, _⟩
  · refine (keepR w3 (h.step hb13) hE (by decide) rfl hbB hl (fun i j hi hj hij g => by
      simp at hi hj; omega)).mono ?_
    rintro e w' ⟨rfl, hK, hb⟩
    refine ⟨rfl, ?_, hb⟩
    rcases hK with ⟨vl, vw, hd, V, hK, hV⟩ | ⟨h1, _⟩
    · exact .inr (.inl ⟨rfl, vl, vw, hd, A, c, V, hK, hV, hN⟩)
    · exact absurd h1 (by decide)
  · have hne : ∀ g, A0 = some ⟨g, 0, none⟩ → A ≠ some ⟨g, 0, none⟩ := fun g hg hA => by
      have h3 := hF.2.2 g hA
      rcases (h.ent (A0, c0) (by simp)).2 with ⟨e, _⟩ | ⟨g', row, e, hB, _⟩
      · have : A0 = none := e
        rw [this] at hg; cases hg
      · have e' : A0 = some ⟨g', 0, none⟩ := e
        rw [e'] at hg
        cases hg
        have := hB.lt
        omega
    refine (keepR w3 (h.step hb13) hE (by simp) (by rw [hV]; rfl) hbB hl (fun i j hi hj hij g => by
      have hi2 : i = 0 ∨ i = 1 := by simp at hi; omega
      have hj2 : j = 0 ∨ j = 1 := by simp at hj; omega
      rcases hi2 with rfl | rfl <;> rcases hj2 with rfl | rfl
      · omega
      · exact hne g
      · intro (h3 : A = _) (h4 : A0 = _)
        exact hne g h4 h3
      · omega)).mono ?_
    rintro e w' ⟨rfl, hK, hb⟩
    refine ⟨rfl, ?_, hb⟩
    rcases hK with ⟨vl, vw, hd, V, hK, hV⟩ | ⟨_, gl, cl, gw, cw, hd', A', C', V', D', hB, hA', hC'⟩
    · exact BookR.state hK hV h0 hN hne
    · exact .inr (.inr ⟨rfl, _, _, _, _, _, _, _, _, _, _, _, _, hB, by decide, fun j hj => by
        obtain rfl : j = 0 := by omega
        rw [hA', hC']
        exact hN⟩)
  · omega

end Go.Proofs.Ytkenffbonnbflaa
