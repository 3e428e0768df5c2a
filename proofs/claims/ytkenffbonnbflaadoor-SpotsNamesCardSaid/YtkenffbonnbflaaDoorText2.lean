/- The end of a Text; string(b) of a block of bytes. -/
import Derived.Test.YtkenffbonnbflaaDoorWithin
import Derived.Laws.IdiomStrings
namespace Go.Proofs.YtkenffbonnbflaaDoor
open Go.RowKit
set_option linter.unusedVariables false
theorem bAt_end (s : ByteArray) : bAt s (nS s) = s.size := by
  unfold bAt nS byteStarts
  simp [List.getD_eq_getElem?_getD]
theorem TextIs.drew {w : World} {T : Nat} {s : ByteArray} {gb cb gl cl : Nat} (h : TextIs w T s gb cb gl cl) : TextIs w.drew T s gb cb gl cl :=
  ⟨h.c0, h.c1, h.c2, h.hb, h.hl, h.size, h.tT, h.tb, h.tl⟩
theorem TextIs.drewN {w : World} {T : Nat} {s : ByteArray} {gb cb gl cl : Nat} (h : TextIs w T s gb cb gl cl) (n : Nat) : TextIs (w.drewN n) T s gb cb gl cl :=
  ⟨h.c0, h.c1, h.c2, h.hb, h.hl, h.size, h.tT, h.tb, h.tl⟩
theorem Place_end {w : World} {T : Nat} {s : ByteArray} {gb cb gl cl : Nat} (h : TextIs w T s gb cb gl cl) :
    Calls Tryd.prog 57 #[.pointer (some ⟨T, 0, none⟩), .int .i64 (nS s : Int)] w fun e w' => e = .returned (.tuple #[.agg #[.int .i64 (s.size : Int), .int .i64 (nS s : Int)], .bool true]) ∧ Below w.heap.size w w' := by
  have h1 := Place_yes h (nS s) (Nat.le_refl _)
  rw [bAt_end] at h1
  exact h1
/-- string(b), b's cells known -/
theorem conv_bytes {w : World} {g c : Nat} {l : List UInt8} (h : ∀ j (hj : j < l.length), w.cell? ⟨g, j, none⟩ = some (.int .u8 (l[j].toNat : Int))) :
    (convert 56 9 (.slice (some ⟨g, 0, none⟩) l.length c)).run Tryd.prog w = .ok (.string ⟨l.toArray⟩) w :=
  run_convert_bytes_back w 56 9 5 ⟨g, 0, none⟩ c l Tryd.underlying56 Tryd.underlying5 Tryd.underlying9 (fun j hj => by
    have hadd : (⟨g, 0, none⟩ : Addr).add j = ⟨g, j, none⟩ := by unfold Addr.add; split <;> simp_all
    rw [hadd]
    exact h j hj)
/-- a slice that holds a text's spots -/
def SpotsAre (w : World) (A : Option Addr) (s : ByteArray) : Prop := 0 < nS s → ∃ g, A = some ⟨g, 0, none⟩ ∧ g < w.heap.size ∧ ∀ j, j < nS s * 4 → w.cell? ⟨g, j, none⟩ = (sptsCells (sp s))[j]?
theorem SpotsAre.below {w w' : World} {A : Option Addr} {s : ByteArray} (h : SpotsAre w A s) (hb : Below w.heap.size w w') : SpotsAre w' A s := fun hn => by
  obtain ⟨g, hg, hl, hc⟩ := h hn
  exact ⟨g, hg, Nat.lt_of_lt_of_le hl hb.size, fun j hj => (hb.cell (p := ⟨g, j, none⟩) hl).trans (hc j hj)⟩
theorem Spots_is (s : ByteArray) (w : World) (hm : s.size ≤ 1048576) :
    Calls Tryd.prog 21 #[.string s] w fun e w' => (∃ A c, e = .returned (.slice A (nS s) c) ∧ SpotsAre w' A s) ∧ Below w.heap.size w w' :=
  (Spots_any s w hm).mono fun e w' ⟨v, he, hown, hb⟩ => by
    obtain ⟨A, c, rfl, hA⟩ := own_form hown
    refine ⟨⟨A, c, he, fun hn => ?_⟩, hb⟩
    obtain ⟨g, hg, _, hl, hc⟩ := hA hn
    exact ⟨g, hg, hl, hc⟩
end Go.Proofs.YtkenffbonnbflaaDoor
