/- Walks: the ends of a line, and a line. -/
import Derived.Test.YtkenffbonnbflaaDoorText2
import Derived.Test.YtkenffbonnbflaaDoorPlb
namespace Go.Proofs.YtkenffbonnbflaaDoor
open Go.RowKit
set_option linter.unusedVariables false

theorem toList_len (s : ByteArray) : s.data.toList.length = s.size := by rw [Array.length_toList]; rfl
theorem bAt_pos (s : ByteArray) (i : Nat) : bAt s i = posL s.data.toList i := by
  unfold bAt posL sp; rw [toList_len]
theorem bAt_mono (s : ByteArray) (i j : Nat) (h : i ≤ j) (hj : j ≤ nS s) : bAt s i ≤ bAt s j := by
  rw [bAt_pos, bAt_pos]; exact posL_le _ i j h hj
/-- the spot behind the last one of line i (from 0 on) -/
def eAt (s : ByteArray) (i : Nat) : Nat := endL s.data.toList i
theorem eAt_ge (s : ByteArray) (i : Nat) (h : i < nL s) : lAt s i ≤ eAt s i ∧ eAt s i ≤ nS s := endL_ge s.data.toList i h
theorem eAt_next (s : ByteArray) (i : Nat) (h : i + 1 < nL s) : eAt s i = lAt s (i + 1) - 1 := by
  exact if_pos h
theorem eAt_last (s : ByteArray) (i : Nat) (h : ¬ i + 1 < nL s) : eAt s i = nS s := by
  exact if_neg h
theorem lAt_pos (s : ByteArray) (i : Nat) (h : i + 1 < nL s) : 1 ≤ lAt s (i + 1) := by
  have := lineL_lt s.data.toList 0 (i + 1) (by omega) h
  show 1 ≤ lineL s.data.toList (i + 1)
  omega
/-- line i's text -/
def lineS (s : ByteArray) (i : Nat) : ByteArray := s.extract (bAt s (lAt s i)) (bAt s (eAt s i))

section
variable {w : World} {T : Nat} {s : ByteArray} {gb cb gl cl : Nat}
theorem ends_no (h : TextIs w T s gb cb gl cl) (n : Int) (hn : n < 1 ∨ (nL s : Int) < n) :
    Calls Tryd.prog 95 #[.pointer (some ⟨T, 0, none⟩), .int .i64 n] w fun e w' => e = .returned (.tuple #[.int .i64 0, .int .i64 0, .bool false]) ∧ w = w' := by
  have c2 := h.c2
  rcases Int.lt_or_le n 1 with h0 | h0
  · clear hn
    go_enter Tryd.func95, Tryd.ntmps95
    go_wp2_with fail
    go_ret3
    exact ⟨rfl, rfl⟩
  · have hn' : (nL s : Int) < n := by omega
    clear hn
    go_enter Tryd.func95, Tryd.ntmps95
    go_wp2_with fail
    go_ret3
    exact ⟨rfl, rfl⟩
/-- i: from 0 on; the Go text counts from 1 on -/
theorem ends_yes (h : TextIs w T s gb cb gl cl) (i : Nat) (hi : i < nL s) :
    Calls Tryd.prog 95 #[.pointer (some ⟨T, 0, none⟩), .int .i64 ((i : Int) + 1)] w fun e w' => e = .returned (.tuple #[.int .i64 (lAt s i : Int), .int .i64 (eAt s i : Int), .bool true]) ∧ w = w' := by
  have c2 := h.c2
  have hs := h.size
  have hns := nS_le s
  have hnl := nL_le s
  have hl := h.hl i hi
  have HC := Lib.hid (Count_any h)
  by_cases hlast : i + 1 < nL s
  · have hl2 := h.hl (i + 1) hlast
    have hp := lAt_pos s i hlast
    have hle := lAt_le s (i + 1)
    have He := Lib.hid (eAt_next s i hlast)
    go_enter Tryd.func95, Tryd.ntmps95
    go_wp2_with (go_at_call 56; refine HC.out.mono ?_; rintro e w' ⟨rfl, rfl⟩)
    go_ret3
    refine ⟨?_, rfl⟩
    rw [He.out]
    exact congrArg (fun x => Ending.returned (.tuple #[.int .i64 (lAt s i : Int), .int .i64 x, .bool true])) (by omega)
  · have He := Lib.hid (eAt_last s i hlast)
    go_enter Tryd.func95, Tryd.ntmps95
    go_wp2_with (go_at_call 56; refine HC.out.mono ?_; rintro e w' ⟨rfl, rfl⟩)
    go_ret3
    refine ⟨?_, rfl⟩
    rw [He.out]
    rfl
theorem Line_no (h : TextIs w T s gb cb gl cl) (n : Int) (hn : n < 1 ∨ (nL s : Int) < n) :
    Calls Tryd.prog 77 #[.pointer (some ⟨T, 0, none⟩), .int .i64 n] w fun e w' => e = .returned (.tuple #[.string ⟨#[]⟩, .bool false]) ∧ w = w' := by
  have HE := Lib.hid (ends_no h n hn)
  clear hn
  go_enter Tryd.func77, Tryd.ntmps77
  go_wp2_with (go_at_call 95; refine HE.out.mono ?_; rintro e w' ⟨rfl, rfl⟩)
  go_ret2
  exact ⟨rfl, rfl⟩
theorem Line_yes (h : TextIs w T s gb cb gl cl) (i : Nat) (hi : i < nL s) :
    Calls Tryd.prog 77 #[.pointer (some ⟨T, 0, none⟩), .int .i64 ((i : Int) + 1)] w fun e w' => e = .returned (.tuple #[.string (lineS s i), .bool true]) ∧ ∃ n, w' = w.drewN n := by
  have hs := h.size
  have hns := nS_le s
  have hnl := nL_le s
  obtain ⟨g1, g2⟩ := eAt_ge s i hi
  have HE := Lib.hid (ends_yes h i hi)
  have HS := Lib.hid (Slice_yes h (lAt s i) (eAt s i) g1 g2 (bAt_mono s _ _ g1 g2))
  go_enter Tryd.func77, Tryd.ntmps77
  go_wp2_with (first
    | (go_at_call 95; refine HE.out.mono ?_; rintro e w' ⟨rfl, rfl⟩)
    | (go_at_call 73; refine HS.out.mono ?_; rintro e w' ⟨rfl, nd, rfl⟩))
  go_ret2
  exact ⟨rfl, _, rfl⟩
end
end Go.Proofs.YtkenffbonnbflaaDoor
