/- Walks: (*spots.Text).Of. -/
import Derived.Test.YtkenffbonnbflaaDoorNum
namespace Go.Proofs.YtkenffbonnbflaaDoor
open Go.RowKit
set_option linter.unusedVariables false

section
variable {w : World} {T : Nat} {s : ByteArray} {gb cb gl cl : Nat}
theorem Of_no (h : TextIs w T s gb cb gl cl) (b : Int) (hb : b < 0 ∨ (s.size : Int) < b) :
    Calls Tryd.prog 60 #[.pointer (some ⟨T, 0, none⟩), .int .i64 b] w fun e w' => e = .returned (.tuple #[.agg #[.int .i64 0, .int .i64 0], .bool false]) ∧ Below w.heap.size w w' := by
  have h1 := h.below ((Below.refl _ w).alloc (Nat.le_refl _) (.cells #[.int .i64 0, .int .i64 0] 82))
  have HN := Lib.hid (number_no h1 b hb)
  clear hb
  go_enter Tryd.func60, Tryd.ntmps60
  go_wp2_with (go_at_call 92; refine HN.out.mono ?_; rintro e w' ⟨rfl, q, rfl⟩)
  refine bodyPost_ret (v := .tuple #[.agg #[.int .i64 0, .int .i64 0], .bool false]) (by simp [results, Tryd.results60, go_sem]) rfl ⟨rfl, ?_⟩
  first | exact below_ad w _ q | exact ((below_ad w _ _).setCell (Nat.le_refl _) _).setCell (Nat.le_refl _) _
theorem Of_yes (h : TextIs w T s gb cb gl cl) (b n : Nat) (hn : IsNum s b n) (hb : b ≤ s.size) :
    Calls Tryd.prog 60 #[.pointer (some ⟨T, 0, none⟩), .int .i64 (b : Int)] w fun e w' => e = .returned (.tuple #[.agg #[.int .i64 (bAt s n : Int), .int .i64 (n : Int)], .bool true]) ∧ Below w.heap.size w w' := by
  have h1 := h.below ((Below.refl _ w).alloc (Nat.le_refl _) (.cells #[.int .i64 0, .int .i64 0] 82))
  have HN := Lib.hid (number_yes h1 b n hn hb)
  have HT := Lib.hid h1
  have hs := h.size
  have hsn := nS_le s
  obtain ⟨n1, n2, n3⟩ := hn
  clear h1 n3
  go_enter Tryd.func60, Tryd.ntmps60
  go_wp2_with (first
    | (go_at_call 92; refine HN.out.mono ?_; rintro e w' ⟨rfl, q, rfl⟩)
    | (go_at_call 57; refine (Place_yes (HT.out.drewN q) n n1).mono ?_; rintro e w2 ⟨rfl, hb2⟩; have d0 := hb2.cell (p := ⟨w.heap.size, 0, none⟩) (by simp); have d1 := hb2.cell (p := ⟨w.heap.size, 1, none⟩) (by simp); have f0 := hb2.frozen (p := ⟨w.heap.size, 0, none⟩) (by simp); have f1 := hb2.frozen (p := ⟨w.heap.size, 1, none⟩) (by simp); simp [go_sem] at d0 d1 f0 f1))
  have d0' : ((w2.setCell ⟨w.heap.size, 0, none⟩ (.int .i64 (bAt s n : Int))).setCell ⟨w.heap.size, 1, none⟩ (.int .i64 (n : Int))).cell? ⟨w.heap.size, 0, none⟩ = some (.int .i64 (bAt s n : Int)) := by simp [go_sem, d0]
  have d1' : ((w2.setCell ⟨w.heap.size, 0, none⟩ (.int .i64 (bAt s n : Int))).setCell ⟨w.heap.size, 1, none⟩ (.int .i64 (n : Int))).cell? ⟨w.heap.size, 1, none⟩ = some (.int .i64 (n : Int)) := by simp [go_sem, d1]
  refine bodyPost_ret (v := .tuple #[.agg #[.int .i64 (bAt s n : Int), .int .i64 (n : Int)], .bool true]) (by simp [results, Tryd.results60, go_sem, d0', d1']) rfl ⟨rfl, ?_⟩
  exact ((((below_ad w _ q)).trans (hb2.mono (by simp))).setCell (Nat.le_refl _) _).setCell (Nat.le_refl _) _
end
end Go.Proofs.YtkenffbonnbflaaDoor
