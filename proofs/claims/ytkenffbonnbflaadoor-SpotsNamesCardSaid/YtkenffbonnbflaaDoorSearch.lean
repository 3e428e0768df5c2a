/- Walks: slices.BinarySearch of rising numbers. -/
import Derived.Test.YtkenffbonnbflaaDoorLine
import Derived.Deep.Draws
import Derived.Shelf.RegionOpenPlain
namespace Go.Proofs.YtkenffbonnbflaaDoor
open Go.RowKit
set_option linter.unusedVariables false

theorem cmpIsNaN (x : Int) (w : World) : Calls Tryd.prog 105 #[.int .i64 x] w fun e w' => e = .returned (.bool false) ∧ w = w' := by
  go_enter Tryd.func105, Tryd.ntmps105
  go_wp2
  go_ret
  exact ⟨by simp, rfl⟩
theorem slicesIsNaN (x : Int) (w : World) : Calls Tryd.prog 104 #[.int .i64 x] w fun e w' => e = .returned (.bool false) ∧ w = w' := by
  go_enter Tryd.func104, Tryd.ntmps104
  go_wp2
  go_ret
  exact ⟨by simp, rfl⟩
theorem cmpLess (x y : Int) (w : World) : Calls Tryd.prog 103 #[.int .i64 x, .int .i64 y] w fun e w' => e = .returned (.bool (decide (x < y))) ∧ w = w' := by
  go_enter Tryd.func103, Tryd.ntmps103
  go_wp2_with (go_at_call 105; refine (cmpIsNaN _ _).mono ?_; rintro e w' ⟨rfl, rfl⟩)
  go_ret
  exact ⟨rfl, rfl⟩

set_option maxHeartbeats 4000000 in
set_option maxRecDepth 1000000 in
theorem Search_any (g n c : Nat) (f : Nat → Int) (x : Int) (w : World) (hn : n ≤ 1048576) (hx : -9223372036854775808 ≤ x ∧ x ≤ 9223372036854775807)
    (hc : ∀ j, j < n → w.cell? ⟨g, j, none⟩ = some (.int .i64 (f j))) (hs : ∀ a b, a ≤ b → b < n → f a ≤ f b) :
    Calls Tryd.prog 94 #[.slice (some ⟨g, 0, none⟩) n c, .int .i64 x] w fun e w' => (∃ r : Nat, r ≤ n ∧ (∀ t, t < r → f t < x) ∧ (∀ t, r ≤ t → t < n → x ≤ f t) ∧ e = .returned (.tuple #[.int .i64 (r : Int), .bool (decide (r < n ∧ f r = x))])) ∧ ∃ q, w.drewN q = w' := by
  have S := Lib.hid hs
  have C := Lib.hid hc
  clear hs hc
  go_enter Tryd.func94, Tryd.ntmps94
  go_wp2
  go_loopw [7, 8] (fun s7 s8 wr => ∃ lo hi q : Nat, s7 = .int .i64 lo ∧ s8 = .int .i64 hi ∧ lo ≤ hi ∧ hi ≤ n ∧ wr = w.drewN q ∧ (∀ t, t < lo → f t < x) ∧ (∀ t, hi ≤ t → t < n → x ≤ f t)) (fun s7 s8 _ => (intOf s8).toNat - (intOf s7).toNat)
  case atStart => exact ⟨0, n, 0, rfl, rfl, Nat.zero_le _, Nat.le_refl _, rfl, fun t ht => absurd ht (Nat.not_lt_zero _), fun t h1 h2 => by omega⟩
  case round =>
    obtain ⟨lo, hi, q, rfl, rfl, hlh, hin, rfl, h1, h2⟩ := hrel
    have H1 := Lib.hid h1
    have H2 := Lib.hid h2
    clear h1 h2
    by_cases hlt : lo < hi
    · have cm := C.out ((lo + hi) / 2) (by omega)
      generalize hy : f ((lo + hi) / 2) = y at cm
      have Y := Lib.hid hy
      clear hy
      by_cases hyx : y < x
      · go_wp2_with (first | (go_at_call 103; refine (cmpLess _ _ _).mono ?_; rintro e w' ⟨rfl, rfl⟩))
        go_roundw
        case rel =>
          refine ⟨(lo + hi) / 2 + 1, hi, _, by rw [show ((lo : Int) + (hi : Int)) / 2 + 1 = (((lo + hi) / 2 + 1 : Nat) : Int) by omega], rfl, by omega, hin, rfl, fun t ht => ?_, H2.out⟩
          have := S.out t ((lo + hi) / 2) (by omega) (by omega)
          rw [Y.out] at this
          omega
        case measure => simp [intOf]; omega
      · go_wp2_with (first | (go_at_call 103; refine (cmpLess _ _ _).mono ?_; rintro e w' ⟨rfl, rfl⟩))
        go_roundw
        case rel =>
          refine ⟨lo, (lo + hi) / 2, _, rfl, by rw [show ((lo : Int) + (hi : Int)) / 2 = (((lo + hi) / 2 : Nat) : Int) by omega], by omega, by omega, rfl, H1.out, fun t ht htn => ?_⟩
          have := S.out ((lo + hi) / 2) t ht htn
          rw [Y.out] at this
          omega
        case measure => simp [intOf]; omega
    · obtain rfl : hi = lo := by omega
      by_cases hnn : hi < n
      · have cl := C.out hi hnn
        generalize hy : f hi = y at cl
        have Y := Lib.hid hy
        clear hy
        by_cases hyx : y = x
        · go_wp2_with (first | (go_at_call 104; refine (slicesIsNaN _ _).mono ?_; rintro e w' ⟨rfl, rfl⟩))
          go_ret2
          refine ⟨⟨hi, hin, H1.out, H2.out, ?_⟩, _, rfl⟩
          rw [Y.out, decide_eq_true (show hi < n ∧ y = x from ⟨hnn, hyx⟩)]
          first | rfl | simp [*]
        · go_wp2_with (first | (go_at_call 104; refine (slicesIsNaN _ _).mono ?_; rintro e w' ⟨rfl, rfl⟩))
          go_ret2
          refine ⟨⟨hi, hin, H1.out, H2.out, ?_⟩, _, rfl⟩
          rw [Y.out, decide_eq_false (show ¬ (hi < n ∧ y = x) from fun h => hyx h.2)]
          first | rfl | simp [*]
      · go_wp2_with (first | (go_at_call 104; refine (slicesIsNaN _ _).mono ?_; rintro e w' ⟨rfl, rfl⟩))
        go_ret2
        refine ⟨⟨hi, hin, H1.out, H2.out, ?_⟩, _, rfl⟩
        rw [decide_eq_false (show ¬ (hi < n ∧ f hi = x) from fun h => hnn h.1)]
        first | rfl | simp [*]
end Go.Proofs.YtkenffbonnbflaaDoor
