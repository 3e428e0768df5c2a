/- Walk: guisebook.Within: what comes back lies in the range. -/
import Derived.Test.YtkenffbonnbflaaDoorBegun
namespace Go.Proofs.YtkenffbonnbflaaDoor
open Go.RowKit
set_option linter.unusedVariables false
def InRange (lo hi : Int) (w : World) (e : Ending) (w' : World) : Prop := ∃ r : Int, lo ≤ r ∧ r ≤ hi ∧ e = .returned (.int .i64 r) ∧ w = w'
theorem InRange.mk {lo hi r : Int} {w : World} {e : Ending} (h1 : lo ≤ r) (h2 : r ≤ hi) (he : e = .returned (.int .i64 r)) : InRange lo hi w e w := ⟨r, h1, h2, he, rfl⟩
theorem tmod_lo (n m : Int) (hm : 0 < m) : -m < n.tmod m ∧ n.tmod m < m := by
  have h := Int.tmod_eq_emod (a := n) (b := m)
  have h1 := Int.emod_nonneg n (b := m) (by omega)
  have h2 := Int.emod_lt_of_pos n hm
  have h3 : (m.natAbs : Int) = m := by omega
  rw [h]
  split <;> omega
set_option maxHeartbeats 1000000 in
theorem Within_any (n lo hi : Int) (w : World) (h0 : -4294967296 ≤ lo) (h1 : lo ≤ hi) (h2 : hi ≤ 4294967296) (hn1 : -9223372036854775808 ≤ n) (hn2 : n ≤ 9223372036854775807) :
    Calls Tryd.prog 68 #[.int .i64 n, .int .i64 lo, .int .i64 hi] w (InRange lo hi w) := by
  obtain ⟨m1, m2⟩ := tmod_lo n (hi - lo + 1) (by omega)
  generalize hm : n.tmod (hi - lo + 1) = m at *
  go_enter Tryd.func68, Tryd.ntmps68
  go_wp2
  all_goals go_ret
  all_goals exact InRange.mk (by omega) (by omega) rfl
end Go.Proofs.YtkenffbonnbflaaDoor
