/- Lists of strings in memory; walk: guisebook.Same at strings (lines of XBookS0, for the seat that has no more of it). -/
import Derived.Test.YtkenffbonnbflaaDoorParts
import Derived.Test.YtkenffbonnbflaaDoorQuiet
import Derived.Laws.OwnMore
namespace Go.Proofs.YtkenffbonnbflaaDoor
open Go.RowKit
set_option linter.unusedVariables false

theorem addr_block (a : Addr) (j : Nat) : (a.add j).block = a.block := by unfold Addr.add; split <;> rfl
theorem addr_add0 (g o j : Nat) : (⟨g, o, none⟩ : Addr).add j = ⟨g, o + j, none⟩ := by unfold Addr.add; split <;> simp_all
/-- a slice that holds strings -/
def StrsAt (w : World) (A : Option Addr) (ns : List ByteArray) : Prop := 0 < ns.length → ∃ a : Addr, A = some a ∧ a.block < w.heap.size ∧ ∀ j, j < ns.length → w.cell? (a.add j) = some (.string (ns.getD j ⟨#[]⟩))
theorem StrsAt.below {w w' : World} {A : Option Addr} {ns : List ByteArray} (h : StrsAt w A ns) (hb : Below w.heap.size w w') : StrsAt w' A ns := fun hn => by
  obtain ⟨a, hg, hl, hc⟩ := h hn
  exact ⟨a, hg, Nat.lt_of_lt_of_le hl hb.size, fun j hj => (hb.cell (p := a.add j) (by rw [addr_block]; exact hl)).trans (hc j hj)⟩

set_option maxHeartbeats 1000000 in
theorem sameStr (ns : List ByteArray) (A B : Option Addr) (c d : Nat) (w : World) (h1 : StrsAt w A ns) (h2 : StrsAt w B ns) (hl : ns.length ≤ 9223372036854775806) :
    Calls Tryd.prog 79 #[.slice A ns.length c, .slice B ns.length d] w fun e w' => e = .returned (.bool true) ∧ ∃ q, w.drewN q = w' := by
  have H1 := Lib.hid h1
  have H2 := Lib.hid h2
  obtain ⟨n, hn⟩ : ∃ n, ns.length = n := ⟨_, rfl⟩
  have Hn := Lib.hid hn
  rw [hn] at hl
  rw [hn]
  have t0 : ((n : Int) == (n : Int)) = true := by rw [beq_iff_eq]
  clear h1 h2 hn
  go_enter Tryd.func79, Tryd.ntmps79
  go_wp2_with fail
  go_loopw [5] (fun i wr => ∃ k q : Nat, k ≤ n ∧ i = .int .i64 (k : Int) ∧ wr = w.drewN q) (fun i _ => n - (intOf i).toNat)
  case atStart => exact ⟨0, 0, Nat.zero_le _, rfl, rfl⟩
  case round =>
    obtain ⟨k, q, hk, rfl, rfl⟩ := hrel
    by_cases hlt : k < n
    · obtain ⟨a, rfl, hg, hc⟩ := H1.out (by rw [Hn.out]; omega)
      obtain ⟨a', rfl, hg', hc'⟩ := H2.out (by rw [Hn.out]; omega)
      have c1 := hc k (by rw [Hn.out]; exact hlt)
      have c2 := hc' k (by rw [Hn.out]; exact hlt)
      clear hc hc'
      generalize ns.getD k ⟨#[]⟩ = r at c1 c2
      go_wp2_with fail
      go_quiet (fail)
      go_wp2_with fail
      go_roundw
      case rel => exact ⟨k + 1, _, by omega, by go_num, rfl⟩
      case measure => simp [intOf]; omega
    · obtain rfl : k = n := by omega
      go_wp2_with fail
      go_ret
      exact ⟨rfl, _, rfl⟩

end Go.Proofs.YtkenffbonnbflaaDoor
