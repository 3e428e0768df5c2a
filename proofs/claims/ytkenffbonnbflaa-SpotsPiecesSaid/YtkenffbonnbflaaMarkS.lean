/- Walk: guisebook.Strings. -/
import Derived.Test.YtkenffbonnbflaaBookSP
namespace Go.Proofs.Ytkenffbonnbflaa
open Go.RowKit
set_option linter.unusedVariables false

/-- the mark of the list i -/
def mkL (i : Nat) : List UInt8 := [UInt8.ofNat (i % 256), UInt8.ofNat (i / 256 % 256), UInt8.ofNat (i / 65536)]
def mkB (i : Nat) : ByteArray := ⟨#[109, 97, 114, 107, 32]⟩ ++ ⟨(mkL i).toArray⟩
theorem ofNat_toNat (n : Nat) (h : n < 256) : ((UInt8.ofNat n).toNat : Int) = (n : Int) := by
  rw [UInt8.toNat_ofNat_of_lt' h]
set_option maxHeartbeats 1000000 in
theorem markR (i : Nat) (j : Int) (w : World) (hi : i ≤ 1000000) : Calls Try.prog 23 #[.int .i64 (i : Int), .int .i64 j] w fun e w' => e = .returned (.string (mkB i)) ∧ Below w.heap.size w w' := by
  have hcv : (convert 22 9 (.slice (some ⟨w.heap.size, 0, none⟩) 3 3)).run Try.prog (w.alloc (.cells #[.int .u8 ((i : Int) % 256), .int .u8 ((i : Int) / 256 % 256), .int .u8 ((i : Int) / 65536)] 5)) = .ok (.string ⟨(mkL i).toArray⟩) (w.alloc (.cells #[.int .u8 ((i : Int) % 256), .int .u8 ((i : Int) / 256 % 256), .int .u8 ((i : Int) / 65536)] 5)) := by
    refine conv_bytes (g := w.heap.size) (c := 3) (l := mkL i) (fun j hj => ?_)
    rw [(Blk.new w 5 #[.int .u8 ((i : Int) % 256), .int .u8 ((i : Int) / 256 % 256), .int .u8 ((i : Int) / 65536)]).cell j]
    have hj3 : j < 3 := hj
    have h0 : ((UInt8.ofNat (i % 256)).toNat : Int) = (i : Int) % 256 := by rw [ofNat_toNat _ (by omega)]; omega
    have h1 : ((UInt8.ofNat (i / 256 % 256)).toNat : Int) = (i : Int) / 256 % 256 := by rw [ofNat_toNat _ (by omega)]; omega
    have h2 : ((UInt8.ofNat (i / 65536)).toNat : Int) = (i : Int) / 65536 := by rw [ofNat_toNat _ (by omega)]; omega
    have hc : j = 0 ∨ j = 1 ∨ j = 2 := by omega
    rcases hc with rfl | rfl | rfl
    · simp only [mkL, List.getElem_cons_zero, h0]; rfl
    · simp only [mkL, List.getElem_cons_succ, List.getElem_cons_zero, h1]; rfl
    · simp only [mkL, List.getElem_cons_succ, List.getElem_cons_zero, h2]; rfl
  go_enter Try.func23, Try.ntmps23
  go_wp2_with fail
  go_ret
  exact ⟨rfl, (Below.refl _ w).alloc (Nat.le_refl _) _⟩
end Go.Proofs.Ytkenffbonnbflaa
