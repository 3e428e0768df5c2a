/- Walk: utf.Count: how many spots a text has. -/
import Derived.Test.YtkenffbonnbflaaDoorBytes
import Derived.Test.YtkenffbonnbflaaDoorPlc
namespace Go.Proofs.YtkenffbonnbflaaDoor
open Go.RowKit
set_option linter.unusedVariables false

set_option maxRecDepth 100000 in
set_option maxHeartbeats 2000000 in
theorem utfCount (s : ByteArray) (w : World) (hm : s.size ≤ 9223372036854775806) :
    Calls Tryd.prog 67 #[.string s] w fun e w' => e = .returned (.int .i64 (nS s : Int)) ∧ Below w.heap.size w w' := by
  go_enter Tryd.func67, Tryd.ntmps67
  go_wp2
  go_loopw [3] (fun n wr => ∃ (pos : Nat) (acc : List Spt), pos ≤ s.size ∧ acc.length ≤ pos ∧ n = .int .i64 (acc.length : Int) ∧ wr = w.iter s pos ∧ acc ++ spotsAt pos (s.data.toList.drop pos) = spots s.data.toList) (fun _ wr => s.size - wr.iterPos w.heap.size)
  case atStart => exact ⟨0, [], Nat.zero_le _, Nat.zero_le _, rfl, rfl, by simp [spots]⟩
  case round =>
    obtain ⟨pos, acc, hp, hal, rfl, rfl, hspots⟩ := hrel
    have Hsp := Lib.hid hspots
    clear hspots
    by_cases hlt : pos < s.size
    · have hnx : ∀ ty, (Instr.next (.pointer (some ⟨w.heap.size, 0, none⟩)) true ty).run Tryd.prog (w.iter s pos) = _ := fun ty => run_next_any w s pos ty hlt
      have hw := spt_width s pos hlt
      have Hd := Lib.hid (Lib.decodeL_drop s pos)
      have hn2 : (sptOf pos (s.data.toList.drop pos)).n = (Utf8.decode s pos).2 := by
        show (Lib.decodeL (s.data.toList.drop pos)).2 = _
        rw [Lib.decodeL_drop]
      have Hst := Lib.hid (spots_step s pos hlt acc _ rfl Hsp.out)
      rw [hn2] at hw
      go_wp2
      go_roundw
      case rel =>
        refine ⟨pos + (Utf8.decode s pos).2, acc ++ [sptOf pos (s.data.toList.drop pos)], by omega, by simp; omega, by rw [List.length_append]; go_num, rfl, ?_⟩
        have h := Hst.out
        rw [hn2] at h
        exact h
      case measure =>
        simp
        omega
    · have hnx : ∀ ty, (Instr.next (.pointer (some ⟨w.heap.size, 0, none⟩)) true ty).run Tryd.prog (w.iter s pos) = _ := fun ty => run_next_end w s pos ty hlt
      have hacc := spots_end s pos hlt acc Hsp.out
      go_wp2
      go_ret
      refine ⟨?_, (Below.refl _ w).alloc (Nat.le_refl _) _⟩
      rw [hacc]
      rfl
theorem nS_piece (s : ByteArray) (a b : Nat) (hab : a ≤ b) (hb : b ≤ nS s) : nS (s.extract (bAt s a) (bAt s b)) = b - a := by
  have h := spots_piece s.data.toList a b hab hb
  unfold nS sp
  rw [ext_list, bAt_pos, bAt_pos]
  exact h
end Go.Proofs.YtkenffbonnbflaaDoor
