/- The spots from the end: the last spot of a beginning. -/
import Derived.Test.YtkenffbonnbflaaDoorIter
namespace Go.Proofs.YtkenffbonnbflaaDoor
open Go.RowKit
set_option linter.unusedVariables false

theorem back_dec (s : ByteArray) (k : Nat) (hk : k < nS s) : Lib.decodeLastL (s.extract 0 (bAt s (k + 1))).data.toList = ((spA s k).r, (spA s k).n) := by
  have e : (s.extract 0 (bAt s (k + 1))).data.toList = s.data.toList.take (wid s.data.toList (k + 1)) := by
    rw [ext_list, List.drop_zero, Nat.sub_zero, bAt_pos, posL_wid s.data.toList (k + 1) hk]
  rw [e]
  have hs : spots (s.data.toList.take (wid s.data.toList (k + 1))) = (spots s.data.toList).take (k + 1) := spots_take (k + 1) 0 s.data.toList
  have hg : (spots s.data.toList)[k]? = some (spA s k) := spA_get s k hk
  refine (last_dec _ k (spA s k) ?_ ?_).1
  · rw [hs, List.length_take]
    have : (spots s.data.toList).length = nS s := rfl
    omega
  · rw [hs, List.getElem?_take_of_lt (by omega)]
    exact hg
end Go.Proofs.YtkenffbonnbflaaDoor
