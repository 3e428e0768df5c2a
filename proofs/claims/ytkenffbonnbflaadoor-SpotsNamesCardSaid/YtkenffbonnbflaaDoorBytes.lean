/- Bytes of a string as cells: string(b) of a row of the call's own; pieces of a text. -/
import Derived.Test.YtkenffbonnbflaaDoorLine
import Derived.Lib.AppendStr
import Derived.Lib.BufferRead
namespace Go.Proofs.YtkenffbonnbflaaDoor
open Go.RowKit
set_option linter.unusedVariables false
theorem infoU8 : (Tryd.prog.info? 5).map (fun i => (i.zero, i.size, i.bytes)) = some (some (.int .u8 0), 1, 1) := by kernel_rfl
/-- string(b), b a row of the call's own -/
theorem conv_own {w : World} {base n : Nat} {v : Value} {s : ByteArray} (h : w.ownsRow base 5 1 v n (Lib.strCells s)) :
    (convert 56 9 v).run Tryd.prog w = .ok (.string s) w := by
  have hl : n = s.size := by have := h.1; rw [Lib.strCells_length] at this; omega
  rcases h.2 with ⟨rfl, h0⟩ | ⟨g, cap, cur, rfl, _, hh, _⟩
  · have hs : s = ByteArray.empty := ByteArray.size_eq_zero_iff.1 (by omega)
    rw [hs]
    exact Lib.run_convert_nil_bytes w 56 9 5 0 Tryd.underlying56 Tryd.underlying5 Tryd.underlying9
  · subst hl
    have h2 := conv_bytes (w := w) (g := g) (c := cap) (l := s.data.toList) (fun j hj => by
      rw [h.cellAt j (by rw [toList_len] at hj; omega)]
      simp only [Lib.strCells, List.getElem?_map, List.getElem?_eq_getElem hj, Option.map_some])
    rw [toList_len] at h2
    exact h2
theorem ext_list (s : ByteArray) (a b : Nat) : (s.extract a b).data.toList = (s.data.toList.drop a).take (b - a) := by
  rw [ByteArray.data_extract, Array.toList_extract, List.extract_eq_take_drop]
theorem strCells_ext (s : ByteArray) (a b : Nat) (h : a ≤ b) : Lib.strCells (s.extract 0 a) ++ Lib.strCells (s.extract a b) = Lib.strCells (s.extract 0 b) := by
  unfold Lib.strCells
  rw [← List.map_append, ext_list, ext_list, ext_list]
  congr 1
  simp only [List.drop_zero, Nat.sub_zero]
  have e : b = a + (b - a) := by omega
  conv => rhs; rw [e, List.take_add]
theorem strCells_one (s : ByteArray) (m : Nat) (c : UInt8) (h : s.data.toList[m]? = some c) : Lib.strCells (s.extract 0 m) ++ [.int .u8 (c.toNat : Int)] = Lib.strCells (s.extract 0 (m + 1)) := by
  unfold Lib.strCells
  rw [ext_list, ext_list]
  simp only [List.drop_zero, Nat.sub_zero]
  rw [List.take_add_one, h]
  simp
theorem ext_zero (s : ByteArray) : Lib.strCells (s.extract 0 0) = [] := by
  unfold Lib.strCells; rw [ext_list]; simp
theorem ext_all (s : ByteArray) : s.extract 0 s.size = s := by
  apply ByteArray.ext
  apply Array.ext'
  have h := ext_list s 0 s.size
  rw [h, List.drop_zero, Nat.sub_zero, List.take_of_length_le (by rw [toList_len]; exact Nat.le_refl _)]
theorem ext_size (s : ByteArray) (a b : Nat) (h : a ≤ b) (hb : b ≤ s.size) : (s.extract a b).size = b - a := by
  rw [ByteArray.size_extract]; omega
end Go.Proofs.YtkenffbonnbflaaDoor
