/- Walks: what a Text tells: Count, Lines, String, Place, Slice. -/
import Derived.Test.YtkenffbonnbflaaDoorNew
import Derived.Deep.QuietTactic
import Derived.BigQuiet
namespace Go.Proofs.YtkenffbonnbflaaDoor
open Go.RowKit
set_option linter.unusedVariables false

def sp (s : ByteArray) : List Spt := spots s.data.toList
/-- how many spots; how many lines; where a spot begins; which spot begins a line -/
def nS (s : ByteArray) : Nat := (sp s).length
def nL (s : ByteArray) : Nat := (lineStarts (sp s)).length
def bAt (s : ByteArray) (i : Nat) : Nat := (byteStarts (sp s) s.size).getD i 0
def lAt (s : ByteArray) (i : Nat) : Nat := (lineStarts (sp s)).getD i 0

theorem nS_le (s : ByteArray) : nS s ≤ s.size := by
  have h := spots_length_le s.data.toList
  rw [Array.length_toList] at h
  exact h
theorem nL_pos (s : ByteArray) : 1 ≤ nL s := by unfold nL lineStarts; simp
theorem nL_le (s : ByteArray) : nL s ≤ nS s + 1 := lineStarts_length_le _
theorem byteStarts_length (L : List Spt) (n : Nat) : (byteStarts L n).length = L.length + 1 := by simp [byteStarts]
theorem sp_range (s : ByteArray) (x : Spt) (h : x ∈ sp s) : x.r ≤ 1114111 ∧ 1 ≤ x.n ∧ x.n ≤ 4 ∧ x.pos + x.n ≤ s.size := by
  have h1 := spotsAt_range s.data.toList 0 x h
  rw [Array.length_toList] at h1
  have h2 : s.data.size = s.size := rfl
  omega
theorem bAt_le (s : ByteArray) (i : Nat) : bAt s i ≤ s.size := by
  unfold bAt
  rw [List.getD_eq_getElem?_getD]
  cases h : (byteStarts (sp s) s.size)[i]? with
  | none => simp
  | some v =>
    have hm := List.mem_of_getElem? h
    simp only [byteStarts, List.mem_append, List.mem_map, List.mem_singleton] at hm
    rcases hm with ⟨x, hx, rfl⟩ | rfl
    · have := sp_range s x hx
      simp only [Option.getD_some]
      omega
    · simp
theorem lineGo_le : ∀ (i : Nat) (L : List Spt) (v : Nat), v ∈ lineGo i L → v ≤ i + L.length
  | i, [], v, h => by simp [lineGo] at h
  | i, x :: r, v, h => by
    have ih := lineGo_le (i + 1) r v
    simp only [lineGo] at h
    simp only [List.length_cons]
    split at h
    · rcases List.mem_cons.1 h with rfl | h
      · omega
      · have := ih h; omega
    · have := ih h; omega
theorem lAt_le (s : ByteArray) (i : Nat) : lAt s i ≤ nS s := by
  unfold lAt
  rw [List.getD_eq_getElem?_getD]
  cases h : (lineStarts (sp s))[i]? with
  | none => simp
  | some v =>
    have hm := List.mem_of_getElem? h
    simp only [lineStarts, List.mem_cons] at hm
    rcases hm with rfl | hm
    · simp
    · have := lineGo_le _ _ _ hm
      simp only [Option.getD_some, nS]
      omega

/-- a Text, as its methods read it -/
structure TextIs (w : World) (T : Nat) (s : ByteArray) (gb cb gl cl : Nat) : Prop where
  c0 : w.cell? ⟨T, 0, none⟩ = some (.string s)
  c1 : w.cell? ⟨T, 1, none⟩ = some (.slice (some ⟨gb, 0, none⟩) (nS s + 1) cb)
  c2 : w.cell? ⟨T, 2, none⟩ = some (.slice (some ⟨gl, 0, none⟩) (nL s) cl)
  hb : ∀ i, i < nS s + 1 → w.cell? ⟨gb, i, none⟩ = some (.int .i64 (bAt s i : Nat))
  hl : ∀ i, i < nL s → w.cell? ⟨gl, i, none⟩ = some (.int .i64 (lAt s i : Nat))
  size : s.size ≤ 65536
  tT : T < w.heap.size
  tb : gb < w.heap.size
  tl : gl < w.heap.size

theorem TextIs.below {w w' : World} {T : Nat} {s : ByteArray} {gb cb gl cl : Nat} (h : TextIs w T s gb cb gl cl) (hb : Below w.heap.size w w') : TextIs w' T s gb cb gl cl :=
  ⟨(hb.cell (p := ⟨T, 0, none⟩) h.tT).trans h.c0, (hb.cell (p := ⟨T, 1, none⟩) h.tT).trans h.c1, (hb.cell (p := ⟨T, 2, none⟩) h.tT).trans h.c2,
    fun i hi => (hb.cell (p := ⟨gb, i, none⟩) h.tb).trans (h.hb i hi), fun i hi => (hb.cell (p := ⟨gl, i, none⟩) h.tl).trans (h.hl i hi), h.size,
    Nat.lt_of_lt_of_le h.tT hb.size, Nat.lt_of_lt_of_le h.tb hb.size, Nat.lt_of_lt_of_le h.tl hb.size⟩
theorem natCells_get (l : List Nat) (i : Nat) (h : i < l.length) : (natCells l)[i]? = some (.int .i64 (l.getD i 0 : Nat)) := by
  simp [natCells, h]
theorem TextAt.is {w : World} {base T : Nat} {s : ByteArray} {vb vl : Value} (h : TextAt w base T s (byteStarts (sp s) s.size) (lineStarts (sp s)) vb vl) (hs : s.size ≤ 65536) :
    ∃ gb cb gl cl, TextIs w T s gb cb gl cl ∧ vb = .slice (some ⟨gb, 0, none⟩) (nS s + 1) cb ∧ vl = .slice (some ⟨gl, 0, none⟩) (nL s) cl := by
  obtain ⟨hT, h1, h2, _⟩ := h
  rw [byteStarts_length] at h1
  have e1 := h1
  have e2 := h2
  obtain ⟨gb, cb, rfl, _, tb⟩ := h1.form (by omega)
  obtain ⟨gl, cl, rfl, _, tl⟩ := h2.form (nL_pos s)
  have c0 := hT.cell 0
  have c1 := hT.cell 1
  have c2 := hT.cell 2
  refine ⟨gb, cb, gl, cl, ⟨c0, c1, c2, fun i hi => ?_, fun i hi => ?_, hs, hT.lt, tb, tl⟩, rfl, rfl⟩
  · rw [h1.cellAt i (by simp only [nS] at hi; omega)]
    exact natCells_get _ i (by rw [byteStarts_length]; exact hi)
  · rw [h2.cellAt i (by simp only [nL] at hi; omega)]
    exact natCells_get _ i hi

section
variable {w : World} {T : Nat} {s : ByteArray} {gb cb gl cl : Nat}
theorem Count_any (h : TextIs w T s gb cb gl cl) :
    Calls Tryd.prog 56 #[.pointer (some ⟨T, 0, none⟩)] w fun e w' => e = .returned (.int .i64 (nS s : Int)) ∧ w = w' := by
  have c1 := h.c1
  have hn := nS_le s
  have hs := h.size
  go_enter Tryd.func56, Tryd.ntmps56
  go_wp2
  go_ret
  exact ⟨ret_int (by omega), rfl⟩
theorem Lines_any (h : TextIs w T s gb cb gl cl) :
    Calls Tryd.prog 91 #[.pointer (some ⟨T, 0, none⟩)] w fun e w' => e = .returned (.int .i64 (nL s : Int)) ∧ w = w' := by
  have c2 := h.c2
  go_enter Tryd.func91, Tryd.ntmps91
  go_wp2
  go_ret
  exact ⟨rfl, rfl⟩
theorem String_any (h : TextIs w T s gb cb gl cl) :
    Calls Tryd.prog 55 #[.pointer (some ⟨T, 0, none⟩)] w fun e w' => e = .returned (.string s) ∧ w = w' := by
  have c0 := h.c0
  go_enter Tryd.func55, Tryd.ntmps55
  go_wp2
  go_ret
  exact ⟨rfl, rfl⟩
theorem Place_yes (h : TextIs w T s gb cb gl cl) (n : Nat) (hn : n ≤ nS s) :
    Calls Tryd.prog 57 #[.pointer (some ⟨T, 0, none⟩), .int .i64 (n : Int)] w fun e w' => e = .returned (.tuple #[.agg #[.int .i64 (bAt s n : Int), .int .i64 (n : Int)], .bool true]) ∧ Below w.heap.size w w' := by
  have c1 := h.c1
  have hsn := nS_le s
  have hs := h.size
  have hb := h.hb n (by omega)
  have hT := h.tT
  have hgb := h.tb
  have hcnt := fun w (h : TextIs w T s gb cb gl cl) => Count_any h
  have h1 := h.below ((Below.refl _ w).alloc (Nat.le_refl _) (.cells #[.int .i64 0, .int .i64 0] 82))
  have H1 := Lib.hid (Count_any h1)
  clear hcnt h1
  go_enter Tryd.func57, Tryd.ntmps57
  go_wp2_with (go_at_call 56; refine H1.out.mono ?_; rintro e w' ⟨rfl, rfl⟩)
  refine bodyPost_ret (v := .tuple #[.agg #[.int .i64 (bAt s n : Int), .int .i64 (n : Int)], .bool true]) (by simp [results, Tryd.results57, go_sem]) rfl ⟨rfl, ?_⟩
  exact (Below.refl _ _).alloc (Nat.le_refl _) _
theorem Place_no (h : TextIs w T s gb cb gl cl) (n : Int) (hn : n < 0 ∨ (nS s : Int) < n) :
    Calls Tryd.prog 57 #[.pointer (some ⟨T, 0, none⟩), .int .i64 n] w fun e w' => e = .returned (.tuple #[.agg #[.int .i64 0, .int .i64 0], .bool false]) ∧ Below w.heap.size w w' := by
  have hsn := nS_le s
  have hs := h.size
  have h1 := h.below ((Below.refl _ w).alloc (Nat.le_refl _) (.cells #[.int .i64 0, .int .i64 0] 82))
  have H1 := Lib.hid (Count_any h1)
  clear h1
  rcases Int.lt_or_le n 0 with h0 | h0
  · clear hn
    go_enter Tryd.func57, Tryd.ntmps57
    go_wp2_with (go_at_call 56; refine H1.out.mono ?_; rintro e w' ⟨rfl, rfl⟩)
    refine bodyPost_ret (v := .tuple #[.agg #[.int .i64 0, .int .i64 0], .bool false]) (by simp [results, Tryd.results57, go_sem]) rfl ⟨rfl, ?_⟩
    exact (Below.refl _ _).alloc (Nat.le_refl _) _
  · have hn' : (nS s : Int) < n := by omega
    clear hn
    go_enter Tryd.func57, Tryd.ntmps57
    go_wp2_with (go_at_call 56; refine H1.out.mono ?_; rintro e w' ⟨rfl, rfl⟩)
    refine bodyPost_ret (v := .tuple #[.agg #[.int .i64 0, .int .i64 0], .bool false]) (by simp [results, Tryd.results57, go_sem]) rfl ⟨rfl, ?_⟩
    exact (Below.refl _ _).alloc (Nat.le_refl _) _
theorem Slice_no (h : TextIs w T s gb cb gl cl) (a b : Int) (hn : a < 0 ∨ b < a ∨ (nS s : Int) < b) :
    Calls Tryd.prog 73 #[.pointer (some ⟨T, 0, none⟩), .int .i64 a, .int .i64 b] w fun e w' => e = .returned (.tuple #[.string ⟨#[]⟩, .bool false]) ∧ w = w' := by
  have hsn := nS_le s
  have hs := h.size
  have H1 := Lib.hid (Count_any h)
  rcases Int.lt_or_le a 0 with h0 | h0
  · clear hn
    go_enter Tryd.func73, Tryd.ntmps73
    go_wp2_with (go_at_call 56; refine H1.out.mono ?_; rintro e w' ⟨rfl, rfl⟩)
    go_ret2
    exact ⟨rfl, rfl⟩
  · rcases Int.lt_or_le b a with h2 | h2
    · clear hn
      go_enter Tryd.func73, Tryd.ntmps73
      go_wp2_with (go_at_call 56; refine H1.out.mono ?_; rintro e w' ⟨rfl, rfl⟩)
      go_ret2
      exact ⟨rfl, rfl⟩
    · have hn' : (nS s : Int) < b := by omega
      clear hn
      go_enter Tryd.func73, Tryd.ntmps73
      go_wp2_with (go_at_call 56; refine H1.out.mono ?_; rintro e w' ⟨rfl, rfl⟩)
      go_ret2
      exact ⟨rfl, rfl⟩
set_option maxHeartbeats 1000000 in
theorem Slice_yes (h : TextIs w T s gb cb gl cl) (a b : Nat) (hab : a ≤ b) (hb : b ≤ nS s) (hbb : bAt s a ≤ bAt s b) :
    Calls Tryd.prog 73 #[.pointer (some ⟨T, 0, none⟩), .int .i64 (a : Int), .int .i64 (b : Int)] w fun e w' => e = .returned (.tuple #[.string (s.extract (bAt s a) (bAt s b)), .bool true]) ∧ ∃ n, w' = w.drewN n := by
  have hsn := nS_le s
  have hs := h.size
  have H1 := Lib.hid (Count_any h)
  have c0 := h.c0
  have c1 := h.c1
  have ha := h.hb a (by omega)
  have hb2 := h.hb b (by omega)
  have hle := bAt_le s b
  have i1 : (0 : Int) ≤ (a : Int) := by omega
  have i2 : (a : Int) < (nS s : Int) + 1 := by omega
  have i3 : (0 : Int) ≤ (b : Int) := by omega
  have i4 : (b : Int) < (nS s : Int) + 1 := by omega
  have j1 : (bAt s a : Int) ≤ (bAt s b : Int) := by omega
  have j2 : (bAt s b : Int) ≤ (s.size : Int) := by omega
  go_enter Tryd.func73, Tryd.ntmps73
  go_wp2_with (go_at_call 56; refine H1.out.mono ?_; rintro e w' ⟨rfl, rfl⟩)
  go_quiet (fail)
  go_wp2
  go_ret2
  exact ⟨rfl, _, rfl⟩
end
end Go.Proofs.YtkenffbonnbflaaDoor
