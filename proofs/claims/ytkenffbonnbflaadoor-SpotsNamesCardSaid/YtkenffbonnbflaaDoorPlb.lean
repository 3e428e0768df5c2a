/- Plain laws of a text's spots: how they follow each other; lines. -/
import Derived.Test.YtkenffbonnbflaaDoorPla
import Derived.Lib.TrimAscii
namespace Go.Proofs.YtkenffbonnbflaaDoor
open Go.Lib
set_option linter.unusedVariables false

theorem spotsAt_zero (p : Nat) (l : List UInt8) (h : l ≠ []) : (spotsAt p l)[0]? = some (sptOf p l) := by rw [spotsAt_cons p l h]; rfl
theorem spotsAt_pos (p : Nat) (l : List UInt8) (h : l ≠ []) : 0 < (spotsAt p l).length := by rw [spotsAt_cons p l h]; simp

/-- each spot is the decoder's answer where it begins; the next one begins where it ends -/
theorem spotsAt_get (l : List UInt8) : ∀ (p i : Nat) (x : Spt), (spotsAt p l)[i]? = some x →
    p ≤ x.pos ∧ x = sptOf x.pos (l.drop (x.pos - p)) ∧ l.drop (x.pos - p) ≠ [] ∧ (i + 1 < (spotsAt p l).length → ((spotsAt p l)[i + 1]?).map (·.pos) = some (x.pos + x.n)) ∧ (i + 1 = (spotsAt p l).length → x.pos + x.n = p + l.length) := by
  induction l using spots_ind with
  | h0 => intro p i x h; rw [spotsAt_nil] at h; simp at h
  | h1 l hl ih =>
    intro p i x h
    have hw := decodeL_le l hl
    rw [spotsAt_cons p l hl] at h ⊢
    cases i with
    | zero =>
      simp only [List.getElem?_cons_zero, Option.some.injEq] at h
      subst h
      refine ⟨Nat.le_refl _, ?_, ?_, fun hlt => ?_, fun he => ?_⟩
      · show sptOf p l = sptOf p (l.drop (p - p)); rw [Nat.sub_self, List.drop_zero]
      · show l.drop (p - p) ≠ []; rw [Nat.sub_self, List.drop_zero]; exact hl
      · simp only [List.length_cons] at hlt
        have hne : l.drop (decodeL l).2 ≠ [] := fun e => by rw [e, spotsAt_nil] at hlt; simp at hlt
        rw [Nat.zero_add, List.getElem?_cons_succ, spotsAt_zero _ _ hne]
        rfl
      · simp only [List.length_cons] at he
        have hne : l.drop (decodeL l).2 = [] := by
          by_cases e : l.drop (decodeL l).2 = []
          · exact e
          · have := spotsAt_pos (p + (decodeL l).2) _ e; omega
        have h2 := congrArg List.length hne
        rw [List.length_drop] at h2
        simp only [List.length_nil] at h2
        show p + (decodeL l).2 = p + l.length
        omega
    | succ i =>
      rw [List.getElem?_cons_succ] at h
      obtain ⟨a, b, c, d, e⟩ := ih _ i x h
      have e1 : (l.drop (decodeL l).2).drop (x.pos - (p + (decodeL l).2)) = l.drop (x.pos - p) := by
        rw [List.drop_drop]; congr 1; omega
      rw [e1] at b c
      refine ⟨by omega, b, c, fun hlt => ?_, fun he => ?_⟩
      · rw [List.getElem?_cons_succ]; exact d (by simp only [List.length_cons] at hlt; omega)
      · have := e (by simp only [List.length_cons] at he; omega)
        rw [List.length_drop] at this
        omega

/-- where the i-th spot begins (the end, behind the last one) -/
def posL (l : List UInt8) (i : Nat) : Nat := (byteStarts (spots l) l.length).getD i 0
theorem posL_at (l : List UInt8) (i : Nat) (x : Spt) (h : (spots l)[i]? = some x) : posL l i = x.pos := by
  have hlt : i < (spots l).length := (List.getElem?_eq_some_iff.1 h).1
  unfold posL byteStarts
  rw [List.getD_eq_getElem?_getD, List.getElem?_append_left (by simpa using hlt), List.getElem?_map, h]
  rfl
theorem posL_end (l : List UInt8) : posL l (spots l).length = l.length := by
  unfold posL byteStarts
  rw [List.getD_eq_getElem?_getD, List.getElem?_append_right (by simp)]
  simp
theorem posL_zero (l : List UInt8) : posL l 0 = 0 := by
  by_cases h : l = []
  · subst h
    have := posL_end []
    simpa [spots, spotsAt_nil] using this
  · rw [posL_at l 0 (sptOf 0 l) (spotsAt_zero 0 l h)]; rfl
theorem posL_succ (l : List UInt8) (i : Nat) (x : Spt) (h : (spots l)[i]? = some x) : posL l (i + 1) = posL l i + x.n := by
  have hlt : i < (spots l).length := (List.getElem?_eq_some_iff.1 h).1
  obtain ⟨_, _, _, d, e⟩ := spotsAt_get l 0 i x h
  rw [posL_at l i x h]
  by_cases hl : i + 1 < (spots l).length
  · obtain ⟨y, hy⟩ : ∃ y, (spots l)[i + 1]? = some y := ⟨_, List.getElem?_eq_getElem hl⟩
    have hd := d hl
    rw [show (spotsAt 0 l)[i + 1]? = some y from hy] at hd
    rw [posL_at l (i + 1) y hy]
    simpa using hd
  · have h1 : i + 1 = (spots l).length := by omega
    rw [h1, posL_end]
    have := e h1
    omega
theorem spots_some (l : List UInt8) (i : Nat) (h : i < (spots l).length) : ∃ x, (spots l)[i]? = some x ∧ 1 ≤ x.n := by
  obtain ⟨x, hx⟩ : ∃ x, (spots l)[i]? = some x := ⟨_, List.getElem?_eq_getElem h⟩
  exact ⟨x, hx, (spotsAt_range l 0 x (List.mem_of_getElem? hx)).2.2.1⟩
theorem posL_lt (l : List UInt8) (i j : Nat) (h : i < j) (hj : j ≤ (spots l).length) : posL l i < posL l j := by
  obtain ⟨d, rfl⟩ : ∃ d, j = i + 1 + d := ⟨j - i - 1, by omega⟩
  induction d with
  | zero =>
    obtain ⟨x, hx, hn⟩ := spots_some l i (by omega)
    have := posL_succ l i x hx
    simp only [Nat.add_zero]
    omega
  | succ d ih =>
    have h1 := ih (by omega) (by omega)
    obtain ⟨x, hx, hn⟩ := spots_some l (i + 1 + d) (by omega)
    have := posL_succ l _ x hx
    have e : i + 1 + (d + 1) = i + 1 + d + 1 := by omega
    rw [e]
    omega
theorem posL_le (l : List UInt8) (i j : Nat) (h : i ≤ j) (hj : j ≤ (spots l).length) : posL l i ≤ posL l j := by
  rcases Nat.lt_or_eq_of_le h with h1 | rfl
  · exact Nat.le_of_lt (posL_lt l i j h1 hj)
  · exact Nat.le_refl _
theorem posL_le_len (l : List UInt8) (i : Nat) (hj : i ≤ (spots l).length) : posL l i ≤ l.length := by
  have := posL_le l i _ hj (Nat.le_refl _)
  rw [posL_end] at this
  exact this

/-- a spot of the rune 10 is the one byte 10 -/
theorem spot_ten (l : List UInt8) (i : Nat) (x : Spt) (h : (spots l)[i]? = some x) (h10 : x.r = 10) : x.n = 1 ∧ l[posL l i]? = some 10 := by
  obtain ⟨_, b, c, _⟩ := spotsAt_get l 0 i x h
  have hp := posL_at l i x h
  rw [hp]
  rw [Nat.sub_zero] at b c
  obtain ⟨a, t, hat⟩ : ∃ a t, l.drop x.pos = a :: t := by
    cases hd : l.drop x.pos with
    | nil => exact absurd hd c
    | cons a t => exact ⟨a, t, rfl⟩
  rw [hat] at b
  have hr : (decodeL (a :: t)).1 = 10 := by rw [← h10, b]; rfl
  have ha : a.toNat < 128 := by
    rw [decodeL_N] at hr
    simp only [List.getD_cons_zero] at hr
    unfold decodeN at hr
    repeat' split at hr
    all_goals first | assumption | (simp only at hr; omega)
  have hdec := decodeL_ascii a t ha
  rw [hdec] at hr
  have ha10 : a = 10 := UInt8.toNat_inj.1 hr
  refine ⟨by rw [b]; show (decodeL (a :: t)).2 = 1; rw [hdec], ?_⟩
  have h0 : (l.drop x.pos)[0]? = some a := by rw [hat]; rfl
  rw [List.getElem?_drop, Nat.add_zero] at h0
  rw [h0, ha10]

/-! ### lines -/
theorem lineGo_mem : ∀ (L : List Spt) (i v : Nat), v ∈ lineGo i L → ∃ k x, v = i + k + 1 ∧ L[k]? = some x ∧ x.r = 10
  | [], i, v, h => by simp [lineGo] at h
  | x :: r, i, v, h => by
    simp only [lineGo] at h
    have ih := lineGo_mem r (i + 1) v
    split at h
    · rename_i hx
      rcases List.mem_cons.1 h with rfl | h
      · exact ⟨0, x, rfl, rfl, hx⟩
      · obtain ⟨k, y, h1, h2, h3⟩ := ih h
        exact ⟨k + 1, y, by omega, by simpa using h2, h3⟩
    · obtain ⟨k, y, h1, h2, h3⟩ := ih h
      exact ⟨k + 1, y, by omega, by simpa using h2, h3⟩
theorem lineGo_sorted : ∀ (L : List Spt) (i : Nat), (lineGo i L).Pairwise (· < ·)
  | [], i => by simp [lineGo]
  | x :: r, i => by
    have ih := lineGo_sorted r (i + 1)
    simp only [lineGo]
    split
    · refine List.pairwise_cons.2 ⟨fun v hv => ?_, ih⟩
      obtain ⟨k, y, h1, _⟩ := lineGo_mem r (i + 1) v hv
      omega
    · exact ih
theorem lineStarts_sorted (L : List Spt) : (lineStarts L).Pairwise (· < ·) :=
  List.pairwise_cons.2 ⟨fun v hv => by obtain ⟨k, y, h1, _⟩ := lineGo_mem L 0 v hv; omega, lineGo_sorted L 0⟩
/-- which spot begins the i-th line (from 0 on) -/
def lineL (l : List UInt8) (i : Nat) : Nat := (lineStarts (spots l)).getD i 0
theorem lineL_zero (l : List UInt8) : lineL l 0 = 0 := rfl
theorem lineL_get (l : List UInt8) (i : Nat) (h : i < (lineStarts (spots l)).length) : (lineStarts (spots l))[i]? = some (lineL l i) := by
  unfold lineL; rw [List.getD_eq_getElem?_getD, List.getElem?_eq_getElem h]; rfl
theorem lineL_lt (l : List UInt8) (i j : Nat) (h : i < j) (hj : j < (lineStarts (spots l)).length) : lineL l i < lineL l j := by
  have hp := List.pairwise_iff_getElem.1 (lineStarts_sorted (spots l)) i j (by omega) hj h
  have h1 := lineL_get l i (by omega)
  have h2 := lineL_get l j hj
  rw [List.getElem?_eq_getElem (by omega)] at h1 h2
  rw [← Option.some.inj h1, ← Option.some.inj h2]
  exact hp
/-- ahead of a line (but the first) stands a spot of the rune 10 -/
theorem lineL_ten (l : List UInt8) (i : Nat) (h0 : 0 < i) (h : i < (lineStarts (spots l)).length) : ∃ k x, lineL l i = k + 1 ∧ (spots l)[k]? = some x ∧ x.r = 10 := by
  obtain ⟨j, rfl⟩ : ∃ j, i = j + 1 := ⟨i - 1, by omega⟩
  have h1 := lineL_get l (j + 1) h
  unfold lineStarts at h1
  rw [List.getElem?_cons_succ] at h1
  obtain ⟨k, x, h2, h3, h4⟩ := lineGo_mem _ _ _ (List.mem_of_getElem? h1)
  exact ⟨k, x, by omega, h3, h4⟩
theorem lineL_le (l : List UInt8) (i : Nat) (h : i < (lineStarts (spots l)).length) : lineL l i ≤ (spots l).length := by
  rcases Nat.eq_zero_or_pos i with rfl | h0
  · rw [lineL_zero]; omega
  · obtain ⟨k, x, h1, h2, _⟩ := lineL_ten l i h0 h
    have := (List.getElem?_eq_some_iff.1 h2).1
    omega
/-- the spot behind a line's last one -/
def endL (l : List UInt8) (i : Nat) : Nat := if i + 1 < (lineStarts (spots l)).length then lineL l (i + 1) - 1 else (spots l).length
theorem endL_ge (l : List UInt8) (i : Nat) (h : i < (lineStarts (spots l)).length) : lineL l i ≤ endL l i ∧ endL l i ≤ (spots l).length := by
  unfold endL
  split
  · rename_i h1
    have := lineL_lt l i (i + 1) (by omega) h1
    have := lineL_le l (i + 1) h1
    omega
  · exact ⟨lineL_le l i h, Nat.le_refl _⟩
/-- behind the i-th line comes the byte 10, and behind that the next line -/
theorem line_next (l : List UInt8) (i : Nat) (h : i + 1 < (lineStarts (spots l)).length) : l[posL l (endL l i)]? = some 10 ∧ posL l (lineL l (i + 1)) = posL l (endL l i) + 1 := by
  obtain ⟨k, x, h1, h2, h3⟩ := lineL_ten l (i + 1) (by omega) h
  have he : endL l i = k := by unfold endL; rw [if_pos h, h1]; omega
  obtain ⟨h4, h5⟩ := spot_ten l k x h2 h3
  rw [he, h1, posL_succ l k x h2, h4]
  exact ⟨h5, rfl⟩
end Go.Proofs.YtkenffbonnbflaaDoor
