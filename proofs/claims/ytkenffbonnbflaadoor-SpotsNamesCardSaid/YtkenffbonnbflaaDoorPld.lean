/- Plain laws: in which spot a byte lies, in which line a spot; where the bytes 10 are. -/
import Derived.Test.YtkenffbonnbflaaDoorLine
namespace Go.Proofs.YtkenffbonnbflaaDoor
open Go.Lib
set_option linter.unusedVariables false

theorem bAt_lt (s : ByteArray) (i j : Nat) (h : i < j) (hj : j ≤ nS s) : bAt s i < bAt s j := by
  rw [bAt_pos, bAt_pos]; exact posL_lt s.data.toList i j h hj
theorem bAt_nil (s : ByteArray) : bAt s 0 = 0 := by rw [bAt_pos, posL_zero]

/-- the spot in which a byte lies -/
def IsNum (s : ByteArray) (b n : Nat) : Prop := n ≤ nS s ∧ bAt s n ≤ b ∧ (n < nS s → b < bAt s (n + 1))
theorem IsNum.one {s : ByteArray} {b n m : Nat} (h : IsNum s b n) (k : IsNum s b m) : n = m := by
  obtain ⟨h1, h2, h3⟩ := h
  obtain ⟨k1, k2, k3⟩ := k
  rcases Nat.lt_trichotomy n m with c | c | c
  · have a := h3 (by omega)
    have d := bAt_mono s (n + 1) m (by omega) k1
    omega
  · exact c
  · have a := k3 (by omega)
    have d := bAt_mono s (m + 1) n (by omega) h1
    omega

theorem lineGo_append : ∀ (i : Nat) (L M : List Spt), lineGo i (L ++ M) = lineGo i L ++ lineGo (i + L.length) M
  | i, [], M => by simp [lineGo]
  | i, x :: r, M => by
    simp only [List.cons_append, lineGo]
    rw [lineGo_append (i + 1) r M, show i + 1 + r.length = i + (x :: r).length by simp; omega]
    split <;> simp
theorem lineStarts_append (L M : List Spt) : lineStarts (L ++ M) = lineStarts L ++ lineGo L.length M := by
  unfold lineStarts
  rw [lineGo_append, Nat.zero_add]
  rfl
/-- the number of the line in which a spot lies, from 0 on -/
def lnOf (s : ByteArray) (i : Nat) : Nat := (lineGo 0 ((sp s).take i)).length
theorem lnOf_zero (s : ByteArray) : lnOf s 0 = 0 := by simp [lnOf, lineGo]
theorem lnOf_succ (s : ByteArray) (i : Nat) (x : Spt) (h : (sp s)[i]? = some x) : lnOf s (i + 1) = lnOf s i + (if x.r = 10 then 1 else 0) := by
  unfold lnOf
  rw [List.take_add_one, h]
  simp only [Option.toList_some]
  rw [lineGo_snoc]
  split <;> simp
theorem lines_split (s : ByteArray) (i : Nat) (hi : i ≤ nS s) : lineStarts (sp s) = lineStarts ((sp s).take i) ++ lineGo i ((sp s).drop i) := by
  have h := lineStarts_append ((sp s).take i) ((sp s).drop i)
  rw [List.take_append_drop, List.length_take, show min i (sp s).length = i by unfold nS at hi; omega] at h
  exact h
theorem lineGo_gt : ∀ (i : Nat) (L : List Spt) (v : Nat), v ∈ lineGo i L → i < v
  | i, [], v, h => by simp [lineGo] at h
  | i, x :: r, v, h => by
    unfold lineGo at h
    split at h
    · rcases List.mem_cons.1 h with rfl | h
      · omega
      · have := lineGo_gt _ _ _ h; omega
    · have := lineGo_gt _ _ _ h; omega
theorem lnOf_lt (s : ByteArray) (i : Nat) (hi : i ≤ nS s) : lnOf s i < nL s := by
  unfold nL
  rw [lines_split s i hi, List.length_append]
  unfold lnOf lineStarts
  simp only [List.length_cons]
  omega
theorem lAt_lnOf (s : ByteArray) (i : Nat) (hi : i ≤ nS s) : lAt s (lnOf s i) ≤ i := by
  unfold lAt
  rw [lines_split s i hi, List.getD_eq_getElem?_getD, List.getElem?_append_left (by unfold lnOf lineStarts; simp)]
  unfold lineStarts
  cases h : (0 :: lineGo 0 ((sp s).take i))[lnOf s i]? with
  | none => simp
  | some v =>
    have hm := List.mem_of_getElem? h
    rcases List.mem_cons.1 hm with rfl | hm
    · simp
    · have := lineGo_le _ _ _ hm
      rw [List.length_take] at this
      simp only [Option.getD_some]
      omega
theorem lt_lAt (s : ByteArray) (i : Nat) (hi : i ≤ nS s) (h : lnOf s i + 1 < nL s) : i < lAt s (lnOf s i + 1) := by
  have hl : (lineStarts ((sp s).take i)).length = lnOf s i + 1 := by unfold lnOf lineStarts; simp
  unfold nL at h
  unfold lAt
  rw [lines_split s i hi] at h ⊢
  rw [List.length_append, hl] at h
  rw [List.getD_eq_getElem?_getD, List.getElem?_append_right (by omega), hl, Nat.sub_self]
  cases hg : (lineGo i ((sp s).drop i)) with
  | nil => rw [hg] at h; simp at h
  | cons v r =>
    have := lineGo_gt i ((sp s).drop i) v (by rw [hg]; simp)
    simpa using this

theorem lAt_mono (s : ByteArray) (i j : Nat) (h : i ≤ j) (hj : j < nL s) : lAt s i ≤ lAt s j := by
  rcases Nat.lt_or_ge i j with c | c
  · exact Nat.le_of_lt (lineL_lt s.data.toList i j c hj)
  · rw [show i = j by omega]; exact Nat.le_refl _
theorem lAt_strict (s : ByteArray) (i j : Nat) (h : i < j) (hj : j < nL s) : lAt s i < lAt s j := lineL_lt s.data.toList i j h hj
theorem lAt_zero (s : ByteArray) : lAt s 0 = 0 := rfl
/-- the line in which a spot lies -/
def IsLine (s : ByteArray) (i k : Nat) : Prop := k < nL s ∧ lAt s k ≤ i ∧ (k + 1 < nL s → i < lAt s (k + 1))
theorem IsLine.one {s : ByteArray} {i n m : Nat} (h : IsLine s i n) (k : IsLine s i m) : n = m := by
  obtain ⟨h1, h2, h3⟩ := h
  obtain ⟨k1, k2, k3⟩ := k
  rcases Nat.lt_trichotomy n m with c | c | c
  · have a := h3 (by omega)
    have d := lAt_mono s (n + 1) m (by omega) k1
    omega
  · exact c
  · have a := k3 (by omega)
    have d := lAt_mono s (m + 1) n (by omega) h1
    omega
theorem lnOf_is (s : ByteArray) (i : Nat) (hi : i ≤ nS s) : IsLine s i (lnOf s i) := ⟨lnOf_lt s i hi, lAt_lnOf s i hi, lt_lAt s i hi⟩
/-- a spot lies between a line's ends just if this is its line -/
theorem line_of (s : ByteArray) (i k : Nat) (hi : i ≤ nS s) (hk : k < nL s) : lnOf s i = k ↔ lAt s k ≤ i ∧ i ≤ eAt s k := by
  constructor
  · rintro rfl
    refine ⟨lAt_lnOf s i hi, ?_⟩
    by_cases h : lnOf s i + 1 < nL s
    · rw [eAt_next s _ h]; have := lt_lAt s i hi h; omega
    · rw [eAt_last s _ h]; exact hi
  · rintro ⟨h1, h2⟩
    refine (lnOf_is s i hi).one ⟨hk, h1, fun h => ?_⟩
    rw [eAt_next s _ h] at h2
    have := lAt_pos s k h
    omega

/-- a byte 10 is a spot -/
theorem ten_spot (l : List UInt8) : ∀ p q, l[q]? = some 10 → ∃ (i : Nat) (x : Spt), (spotsAt p l)[i]? = some x ∧ x.pos = p + q ∧ x.r = 10 := by
  induction l using spots_ind with
  | h0 => intro p q h; simp at h
  | h1 l hl ih =>
    intro p q h
    rw [spotsAt_cons p l hl]
    by_cases hq : q < (decodeL l).2
    · have hg : (l.getD q 0).toNat = 10 := by rw [List.getD_eq_getElem?_getD, h]; rfl
      have hd := decodeL_N l
      rcases decodeN_shape l.length (l.getD 0 0).toNat (l.getD 1 0).toNat (l.getD 2 0).toNat (l.getD 3 0).toNat with ⟨c, e⟩ | ⟨q1, q2, q3, cv, e⟩ | ⟨q1, q2, q3, q4, cv, cs, e⟩ | ⟨q1, q2, q3, q4, q5, cv, cw, e⟩ | e
      · rw [e] at hd
        rw [hd] at hq
        obtain rfl : q = 0 := by dsimp only at hq; omega
        refine ⟨0, _, rfl, rfl, ?_⟩
        show (decodeL l).1 = 10
        rw [hd, hg]
      · rw [e] at hd
        rw [hd] at hq
        dsimp only at hq
        rcases (show q = 0 ∨ q = 1 by omega) with rfl | rfl <;> omega
      · rw [e] at hd
        rw [hd] at hq
        dsimp only at hq
        rcases (show q = 0 ∨ q = 1 ∨ q = 2 by omega) with rfl | rfl | rfl <;> omega
      · rw [e] at hd
        rw [hd] at hq
        dsimp only at hq
        rcases (show q = 0 ∨ q = 1 ∨ q = 2 ∨ q = 3 by omega) with rfl | rfl | rfl | rfl <;> omega
      · rw [e] at hd
        rw [hd] at hq
        obtain rfl : q = 0 := by dsimp only at hq; omega
        rw [hg] at e
        exfalso
        unfold decodeN at e
        simp at e
    · obtain ⟨i, x, h1, h2, h3⟩ := ih (p + (decodeL l).2) (q - (decodeL l).2) (by rw [List.getElem?_drop, show (decodeL l).2 + (q - (decodeL l).2) = q by omega]; exact h)
      exact ⟨i + 1, x, by rw [List.getElem?_cons_succ]; exact h1, by omega, h3⟩
/-- ahead of a line's end there is no byte 10 of this line -/
theorem no_ten (s : ByteArray) (k q : Nat) (hk : k < nL s) (h1 : bAt s (lAt s k) ≤ q) (h2 : q < bAt s (eAt s k)) : s.data.toList[q]? ≠ some 10 := by
  intro h
  obtain ⟨i, x, hi, hp, hr⟩ := ten_spot s.data.toList 0 q h
  have hlt : i < nS s := (List.getElem?_eq_some_iff.1 hi).1
  have hb : bAt s i = q := by rw [bAt_pos, posL_at s.data.toList i x hi]; omega
  obtain ⟨_, e2⟩ := eAt_ge s k hk
  have a1 : lAt s k ≤ i := by
    rcases Nat.lt_or_ge i (lAt s k) with c | c
    · have := bAt_lt s i _ c (lAt_le s k); omega
    · exact c
  have a2 : i < eAt s k := by
    rcases Nat.lt_or_ge i (eAt s k) with c | c
    · exact c
    · have := bAt_mono s _ i c (by omega); omega
  have l1 := (line_of s i k (by omega) hk).2 ⟨a1, by omega⟩
  have l2 := (line_of s (i + 1) k (by omega) hk).2 ⟨by omega, by omega⟩
  have l3 := lnOf_succ s i x hi
  rw [if_pos hr] at l3
  omega
/-- behind a line there is a byte 10, and then the next line -/
theorem yes_ten (s : ByteArray) (k : Nat) (hk : k + 1 < nL s) : s.data.toList[bAt s (eAt s k)]? = some 10 ∧ bAt s (lAt s (k + 1)) = bAt s (eAt s k) + 1 := by
  have h := line_next s.data.toList k hk
  rw [bAt_pos, bAt_pos]
  exact h
end Go.Proofs.YtkenffbonnbflaaDoor
