/- Plain laws: a byte that is no continuation byte begins a spot; the last spot is what is decoded from the end. -/
import Derived.Test.YtkenffbonnbflaaDoorPlc
import Derived.Lib.TrimUEq
namespace Go.Proofs.YtkenffbonnbflaaDoor
open Go.Lib
set_option linter.unusedVariables false

/-- a spot of more bytes than one: its first byte, and the others -/
theorem dec_wide (l : List UInt8) (h : 2 ≤ (decodeL l).2) : 192 ≤ (l.getD 0 0).toNat ∧ ∀ j, 0 < j → j < (decodeL l).2 → (l.getD j 0).toNat / 64 = 2 := by
  have hd := decodeL_N l
  rcases decodeN_shape l.length (l.getD 0 0).toNat (l.getD 1 0).toNat (l.getD 2 0).toNat (l.getD 3 0).toNat with ⟨c, e⟩ | ⟨q1, q2, q3, cv, e⟩ | ⟨q1, q2, q3, q4, cv, cs, e⟩ | ⟨q1, q2, q3, q4, q5, cv, cw, e⟩ | e
  · rw [hd, e] at h; dsimp only at h; omega
  · rw [hd, e]
    refine ⟨by omega, fun j h0 h1 => ?_⟩
    dsimp only at h1
    obtain rfl : j = 1 := by omega
    exact q3
  · rw [hd, e]
    refine ⟨by omega, fun j h0 h1 => ?_⟩
    dsimp only at h1
    rcases (show j = 1 ∨ j = 2 by omega) with rfl | rfl
    · exact q3
    · exact q4
  · rw [hd, e]
    refine ⟨by omega, fun j h0 h1 => ?_⟩
    dsimp only at h1
    rcases (show j = 1 ∨ j = 2 ∨ j = 3 by omega) with rfl | rfl | rfl
    · exact q3
    · exact q4
    · exact q5
  · rw [hd, e] at h; dsimp only at h; omega
/-- a spot of one byte -/
theorem dec_one (l : List UInt8) (h : (decodeL l).2 = 1) : ((l.getD 0 0).toNat < 128 ∧ decodeL l = ((l.getD 0 0).toNat, 1)) ∨ (128 ≤ (l.getD 0 0).toNat ∧ decodeL l = (65533, 1)) := by
  have hd := decodeL_N l
  by_cases hb : (l.getD 0 0).toNat < 128
  · refine .inl ⟨hb, ?_⟩
    rw [hd]; unfold decodeN; rw [if_pos hb]
  · refine .inr ⟨by omega, ?_⟩
    rcases decodeN_shape l.length (l.getD 0 0).toNat (l.getD 1 0).toNat (l.getD 2 0).toNat (l.getD 3 0).toNat with ⟨c, e⟩ | ⟨q1, q2, q3, cv, e⟩ | ⟨q1, q2, q3, q4, cv, cs, e⟩ | ⟨q1, q2, q3, q4, q5, cv, cw, e⟩ | e
    · omega
    · rw [hd, e] at h; dsimp only at h; omega
    · rw [hd, e] at h; dsimp only at h; omega
    · rw [hd, e] at h; dsimp only at h; omega
    · rw [hd, e]
theorem getD_drop0 (l : List UInt8) (k j : Nat) : (l.drop k).getD j 0 = l.getD (k + j) 0 := by simp [List.getD, List.getElem?_drop]
/-- a byte that is no continuation byte begins a spot -/
theorem start_spot (l : List UInt8) : ∀ p q, q < l.length → (l.getD q 0).toNat / 64 ≠ 2 → ∃ (i : Nat) (x : Spt), (spotsAt p l)[i]? = some x ∧ x.pos = p + q := by
  induction l using spots_ind with
  | h0 => intro p q h; simp at h
  | h1 l hl ih =>
    intro p q hq hs
    rw [spotsAt_cons p l hl]
    have hw := decodeL_width l
    by_cases h0 : q = 0
    · subst h0
      exact ⟨0, _, rfl, rfl⟩
    · by_cases hlt : q < (decodeL l).2
      · exact absurd ((dec_wide l (by omega)).2 q (by omega) hlt) hs
      · obtain ⟨i, x, h1, h2⟩ := ih (p + (decodeL l).2) (q - (decodeL l).2) (by rw [List.length_drop]; omega) (by rw [getD_drop0, show (decodeL l).2 + (q - (decodeL l).2) = q by omega]; exact hs)
        exact ⟨i + 1, x, by rw [List.getElem?_cons_succ]; exact h1, by omega⟩
/-- what a spot is, by its place -/
theorem spot_dec (l : List UInt8) (i : Nat) (x : Spt) (h : (spots l)[i]? = some x) : x = sptOf x.pos (l.drop x.pos) ∧ x.pos = posL l i ∧ x.pos + x.n = posL l (i + 1) ∧ x.pos < l.length := by
  obtain ⟨_, h2, h3, _, _⟩ := spotsAt_get l 0 i x h
  have hp := posL_at l i x h
  rw [Nat.sub_zero] at h2 h3
  refine ⟨h2, hp.symm, by rw [posL_succ l i x h, hp], ?_⟩
  rcases Nat.lt_or_ge x.pos l.length with c | c
  · exact c
  · exact absurd (List.drop_eq_nil_of_le c) h3
theorem startB (b : UInt8) (h : b.toNat / 64 = 2) : runeStartB b = false := by simp [runeStartB, h]
theorem startB' (b : UInt8) (h : b.toNat / 64 ≠ 2) : runeStartB b = true := by simp [runeStartB, h]
/-- the last spot is what the decoder tells from the end -/
theorem last_dec (l : List UInt8) (n : Nat) (x : Spt) (hn : (spots l).length = n + 1) (h : (spots l)[n]? = some x) : decodeLastL l = (x.r, x.n) ∧ x.pos + x.n = l.length ∧ x.bad = isBad (x.r, x.n) := by
  obtain ⟨h1, h2, h3, h4⟩ := spot_dec l n x h
  have hend : x.pos + x.n = l.length := by rw [h3, ← hn, posL_end]
  have hd : decodeL (l.drop x.pos) = (x.r, x.n) := by
    have a : x.r = (decodeL (l.drop x.pos)).1 := congrArg Spt.r h1
    have b : x.n = (decodeL (l.drop x.pos)).2 := congrArg Spt.n h1
    rw [a, b]
  have hbad : x.bad = isBad (x.r, x.n) := by
    have a : x.bad = isBad (decodeL (l.drop x.pos)) := congrArg Spt.bad h1
    rw [a, hd]
  refine ⟨?_, hend, hbad⟩
  have hne : l ≠ [] := fun e => by rw [e] at h4; simp at h4
  have hw := decodeL_width (l.drop x.pos)
  rw [hd] at hw
  dsimp only at hw
  unfold decodeLastL
  rw [if_neg hne]
  rcases Nat.lt_or_ge x.n 2 with c | c
  · have hx1 : x.n = 1 := by omega
    have hpe : x.pos = l.length - 1 := by omega
    rcases dec_one (l.drop x.pos) (by rw [hd]; exact hx1) with ⟨a, b⟩ | ⟨a, b⟩
    · rw [getD_drop0, Nat.add_zero, hpe] at a b
      rw [if_pos a, ← b, ← hpe, hd]
    · rw [getD_drop0, Nat.add_zero, hpe] at a
      rw [if_neg (by omega), ← hd, b]
      dsimp only
      split
      · rename_i he
        have hlt : lastStart l < l.length := by have := decodeL_width (l.drop (lastStart l)); omega
        rcases Nat.lt_or_ge (decodeL (l.drop (lastStart l))).2 2 with c2 | c2
        · have hw1 := decodeL_width (l.drop (lastStart l))
          rcases dec_one (l.drop (lastStart l)) (by omega) with ⟨a2, b2⟩ | ⟨a2, b2⟩
          · rw [getD_drop0, Nat.add_zero, show lastStart l = l.length - 1 by omega] at a2
            omega
          · exact b2
        · exfalso
          obtain ⟨d1, _⟩ := dec_wide _ c2
          rw [getD_drop0, Nat.add_zero] at d1
          have hlt256 := (l.getD (lastStart l) 0).toNat_lt
          obtain ⟨i, y, e1, e2⟩ := start_spot l 0 (lastStart l) hlt (by omega)
          obtain ⟨f1, f2, f3, f4⟩ := spot_dec l i y e1
          rw [Nat.zero_add] at e2
          have fn : y.n = (decodeL (l.drop (lastStart l))).2 := by rw [← e2]; exact congrArg Spt.n f1
          have hi : i < (spots l).length := (List.getElem?_eq_some_iff.1 e1).1
          have hin : i + 1 = (spots l).length := by
            rcases Nat.lt_or_ge (i + 1) (spots l).length with g | g
            · have := posL_lt l (i + 1) (spots l).length g (Nat.le_refl _)
              rw [posL_end] at this
              omega
            · omega
          obtain rfl : i = n := by omega
          have hxy := Option.some.inj (h.symm.trans e1)
          rw [hxy] at hx1
          omega
      · rfl
  · obtain ⟨d1, d2⟩ := dec_wide (l.drop x.pos) (by rw [hd]; exact c)
    rw [getD_drop0, Nat.add_zero] at d1
    have hle4 := decodeL_le4 (l.drop x.pos)
    rw [hd] at d2 hle4
    dsimp only at d2 hle4
    have hlt256 := (l.getD x.pos 0).toNat_lt
    have hlast := d2 (x.n - 1) (by omega) (by omega)
    rw [getD_drop0, show x.pos + (x.n - 1) = l.length - 1 by omega] at hlast
    rw [if_neg (by omega)]
    have hst : runeStartB (l.getD x.pos 0) = true := startB' _ (by omega)
    have hls : lastStart l = x.pos := by
      have k0 : ¬ l.length < 2 := by omega
      rcases (show x.n = 2 ∨ x.n = 3 ∨ x.n = 4 by omega) with k | k | k
      · have s2 : runeStartB (l.getD (l.length - 2) 0) = true := by rw [show l.length - 2 = x.pos by omega]; exact hst
        simp only [lastStart, k0, s2, if_false, if_true]
        omega
      · have t1 := d2 1 (by omega) (by omega)
        rw [getD_drop0, show x.pos + 1 = l.length - 2 by omega] at t1
        have s2 : runeStartB (l.getD (l.length - 2) 0) = false := startB _ t1
        have s3 : runeStartB (l.getD (l.length - 3) 0) = true := by rw [show l.length - 3 = x.pos by omega]; exact hst
        have k1 : ¬ l.length < 3 := by omega
        simp only [lastStart, k0, s2, s3, k1, if_false, if_true, Bool.false_eq_true]
        omega
      · have t1 := d2 1 (by omega) (by omega)
        have t2 := d2 2 (by omega) (by omega)
        rw [getD_drop0, show x.pos + 1 = l.length - 3 by omega] at t1
        rw [getD_drop0, show x.pos + 2 = l.length - 2 by omega] at t2
        have s2 : runeStartB (l.getD (l.length - 2) 0) = false := startB _ t2
        have s3 : runeStartB (l.getD (l.length - 3) 0) = false := startB _ t1
        have s4 : runeStartB (l.getD (l.length - 4) 0) = true := by rw [show l.length - 4 = x.pos by omega]; exact hst
        have k1 : ¬ l.length < 3 := by omega
        have k2 : ¬ l.length < 4 := by omega
        simp only [lastStart, k0, s2, s3, s4, k1, k2, if_false, if_true, Bool.false_eq_true]
        omega
    rw [hls, hd]
    dsimp only
    rw [if_pos hend]
end Go.Proofs.YtkenffbonnbflaaDoor
