/- Plain laws: where a text may be cut, by the decoder's answers near that place; what that says of two texts joined. -/
import Derived.Test.YtkenffbonnbflaaDoorPle
namespace Go.Proofs.YtkenffbonnbflaaDoor
open Go.Lib
set_option linter.unusedVariables false

/-- a spot begins there, or it is the end -/
def IsB (l : List UInt8) (q : Nat) : Prop := ∃ i, i ≤ (spots l).length ∧ posL l i = q
/-- the spot in which a byte lies -/
theorem spot_of (l : List UInt8) (q : Nat) (hq : q ≤ l.length) : ∃ i, i ≤ (spots l).length ∧ posL l i ≤ q ∧ (i < (spots l).length → q < posL l (i + 1)) := by
  have key : ∀ d k, (spots l).length - k = d → k ≤ (spots l).length → posL l k ≤ q → ∃ i, i ≤ (spots l).length ∧ posL l i ≤ q ∧ (i < (spots l).length → q < posL l (i + 1)) := by
    intro d
    induction d with
    | zero => intro k hd hk hp; exact ⟨k, hk, hp, fun h => by omega⟩
    | succ d ih =>
      intro k hd hk hp
      by_cases h : posL l (k + 1) ≤ q
      · exact ih (k + 1) (by omega) (by omega) h
      · exact ⟨k, hk, hp, fun _ => by omega⟩
  exact key _ 0 rfl (Nat.zero_le _) (by rw [posL_zero]; exact Nat.zero_le _)
/-- a decoder that reads over a place begins at the spot in which it lies -/
theorem cut_hit (l : List UInt8) (q i p : Nat) (hi : i ≤ (spots l).length) (h1 : posL l i ≤ q) (h2 : i < (spots l).length → q < posL l (i + 1)) (hp : p < q) (hq : q ≤ l.length) (hw : q < p + (decodeL (l.drop p)).2) : p = posL l i := by
  obtain ⟨d1, d2⟩ := dec_wide (l.drop p) (by omega)
  rw [getD_drop0, Nat.add_zero] at d1
  have hb := (l.getD p 0).toNat_lt
  obtain ⟨j, x, e1, e2⟩ := start_spot l 0 p (by omega) (by omega)
  obtain ⟨f1, f2, f3, f4⟩ := spot_dec l j x e1
  have hj : j < (spots l).length := (List.getElem?_eq_some_iff.1 e1).1
  have fn : x.n = (decodeL (l.drop x.pos)).2 := congrArg Spt.n f1
  rw [Nat.zero_add] at e2
  rw [e2] at fn f2 f3
  rcases Nat.lt_trichotomy j i with c | c | c
  · have := posL_le l (j + 1) i (by omega) hi; omega
  · rw [← c]; omega
  · have := posL_le l (i + 1) j (by omega) (by omega)
    have := h2 (by omega)
    omega
/-- where a place lies inside a spot, the decoder that begins there reads over it -/
theorem cut_at (l : List UInt8) (q i : Nat) (hi : i ≤ (spots l).length) (hq : q ≤ l.length) (h2 : i < (spots l).length → q < posL l (i + 1)) (hlt : posL l i < q) : q < posL l i + (decodeL (l.drop (posL l i))).2 ∧ 1 < (decodeL (l.drop (posL l i))).2 ∧ q < posL l i + 4 := by
  have hin : i < (spots l).length := by
    rcases Nat.lt_or_ge i (spots l).length with c | c
    · exact c
    · have e : i = (spots l).length := by omega
      rw [e, posL_end] at hlt
      omega
  obtain ⟨x, hx⟩ : ∃ x, (spots l)[i]? = some x := ⟨_, List.getElem?_eq_getElem hin⟩
  obtain ⟨f1, f2, f3, f4⟩ := spot_dec l i x hx
  have fn : x.n = (decodeL (l.drop x.pos)).2 := congrArg Spt.n f1
  rw [f2] at fn f3
  have := h2 hin
  have := decodeL_le4 (l.drop (posL l i))
  omega
/-- a place is a bound just if no decoder ahead of it reads over it -/
theorem isB_iff (l : List UInt8) (q : Nat) : IsB l q ↔ q ≤ l.length ∧ ∀ p, p < q → p + (decodeL (l.drop p)).2 ≤ q := by
  constructor
  · rintro ⟨i, hi, rfl⟩
    have hle := posL_le_len l i hi
    refine ⟨hle, fun p hp => ?_⟩
    rcases Nat.lt_or_ge (posL l i) (p + (decodeL (l.drop p)).2) with c | c
    · have := cut_hit l (posL l i) i p hi (Nat.le_refl _) (fun h => posL_lt l i (i + 1) (by omega) (by omega)) hp hle c
      omega
    · exact c
  · rintro ⟨hq, h⟩
    obtain ⟨i, hi, h1, h2⟩ := spot_of l q hq
    refine ⟨i, hi, ?_⟩
    rcases Nat.lt_or_ge (posL l i) q with c | c
    · have := (cut_at l q i hi hq h2 c).1
      have := h (posL l i) c
      omega
    · omega
/-- two texts join just if the place between them is a bound -/
theorem joins_iff (a b : List UInt8) : IsB (a ++ b) a.length ↔ spots (a ++ b) = spots a ++ (spots b).map (Spt.move a.length) := by
  constructor
  · rintro ⟨i, hi, hp⟩
    rw [posL_wid _ _ hi] at hp
    have h1 := spots_take i 0 (a ++ b)
    have h2 := spots_drop i 0 (a ++ b)
    rw [hp] at h1 h2
    rw [List.take_left] at h1
    rw [List.drop_left] at h2
    have h3 := spots_move b 0 a.length
    unfold spots
    rw [← h3, h2, h1, List.take_append_drop]
  · intro h
    refine ⟨(spots a).length, by rw [h]; simp, ?_⟩
    by_cases hb : b = []
    · subst hb
      rw [List.append_nil, posL_end]
    · obtain ⟨x, hx⟩ : ∃ x, (spots b)[0]? = some x := ⟨_, spotsAt_zero 0 b hb⟩
      have hx0 := spot_dec b 0 x hx
      rw [posL_zero] at hx0
      have e : (spots (a ++ b))[(spots a).length]? = some (Spt.move a.length x) := by
        rw [h, List.getElem?_append_right (Nat.le_refl _), Nat.sub_self, List.getElem?_map, hx]; rfl
      rw [posL_at _ _ _ e]
      show x.pos + a.length = a.length
      omega
/-- three bytes at each side tell it -/
theorem isB_near (a b : List UInt8) : IsB (a ++ b) a.length ↔ IsB (a.drop (a.length - 3) ++ b.take 3) (a.drop (a.length - 3)).length := by
  rw [isB_iff, isB_iff]
  have hlen : (a.drop (a.length - 3)).length = a.length - (a.length - 3) := List.length_drop
  have e : a.drop (a.length - 3) ++ b.take 3 = ((a ++ b).drop (a.length - 3)).take ((a.drop (a.length - 3)).length + 3) := by
    rw [List.drop_append_of_le_length (by omega), List.take_length_add_append]
  have hd : ∀ p, p < (a.drop (a.length - 3)).length → decodeL ((a.drop (a.length - 3) ++ b.take 3).drop p) = decodeL ((a ++ b).drop (a.length - 3 + p)) := by
    intro p hp
    rw [e, List.drop_take, List.drop_drop]
    have := decodeL_le4 ((a ++ b).drop (a.length - 3 + p))
    exact decodeL_take _ _ (by omega)
  constructor
  · rintro ⟨_, h⟩
    refine ⟨by simp, fun p hp => ?_⟩
    rw [hd p hp]
    have := h (a.length - 3 + p) (by omega)
    omega
  · rintro ⟨_, h⟩
    refine ⟨by simp, fun p hp => ?_⟩
    rcases Nat.lt_or_ge p (a.length - 3) with c | c
    · have := decodeL_le4 ((a ++ b).drop p)
      omega
    · have h1 := h (p - (a.length - 3)) (by omega)
      rw [hd _ (by omega), show a.length - 3 + (p - (a.length - 3)) = p by omega] at h1
      omega
end Go.Proofs.YtkenffbonnbflaaDoor
