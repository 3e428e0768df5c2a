/- Plain laws: a text without bad bytes joins with any; what joined texts have in common with their parts. -/
import Derived.Test.YtkenffbonnbflaaDoorPlg
namespace Go.Proofs.YtkenffbonnbflaaDoor
open Go.Lib
set_option linter.unusedVariables false

theorem getD_app (l t : List UInt8) (k : Nat) (h : k < l.length) : (l ++ t).getD k 0 = l.getD k 0 := by
  rw [List.getD_eq_getElem?_getD, List.getD_eq_getElem?_getD, List.getElem?_append_left h]
/-- a good sequence stays what it is, whatever stands behind -/
theorem dec_ext (l t : List UInt8) (hne : l ≠ []) (hg : isBad (decodeL l) = false) : decodeL (l ++ t) = decodeL l := by
  have hl : 0 < l.length := List.length_pos_iff.2 hne
  rw [decodeL_N l] at hg
  rw [decodeL_N l, decodeL_N (l ++ t), List.length_append, getD_app l t 0 hl]
  rcases decodeN_shape l.length (l.getD 0 0).toNat (l.getD 1 0).toNat (l.getD 2 0).toNat (l.getD 3 0).toNat with ⟨c, e⟩ | ⟨q1, q2, q3, cv, e⟩ | ⟨q1, q2, q3, q4, cv, cs, e⟩ | ⟨q1, q2, q3, q4, q5, cv, cw, e⟩ | e
  · rw [e, dN1 _ _ _ _ _ c]
  · rw [e, getD_app l t 1 q2]
    unfold decodeN
    rw [if_neg (by omega), if_pos ⟨q1, by omega, q3⟩, if_pos cv]
  · rw [e, getD_app l t 1 (by omega), getD_app l t 2 q2]
    unfold decodeN
    have k0 := (l.getD 0 0).toNat_lt
    rw [if_neg (by omega), if_neg (by omega), if_pos ⟨q1, ⟨by omega, q3⟩, by omega, q4⟩, if_pos ⟨cv, by omega⟩]
  · rw [e, getD_app l t 1 (by omega), getD_app l t 2 (by omega), getD_app l t 3 q2]
    unfold decodeN
    rw [if_neg (by omega), if_neg (by omega), if_neg (by omega), if_pos ⟨q1, ⟨by omega, q3⟩, ⟨by omega, q4⟩, by omega, q5⟩, if_pos ⟨cv, by omega⟩]
  · rw [e] at hg
    cases hg
/-- a continuation byte is a bad spot -/
theorem dec_cont (l : List UInt8) (h : (l.getD 0 0).toNat / 64 = 2) : decodeL l = (65533, 1) := by
  rw [decodeL_N]
  rcases decodeN_shape l.length (l.getD 0 0).toNat (l.getD 1 0).toNat (l.getD 2 0).toNat (l.getD 3 0).toNat with ⟨c, e⟩ | ⟨q1, q2, q3, cv, e⟩ | ⟨q1, q2, q3, q4, cv, cs, e⟩ | ⟨q1, q2, q3, q4, q5, cv, cw, e⟩ | e
  · omega
  · omega
  · omega
  · omega
  · exact e
theorem good_left (a b : List UInt8) (h : AllGood a) : IsB (a ++ b) a.length := by
  rw [isB_iff]
  refine ⟨by simp, fun p hp => ?_⟩
  rcases Nat.lt_or_ge a.length (p + (decodeL ((a ++ b).drop p)).2) with c | c
  · exfalso
    obtain ⟨d1, _⟩ := dec_wide ((a ++ b).drop p) (by omega)
    rw [getD_drop0, Nat.add_zero, getD_app a b p hp] at d1
    have hb := (a.getD p 0).toNat_lt
    obtain ⟨j, x, e1, e2⟩ := start_spot a 0 p hp (by omega)
    obtain ⟨f1, f2, f3, f4⟩ := spot_dec a j x e1
    rw [Nat.zero_add] at e2
    have hx := h x (List.mem_of_getElem? e1)
    have hxb : x.bad = isBad (decodeL (a.drop x.pos)) := congrArg Spt.bad f1
    have hxn : x.n = (decodeL (a.drop x.pos)).2 := congrArg Spt.n f1
    rw [hx, e2] at hxb
    rw [e2] at hxn f4 f3
    have hne : a.drop p ≠ [] := fun e0 => by
      have := congrArg List.length e0
      rw [List.length_drop] at this
      simp only [List.length_nil] at this
      omega
    have hext := dec_ext (a.drop p) b hne hxb.symm
    rw [List.drop_append_of_le_length (by omega), hext, ← hxn, f3] at c
    have := posL_le_len a (j + 1) (by have h9 : j < (spots a).length := (List.getElem?_eq_some_iff.1 e1).1; omega)
    omega
  · exact c
theorem good_right (a b : List UInt8) (h : AllGood b) : IsB (a ++ b) a.length := by
  rw [isB_iff]
  refine ⟨by simp, fun p hp => ?_⟩
  rcases Nat.lt_or_ge a.length (p + (decodeL ((a ++ b).drop p)).2) with c | c
  · exfalso
    obtain ⟨_, d2⟩ := dec_wide ((a ++ b).drop p) (by omega)
    have d := d2 (a.length - p) (by omega) (by omega)
    rw [getD_drop0, show p + (a.length - p) = a.length by omega, List.getD_eq_getElem?_getD, List.getElem?_append_right (Nat.le_refl _), Nat.sub_self, ← List.getD_eq_getElem?_getD] at d
    have hb : b ≠ [] := fun e => by rw [e] at d; simp at d
    have hd := dec_cont b d
    have hx := h (sptOf 0 b) (by unfold spots; rw [spotsAt_cons 0 b hb]; simp)
    have : (sptOf 0 b).bad = true := by show isBad (decodeL b) = true; rw [hd]; rfl
    rw [this] at hx
    cases hx
  · exact c
theorem joins_count (a b : List UInt8) (h : IsB (a ++ b) a.length) : (spots (a ++ b)).length = (spots a).length + (spots b).length := by
  rw [(joins_iff a b).1 h]; simp
theorem joins_runes (a b : List UInt8) (h : IsB (a ++ b) a.length) : runesI (a ++ b) = runesI a ++ runesI b := by
  unfold runesI runesN
  rw [(joins_iff a b).1 h, List.map_append, List.map_append]
  congr 2
  rw [List.map_map]
  rfl
theorem joins_clean (a b : List UInt8) (h : IsB (a ++ b) a.length) : cleanL (a ++ b) = cleanL a ++ cleanL b := by
  unfold cleanL
  rw [joins_runes a b h, encL_append]
end Go.Proofs.YtkenffbonnbflaaDoor
