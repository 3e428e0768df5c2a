/- Plain laws: a text cut at a spot's beginning has the spots that it had. -/
import Derived.Test.YtkenffbonnbflaaDoorPlb
namespace Go.Proofs.YtkenffbonnbflaaDoor
open Go.Lib
set_option linter.unusedVariables false

set_option maxRecDepth 100000 in
set_option maxHeartbeats 4000000 in
/-- a decoder that reads a sequence does not look behind it -/
theorem decN_cut (n k b0 b1 b2 b3 c1 c2 c3 : Nat) (hk : 1 ≤ k) (hkn : k ≤ n) (hw : (decodeN n b0 b1 b2 b3).2 ≤ k)
    (e1 : 1 < k → c1 = b1) (e2 : 2 < k → c2 = b2) (e3 : 3 < k → c3 = b3) : decodeN k b0 c1 c2 c3 = decodeN n b0 b1 b2 b3 := by
  rcases decodeN_shape n b0 b1 b2 b3 with ⟨c, e⟩ | ⟨q1, q2, q3, cv, e⟩ | ⟨q1, q2, q3, q4, cv, cs, e⟩ | ⟨q1, q2, q3, q4, q5, cv, cw, e⟩ | e
  · rw [e]; unfold decodeN; rw [if_pos c]
  · rw [e] at hw ⊢
    dsimp only at hw
    have E1 := e1 (by omega)
    subst E1
    unfold decodeN
    rw [if_neg (by omega), if_pos ⟨q1, by omega, q3⟩, if_pos cv]
  · rw [e] at hw ⊢
    dsimp only at hw
    have E1 := e1 (by omega)
    have E2 := e2 (by omega)
    subst E1 E2
    unfold decodeN
    rw [if_neg (by omega), if_neg (by omega), if_pos ⟨q1, ⟨by omega, q3⟩, by omega, q4⟩, if_pos ⟨cv, by omega⟩]
  · rw [e] at hw ⊢
    dsimp only at hw
    have E1 := e1 (by omega)
    have E2 := e2 (by omega)
    have E3 := e3 (by omega)
    subst E1 E2 E3
    unfold decodeN
    rw [if_neg (by omega), if_neg (by omega), if_neg (by omega), if_pos ⟨q1, ⟨by omega, q3⟩, ⟨by omega, q4⟩, by omega, q5⟩, if_pos ⟨cv, by omega⟩]
  · rcases decodeN_shape k b0 c1 c2 c3 with ⟨c, e'⟩ | ⟨q1, q2, q3, cv, e'⟩ | ⟨q1, q2, q3, q4, cv, cs, e'⟩ | ⟨q1, q2, q3, q4, q5, cv, cw, e'⟩ | e'
    · rw [e']; unfold decodeN; rw [if_pos c]
    · have E1 := e1 (by omega)
      subst E1
      rw [e']; unfold decodeN
      rw [if_neg (by omega), if_pos ⟨q1, by omega, q3⟩, if_pos cv]
    · have E1 := e1 (by omega)
      have E2 := e2 (by omega)
      subst E1 E2
      rw [e']; unfold decodeN
      rw [if_neg (by omega), if_neg (by omega), if_pos ⟨q1, ⟨by omega, q3⟩, by omega, q4⟩, if_pos ⟨cv, by omega⟩]
    · have E1 := e1 (by omega)
      have E2 := e2 (by omega)
      have E3 := e3 (by omega)
      subst E1 E2 E3
      rw [e']; unfold decodeN
      rw [if_neg (by omega), if_neg (by omega), if_neg (by omega), if_pos ⟨q1, ⟨by omega, q3⟩, ⟨by omega, q4⟩, by omega, q5⟩, if_pos ⟨cv, by omega⟩]
    · rw [e, e']

theorem getD_take (l : List UInt8) (k i : Nat) (h : i < k) : (l.take k).getD i 0 = l.getD i 0 := by
  rw [List.getD_eq_getElem?_getD, List.getD_eq_getElem?_getD, List.getElem?_take_of_lt h]
theorem decodeL_take (l : List UInt8) (k : Nat) (hk : (decodeL l).2 ≤ k) : decodeL (l.take k) = decodeL l := by
  by_cases hkl : l.length ≤ k
  · rw [List.take_of_length_le hkl]
  · have hw := decodeL_width l
    rw [decodeL_N] at hk hw
    rw [decodeL_N, decodeL_N, List.length_take, show min k l.length = k by omega, getD_take l k 0 (by omega)]
    exact decN_cut _ _ _ _ _ _ _ _ _ (by omega) (by omega) hk (fun h => by rw [getD_take l k 1 h]) (fun h => by rw [getD_take l k 2 h]) (fun h => by rw [getD_take l k 3 h])

/-- how many bytes the first so many spots have -/
def wid : List UInt8 → Nat → Nat
  | _, 0 => 0
  | l, i + 1 => if l = [] then 0 else (decodeL l).2 + wid (l.drop (decodeL l).2) i
theorem wid_succ (l : List UInt8) (i : Nat) (h : l ≠ []) : wid l (i + 1) = (decodeL l).2 + wid (l.drop (decodeL l).2) i := by simp [wid, h]
theorem wid_nil : ∀ i, wid [] i = 0
  | 0 => rfl
  | i + 1 => by simp [wid]
theorem wid_le : ∀ (i : Nat) (l : List UInt8), wid l i ≤ l.length
  | 0, l => by simp [wid]
  | i + 1, l => by
    by_cases h : l = []
    · subst h; simp [wid]
    · have h1 := decodeL_le l h
      have h2 := wid_le i (l.drop (decodeL l).2)
      rw [List.length_drop] at h2
      rw [wid_succ l i h]
      omega
theorem wid_pos : ∀ (i p : Nat) (l : List UInt8), i ≤ (spotsAt p l).length → (byteStarts (spotsAt p l) (p + l.length)).getD i 0 = p + wid l i
  | i, p, l, hi => by
    by_cases h : l = []
    · subst h
      rw [spotsAt_nil] at hi ⊢
      obtain rfl : i = 0 := by simpa using hi
      simp [byteStarts, wid]
    · have h1 := decodeL_le l h
      rw [spotsAt_cons p l h] at hi ⊢
      cases i with
      | zero => simp [byteStarts, sptOf, wid]
      | succ i =>
        have ih := wid_pos i (p + (decodeL l).2) (l.drop (decodeL l).2) (by simpa using hi)
        rw [List.length_drop, show p + (decodeL l).2 + (l.length - (decodeL l).2) = p + l.length by omega] at ih
        rw [wid_succ l i h, ← Nat.add_assoc, ← ih]
        simp [byteStarts]
theorem posL_wid (l : List UInt8) (i : Nat) (hi : i ≤ (spots l).length) : posL l i = wid l i := by
  have h := wid_pos i 0 l hi
  rw [Nat.zero_add, Nat.zero_add] at h
  exact h
theorem wid_add : ∀ (i j : Nat) (l : List UInt8), wid l (i + j) = wid l i + wid (l.drop (wid l i)) j
  | 0, j, l => by simp [wid]
  | i + 1, j, l => by
    by_cases h : l = []
    · subst h; simp [wid_nil]
    · rw [show i + 1 + j = (i + j) + 1 by omega, wid_succ l _ h, wid_succ l i h, wid_add i j, List.drop_drop]
      omega
theorem spots_take : ∀ (i p : Nat) (l : List UInt8), spotsAt p (l.take (wid l i)) = (spotsAt p l).take i
  | 0, p, l => by simp [wid, spotsAt_nil]
  | i + 1, p, l => by
    by_cases h : l = []
    · subst h; simp [spotsAt_nil]
    · have h1 := decodeL_le l h
      have h2 := decodeL_width l
      rw [wid_succ l i h]
      have hne : l.take ((decodeL l).2 + wid (l.drop (decodeL l).2) i) ≠ [] := by
        intro e
        have := congrArg List.length e
        rw [List.length_take] at this
        simp only [List.length_nil] at this
        omega
      have hd := decodeL_take l ((decodeL l).2 + wid (l.drop (decodeL l).2) i) (by omega)
      rw [spotsAt_cons p _ hne, spotsAt_cons p l h, List.take_succ_cons]
      unfold sptOf
      rw [hd, ← spots_take i, List.drop_take, Nat.add_sub_cancel_left]
theorem spots_drop : ∀ (i p : Nat) (l : List UInt8), spotsAt (p + wid l i) (l.drop (wid l i)) = (spotsAt p l).drop i
  | 0, p, l => by simp [wid]
  | i + 1, p, l => by
    by_cases h : l = []
    · subst h; simp [spotsAt_nil]
    · rw [spotsAt_cons p l h, List.drop_succ_cons, ← spots_drop i, wid_succ l i h, List.drop_drop]
      congr 1
      omega
/-- the same spots, moved -/
def Spt.move (k : Nat) (x : Spt) : Spt := ⟨x.r, x.pos + k, x.n, x.bad⟩
theorem spots_move (l : List UInt8) : ∀ p k, spotsAt (p + k) l = (spotsAt p l).map (Spt.move k) := by
  induction l using spots_ind with
  | h0 => intro p k; simp [spotsAt_nil]
  | h1 l hl ih =>
    intro p k
    rw [spotsAt_cons _ l hl, spotsAt_cons p l hl, List.map_cons, ← ih, show p + k + (decodeL l).2 = p + (decodeL l).2 + k by omega]
    rfl
/-- how many spots a piece has that begins and ends at a spot's beginning -/
theorem spots_piece (l : List UInt8) (a b : Nat) (hab : a ≤ b) (hb : b ≤ (spots l).length) : (spots ((l.drop (posL l a)).take (posL l b - posL l a))).length = b - a := by
  rw [posL_wid l a (by omega), posL_wid l b hb]
  have h1 := wid_add a (b - a) l
  rw [show a + (b - a) = b by omega] at h1
  rw [show wid l b - wid l a = wid (l.drop (wid l a)) (b - a) by omega]
  unfold spots
  rw [spots_take]
  have h2 := spots_drop a 0 l
  rw [Nat.zero_add] at h2
  have h3 := spots_move (l.drop (wid l a)) 0 (wid l a)
  rw [Nat.zero_add, h2] at h3
  have h4 := congrArg List.length h3
  rw [List.length_drop, List.length_map] at h4
  unfold spots at hb
  rw [List.length_take]
  omega
end Go.Proofs.YtkenffbonnbflaaDoor
