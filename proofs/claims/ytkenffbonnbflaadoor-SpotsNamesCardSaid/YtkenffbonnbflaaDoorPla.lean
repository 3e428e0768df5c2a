/- Plain words for the spots of a text, over lists of bytes: no program, no memory. -/
import Derived.Lib.TrimUEq
import Derived.Lib.MapLaws
import Derived.Lib.RuneCount
namespace Go.Proofs.YtkenffbonnbflaaDoor
open Go.Lib
set_option linter.unusedVariables false

/-- a spot: its rune, where it begins, how many bytes, whether it is bad -/
structure Spt where
  r : Nat
  pos : Nat
  n : Nat
  bad : Bool

def isBad (d : Nat × Nat) : Bool := d.1 == 65533 && d.2 == 1

/-- the spot that begins at a place -/
def sptOf (p : Nat) (l : List UInt8) : Spt := ⟨(decodeL l).1, p, (decodeL l).2, isBad (decodeL l)⟩

theorem decodeL_drop_lt (l : List UInt8) (h : ¬ l = []) : (l.drop (decodeL l).2).length < l.length := by
  have h1 := decodeL_width l
  have h2 : 0 < l.length := List.length_pos_iff.2 h
  rw [List.length_drop]
  omega

def spotsAt (p : Nat) (l : List UInt8) : List Spt :=
  if h : l = [] then [] else sptOf p l :: spotsAt (p + (decodeL l).2) (l.drop (decodeL l).2)
  termination_by l.length
  decreasing_by exact decodeL_drop_lt l h

theorem spotsAt_nil (p : Nat) : spotsAt p [] = [] := by rw [spotsAt]; simp
theorem spotsAt_cons (p : Nat) (l : List UInt8) (h : l ≠ []) : spotsAt p l = sptOf p l :: spotsAt (p + (decodeL l).2) (l.drop (decodeL l).2) := by
  rw [spotsAt]; simp [h]

def spots (l : List UInt8) : List Spt := spotsAt 0 l

/-- an induction over the spots of a text -/
theorem spots_ind {M : List UInt8 → Prop} (h0 : M []) (h1 : ∀ l, l ≠ [] → M (l.drop (decodeL l).2) → M l) (l : List UInt8) : M l := by
  generalize hn : l.length = n
  induction n using Nat.strongRecOn generalizing l with
  | _ n ih =>
    by_cases h : l = []
    · subst h; exact h0
    · exact h1 l h (ih _ (by rw [← hn]; exact decodeL_drop_lt l h) _ rfl)

theorem spotsAt_length_le (l : List UInt8) : ∀ p, (spotsAt p l).length ≤ l.length := by
  induction l using spots_ind with
  | h0 => intro p; simp [spotsAt_nil]
  | h1 l hl ih =>
    intro p
    have h1 := decodeL_drop_lt l hl
    have h2 := ih (p + (decodeL l).2)
    rw [spotsAt_cons p l hl]
    simp only [List.length_cons]
    omega
theorem spots_length_le (l : List UInt8) : (spots l).length ≤ l.length := spotsAt_length_le l 0

theorem decN_le4 (n b0 b1 b2 b3 : Nat) : (decodeN n b0 b1 b2 b3).2 ≤ 4 := by
  unfold decodeN
  repeat' split
  all_goals simp
theorem decodeL_le4 (l : List UInt8) : (decodeL l).2 ≤ 4 := by rw [decodeL_N]; exact decN_le4 _ _ _ _ _

theorem spotsAt_range (l : List UInt8) : ∀ p x, x ∈ spotsAt p l → x.r ≤ 1114111 ∧ p ≤ x.pos ∧ 1 ≤ x.n ∧ x.n ≤ 4 ∧ x.pos + x.n ≤ p + l.length := by
  induction l using spots_ind with
  | h0 => intro p x hx; simp [spotsAt_nil] at hx
  | h1 l hl ih =>
    intro p x hx
    have h1 := decodeL_width l
    have h2 := decodeL_le l hl
    have h3 := decodeL_rune l
    have h4 := decodeL_le4 l
    rw [spotsAt_cons p l hl] at hx
    rcases List.mem_cons.1 hx with rfl | hx
    · simp only [sptOf]; omega
    · have := ih _ x hx
      rw [List.length_drop] at this
      omega

/-- the numbers of the spots that begin a line, but for the first -/
def lineGo : Nat → List Spt → List Nat
  | _, [] => []
  | i, x :: r => if x.r = 10 then (i + 1) :: lineGo (i + 1) r else lineGo (i + 1) r
theorem lineGo_snoc (x : Spt) : ∀ (i : Nat) (L : List Spt), lineGo i (L ++ [x]) = lineGo i L ++ (if x.r = 10 then [i + L.length + 1] else [])
  | i, [] => by simp [lineGo]
  | i, y :: r => by
    simp only [List.cons_append, lineGo]
    rw [lineGo_snoc x (i + 1) r]
    have e : i + 1 + r.length + 1 = i + (y :: r).length + 1 := by simp; omega
    rw [e]
    split <;> simp
/-- which spot begins each line -/
def lineStarts (L : List Spt) : List Nat := 0 :: lineGo 0 L
theorem lineStarts_snoc (L : List Spt) (x : Spt) : lineStarts (L ++ [x]) = lineStarts L ++ (if x.r = 10 then [L.length + 1] else []) := by
  unfold lineStarts
  rw [lineGo_snoc, Nat.zero_add]
  rfl
theorem lineGo_length_le : ∀ (i : Nat) (L : List Spt), (lineGo i L).length ≤ L.length
  | i, [] => by simp [lineGo]
  | i, x :: r => by
    have := lineGo_length_le (i + 1) r
    unfold lineGo
    split <;> simp <;> omega
theorem lineStarts_length_le (L : List Spt) : (lineStarts L).length ≤ L.length + 1 := by
  have := lineGo_length_le 0 L
  simp [lineStarts]; omega
/-- where each spot begins, and the end -/
def byteStarts (L : List Spt) (n : Nat) : List Nat := L.map (·.pos) ++ [n]

end Go.Proofs.YtkenffbonnbflaaDoor
