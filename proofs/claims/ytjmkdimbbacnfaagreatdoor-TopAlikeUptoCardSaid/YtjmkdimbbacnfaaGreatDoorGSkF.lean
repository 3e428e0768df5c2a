/- The stable sort, at runes. (Printed by gen_sort.py.) marks.Order: the marks behind a rune in their order. marks.Order; open.Open. open.Open. -/
import Derived.Test.YtjmkdimbbacnfaaGreatDoorGSrtC
import Derived.Test.YtjmkdimbbacnfaaGreatDoorGSkC
import Derived.BigQuiet
namespace Go.Proofs.YtjmkdimbbacnfaaGreatDoor
section
open Go.Shelf Go.RowKit Go.Lib Go.Sort
set_option linter.unusedVariables false
section
variable {α : Type} [Inhabited α] {enc : α → Value} {cf : α → α → Int} {g : Nat} {cb : Array Value} {blk off cap n : Nat} {d0 : Array α} {w0 : World}
theorem blkA_go {lt : α → α → Bool} {f a : Nat} {d : Array α} (hs : d.size = n) (h : a + 20 ≤ n) : blkA lt (f + 1) a d = blkA lt f (a + 20) (Sort.insertionSort lt d a (a + 20)) := by rw [blkA, if_pos (by omega)]
theorem blkA_end {lt : α → α → Bool} {f a : Nat} {d : Array α} (hs : d.size = n) (h : ¬ a + 20 ≤ n) : blkA lt f a d = Sort.insertionSort lt d a n := by
  subst hs
  cases f with
  | zero => rfl
  | succ f => rw [blkA, if_neg h]
theorem passA_go {lt : α → α → Bool} {bs f a : Nat} {d : Array α} (hs : d.size = n) (h : a + 2 * bs ≤ n) : passA lt bs (f + 1) a d = passA lt bs f (a + 2 * bs) (symA lt n a (a + bs) (a + 2 * bs) d) := by
  subst hs
  rw [passA, if_pos h]
theorem passA_end {lt : α → α → Bool} {bs f a : Nat} {d : Array α} (hs : d.size = n) (h : ¬ a + 2 * bs ≤ n) (h2 : a + bs < n) : passA lt bs (f + 1) a d = symA lt n a (a + bs) n d := by
  subst hs
  rw [passA, if_neg h, if_pos h2]
theorem passA_stop {lt : α → α → Bool} {bs f a : Nat} {d : Array α} (hs : d.size = n) (h : ¬ a + 2 * bs ≤ n) (h2 : ¬ a + bs < n) : passA lt bs (f + 1) a d = d := by
  subst hs
  rw [passA, if_neg h, if_neg h2]
theorem passesA_go {lt : α → α → Bool} {f bs : Nat} {d : Array α} (hs : d.size = n) (h : bs < n) : passesA lt (f + 1) bs d = passesA lt f (2 * bs) (passA lt bs (n + 1) 0 d) := by
  subst hs
  rw [passesA, if_pos h]
theorem passesA_end {lt : α → α → Bool} {f bs : Nat} {d : Array α} (hs : d.size = n) (h : ¬ bs < n) : passesA lt f bs d = d := by
  subst hs
  cases f with
  | zero => rfl
  | succ f => rw [passesA, if_neg h]
set_option maxHeartbeats 32000000 in
set_option maxRecDepth 1000000 in
theorem srt_stable (eg : ∀ args w, (callFunc g args).run Tryz.prog w = .ok (.enter g args) w) (hcmp : CmpLays1 Tryz.prog g cb enc cf blk off d0.size w0) (hR : Row1 enc w0 blk off d0) (h0 : d0.size = n) (hn : n < 2305843009213693952) (d : Array α) (w : World) (hs : d.size = n) (hS : SW enc w0 blk off d w) :
    Calls Tryz.prog 151 #[.slice (some ⟨blk, off, none⟩) n cap, .int .i64 (n : Int), .func (.func g) #[] cb] w fun e w' => e = .returned (.tuple #[]) ∧ SW enc w0 blk off (stableA (ltOf cf) d) w' := by
  have HC : Aside _ := hcmp
  have R : Aside _ := hR
  have S0 : Aside _ := hS
  clear hcmp hR hS
  go_enter Tryz.func151, Tryz.ntmps151
  go_wp2_with fail
  go_loopg [7, 8] (n + 1) (fun g1 va vb wr => ∃ (a b f : Nat) (dk : Array α), va = .int .i64 (a : Int) ∧ vb = .int .i64 (b : Int) ∧ b ≤ a + 20 ∧ a + 20 ≤ b ∧ a ≤ n ∧ n ≤ a + f ∧ f ≤ g1 ∧ dk.size = n ∧ Aside (SW enc w0 blk off dk wr) ∧ Hid (blkA (ltOf cf) f a dk = blkA (ltOf cf) d.size 0 d))
  case atStart => exact ⟨0, 20, d.size, d, rfl, rfl, by omega, by omega, by omega, by omega, by omega, hs, S0, rfl⟩
  case round =>
    clear S0
    obtain ⟨a, b, f, dk, rfl, rfl, hb1, hb2, han, hf, hg1, hsc, SC, HB⟩ := hrel
    by_cases hlt : b ≤ n
    · have hl : (b : Int) ≤ (n : Int) := by omega
      obtain ⟨f, rfl⟩ : ∃ q, f = q + 1 := ⟨f - 1, by omega⟩
      obtain ⟨b', hb'⟩ : ∃ q, b + 20 = q := ⟨_, rfl⟩
      have eb : (b : Int) + 20 = (b' : Int) := by omega
      have HN : Hid (blkA (ltOf cf) f b (Sort.insertionSort (ltOf cf) dk a b) = blkA (ltOf cf) d.size 0 d) := Lib.hid (by
        rw [← HB.out, blkA_go hsc (by omega), show a + 20 = b by omega])
      clear hb'
      go_wp2_with (go_at_call 189; refine (srt_ins eg HC.out R.out h0 (by omega) _ _ hsc SC.out _ _ (by omega) (by omega)).mono ?_; rintro e9 w9 ⟨rfl, hS9, hz9⟩; replace hsc := hz9; replace SC : Aside _ := hS9; clear hS9 hz9)
      go_roundg f
      case measure => omega
      case rel => exact ⟨b, b', f, _, rfl, by first | rfl | go_num, by omega, by omega, by omega, by omega, Nat.le_refl _, hsc, SC, HN⟩
    · have hl : ¬ (b : Int) ≤ (n : Int) := by omega
      have HD := Lib.hid (HB.out.symm.trans (blkA_end hsc (by omega)))
      clear HB
      go_wp2_with (go_at_call 189; refine (srt_ins eg HC.out R.out h0 (by omega) _ _ hsc SC.out _ _ (by omega) (by omega)).mono ?_; rintro e9 w9 ⟨rfl, hS9, hz9⟩; replace hsc := hz9; replace SC : Aside _ := hS9; clear hS9 hz9)
      obtain ⟨d1, hd1⟩ : ∃ x, Sort.insertionSort (ltOf cf) dk a n = x := ⟨_, rfl⟩
      rw [hd1] at SC hsc HD
      clear hd1
      go_loopg [6, 7, 8, 9] (n + 1) (fun g1 vs _ _ _ wr => ∃ (bs f : Nat) (dk : Array α), vs = .int .i64 (bs : Int) ∧ 20 ≤ bs ∧ n ≤ bs + f ∧ f ≤ g1 ∧ dk.size = n ∧ Aside (SW enc w0 blk off dk wr) ∧ Hid (passesA (ltOf cf) f bs dk = stableA (ltOf cf) d))
      case atStart => exact ⟨20, d.size, d1, rfl, Nat.le_refl _, by omega, by omega, hsc, SC, Lib.hid (by unfold stableA; rw [HD.out])⟩
      case round =>
        clear SC hsc HD
        obtain ⟨bs, f, d2, rfl, hbs, hf2, hg2, hsc, SC, HP⟩ := hrel
        by_cases hlt2 : bs < n
        · have hl2 : (bs : Int) < (n : Int) := by omega
          obtain ⟨f, rfl⟩ : ∃ q, f = q + 1 := ⟨f - 1, by omega⟩
          obtain ⟨b2, hb2'⟩ : ∃ q, 2 * bs = q := ⟨_, rfl⟩
          have eb2 : 2 * (bs : Int) = (b2 : Int) := by omega
          have HP2 : Hid (passesA (ltOf cf) f b2 (passA (ltOf cf) bs (n + 1) 0 d2) = stableA (ltOf cf) d) := Lib.hid (by rw [← HP.out, passesA_go hsc hlt2, hb2'])
          have hz1 : b2 ≤ 2 * bs := by omega
          have hz2 : 2 * bs ≤ b2 := by omega
          clear HP hb2'
          go_wp2_with fail
          go_loopg [7, 8] (n + 1) (fun g3 va vb wr => ∃ (a b f2 : Nat) (dk : Array α), va = .int .i64 (a : Int) ∧ vb = .int .i64 (b : Int) ∧ b ≤ a + 2 * bs ∧ a + 2 * bs ≤ b ∧ a ≤ n ∧ n + 1 ≤ a + f2 ∧ f2 ≤ g3 ∧ dk.size = n ∧ Aside (SW enc w0 blk off dk wr) ∧ Hid (passA (ltOf cf) bs f2 a dk = passA (ltOf cf) bs (n + 1) 0 d2))
          case atStart => exact ⟨0, b2, n + 1, d2, rfl, rfl, by omega, by omega, by omega, by omega, Nat.le_refl _, hsc, SC, rfl⟩
          case round =>
            clear SC hsc
            obtain ⟨a, b, f2, d3, rfl, rfl, hb1, hb2, han, hf3, hg3, hsc, SC, HQ⟩ := hrel
            obtain ⟨f2, rfl⟩ : ∃ q, f2 = q + 1 := ⟨f2 - 1, by omega⟩
            obtain ⟨m, hm⟩ : ∃ q, a + bs = q := ⟨_, rfl⟩
            have em : (a : Int) + (bs : Int) = (m : Int) := by omega
            by_cases hlt3 : b ≤ n
            · have hl3 : (b : Int) ≤ (n : Int) := by omega
              obtain ⟨b', hb'⟩ : ∃ q, b + 2 * bs = q := ⟨_, rfl⟩
              have eb : (b : Int) + (b2 : Int) = (b' : Int) := by omega
              have HN : Hid (passA (ltOf cf) bs f2 b (symA (ltOf cf) n a m b d3) = passA (ltOf cf) bs (n + 1) 0 d2) := Lib.hid (by rw [← HQ.out, passA_go hsc (by omega), hm, show a + 2 * bs = b by omega])
              clear HQ
              go_wp2_with (go_at_call 190; refine (srt_sym eg HC.out R.out h0 hn n _ _ _ _ _ (by omega) (by omega) (by omega) (by omega) hsc SC.out).mono ?_; rintro e9 w9 ⟨rfl, hS9, hz9⟩; replace hsc := hz9; replace SC : Aside _ := hS9; clear hS9 hz9)
              go_roundg f2
              case measure => omega
              case rel => exact ⟨b, b', f2, _, rfl, by first | rfl | go_num, by omega, by omega, by omega, by omega, Nat.le_refl _, hsc, SC, HN⟩
            · have hl3 : ¬ (b : Int) ≤ (n : Int) := by omega
              have eb3 : (bs : Int) * 2 = (b2 : Int) := by omega
              by_cases hmn : m < n
              · have hl4 : (m : Int) < (n : Int) := by omega
                have HN := Lib.hid (HQ.out.symm.trans (passA_end hsc (by omega) (by omega)))
                rw [hm] at HN
                clear HQ hm
                rw [HN.out] at HP2
                go_wp2_with (go_at_call 190; refine (srt_sym eg HC.out R.out h0 hn n _ _ _ _ _ (by omega) (by omega) (by omega) (by omega) hsc SC.out).mono ?_; rintro e9 w9 ⟨rfl, hS9, hz9⟩; replace hsc := hz9; replace SC : Aside _ := hS9; clear hS9 hz9)
                go_roundg f
                case measure => omega
                case rel => exact ⟨b2, f, _, by first | rfl | go_num, by omega, by omega, by omega, hsc, SC, HP2⟩
              · have hl4 : ¬ (m : Int) < (n : Int) := by omega
                have HN := Lib.hid (HQ.out.symm.trans (passA_stop hsc (by omega) (by omega)))
                clear HQ hm
                rw [HN.out] at HP2
                go_wp2_with fail
                go_roundg f
                case measure => omega
                case rel => exact ⟨b2, f, _, by first | rfl | go_num, by omega, by omega, by omega, hsc, SC, HP2⟩
        · have hl2 : ¬ (bs : Int) < (n : Int) := by omega
          have HE := Lib.hid (HP.out.symm.trans (passesA_end hsc hlt2))
          go_wp2_with fail
          go_end0
          exact ⟨rfl, by rw [HE.out]; exact SC.out⟩
set_option maxHeartbeats 2000000 in
theorem srt_Stable (w : World) (eg : ∀ args w, (callFunc g args).run Tryz.prog w = .ok (.enter g args) w) (hcmp : CmpLays1 Tryz.prog g cb enc cf blk off d0.size w) (hR : Row1 enc w blk off d0) (h0 : d0.size = n) (hn : n < 2305843009213693952) :
    Calls Tryz.prog 110 #[.slice (some ⟨blk, off, none⟩) n cap, .func (.func g) #[] cb] w fun e w' => e = .returned (.tuple #[]) ∧ SW enc w blk off (stableA (ltOf cf) d0) w' := by
  have HS := Lib.hid (srt_stable (cap := cap) eg hcmp hR h0 hn d0 w h0 (SW.start hR.hH))
  clear hcmp hR
  go_enter Tryz.func110, Tryz.ntmps110
  go_wp2_with (go_at_call 151; refine HS.out.mono ?_; rintro e9 w9 ⟨rfl, hS9⟩)
  go_end0
  exact ⟨rfl, hS9⟩
end
end
section
open Go.RowKit Go.Sort
set_option linter.unusedVariables false
/-- a number of 32 bits -/
abbrev R32 := { x : Int // i32 x }
instance : Inhabited R32 := ⟨⟨0, by unfold i32; omega⟩⟩
instance (x : Int) : Decidable (i32 x) := by unfold i32; exact inferInstance
def encR (x : R32) : Value := .int .i32 x.1
def cfR (T : Tab) (x y : R32) : Int := Lib.compareInt (clsT T x.1) (clsT T y.1)
def toR (x : Int) : R32 := if h : i32 x then ⟨x, h⟩ else default
theorem toR_val {x : Int} (h : i32 x) : (toR x).1 = x := by unfold toR; rw [dif_pos h]
/-- a run of marks, in order -/
def sortL (T : Tab) (d : List Int) : List Int := if d.length ≤ 1 then d.map fun x => (toR x).1 else (stableA (ltOf (cfR T)) (d.map toR).toArray).toList.map (·.1)
theorem sortL_eq (T : Tab) (d : List Int) : sortL T d = (stableA (ltOf (cfR T)) (d.map toR).toArray).toList.map (·.1) := by
  unfold sortL
  split
  · rename_i h
    rw [stableA_one _ _ (by simpa using h)]
    simp only [List.map_map]
    rfl
  · rfl
theorem sortL_length (T : Tab) (d : List Int) : (sortL T d).length = d.length := by
  rw [sortL_eq]
  have := size_stableA (ltOf (cfR T)) (d.map toR).toArray
  simp only [List.length_map, Array.length_toList, this]
  simp
theorem sortL_i32 (T : Tab) (d : List Int) : ∀ x ∈ sortL T d, i32 x := fun x hx => by
  rw [sortL_eq] at hx
  obtain ⟨y, -, rfl⟩ := List.mem_map.1 hx
  exact y.2
def orderF (T : Tab) : Nat → List Int → List Int
  | 0, l => l
  | _ + 1, [] => []
  | f + 1, r :: t => if 0 < clsT T r then sortL T (r :: t.takeWhile fun x => decide (0 < clsT T x)) ++ orderF T f (t.dropWhile fun x => decide (0 < clsT T x)) else r :: orderF T f t
def orderR (T : Tab) (l : List Int) : List Int := orderF T l.length l
theorem dropWhile_le {α : Type} (p : α → Bool) (l : List α) : (l.dropWhile p).length ≤ l.length := by
  induction l with
  | nil => simp
  | cons x t ih =>
    rw [List.dropWhile_cons]
    split
    · simp; omega
    · simp
theorem orderF_fuel (T : Tab) : ∀ (f : Nat) (l : List Int), l.length ≤ f → orderF T f l = orderF T l.length l := by
  intro f
  induction f using Nat.strongRecOn with
  | _ f ih =>
    intro l hl
    cases l with
    | nil => cases f with
      | zero => rfl
      | succ f => rfl
    | cons r t =>
      cases f with
      | zero => simp at hl
      | succ f =>
        simp only [List.length_cons] at hl ⊢
        unfold orderF
        split
        · have hd := dropWhile_le (fun x => decide (0 < clsT T x)) t
          rw [ih f (by omega) _ (by omega)]
          by_cases h0 : t.length < f
          · rw [← ih t.length (by omega) _ hd]
          · have : f = t.length := by omega
            subst this
            rw [← ih t.length (by omega) _ hd]
        · rw [ih f (by omega) t (by omega)]
theorem orderF_plain {T : Tab} {f : Nat} {r : Int} {t : List Int} (h : ¬ 0 < clsT T r) : orderF T (f + 1) (r :: t) = r :: orderF T f t := by rw [orderF, if_neg h]
theorem take_while_is {α : Type} (p : α → Bool) : ∀ (l : List α) (k : Nat), k ≤ l.length → (∀ j x, j < k → l[j]? = some x → p x = true) → (∀ x, l[k]? = some x → p x = false) → l.takeWhile p = l.take k ∧ l.dropWhile p = l.drop k
  | [], k, hk, _, _ => by simp at hk; subst hk; simp
  | x :: t, 0, _, _, h2 => by
    have := h2 x rfl
    exact ⟨by simp [this], by simp [this]⟩
  | x :: t, k + 1, hk, h1, h2 => by
    have hx := h1 0 x (by omega) rfl
    obtain ⟨a, b⟩ := take_while_is p t k (by simpa using hk) (fun j y hj hy => h1 (j + 1) y (by omega) (by simpa using hy)) (fun y hy => h2 y (by simpa using hy))
    exact ⟨by simp [hx, a], by simp [hx, b]⟩
theorem orderF_marks {T : Tab} {l : List Int} {i e : Nat} (he : e ≤ l.length) (hie : i < e) (hm : ∀ j x, i ≤ j → j < e → l[j]? = some x → 0 < clsT T x) (hn : ∀ x, l[e]? = some x → ¬ 0 < clsT T x) :
    orderF T (l.length - i) (l.drop i) = sortL T ((l.drop i).take (e - i)) ++ orderF T (l.length - e) (l.drop e) := by
  obtain ⟨r, hr⟩ : ∃ r, l[i]? = some r := ⟨_, List.getElem?_eq_getElem (by omega)⟩
  have hd : l.drop i = r :: l.drop (i + 1) := by
    obtain ⟨h1, h2⟩ := List.getElem?_eq_some_iff.1 hr
    rw [List.drop_eq_getElem_cons h1, h2]
  obtain ⟨a, b⟩ := take_while_is (fun x => decide (0 < clsT T x)) (l.drop (i + 1)) (e - (i + 1)) (by simp; omega) (fun j x hj hx => by
    rw [List.getElem?_drop] at hx
    simpa using hm _ x (by omega) (by omega) hx) (fun x hx => by
    rw [List.getElem?_drop, show i + 1 + (e - (i + 1)) = e by omega] at hx
    simpa using hn x hx)
  rw [hd, show l.length - i = (l.length - i - 1) + 1 by omega, orderF, if_pos (hm i r (Nat.le_refl _) hie hr), a, b, List.drop_drop, show i + 1 + (e - (i + 1)) = e by omega, show e - i = (e - (i + 1)) + 1 by omega, List.take_succ_cons, orderF_fuel T _ _ (by simp; omega)]
  simp

/-- the cells of a row of runes with room behind it -/
def rowN (l : List Int) (k : Nat) : Array Value := (l.map (Value.int .i32)).toArray ++ Array.replicate k (.int .i32 0)
theorem rowN_get {l : List Int} {k j : Nat} (hj : j < l.length) : (rowN l k)[j]? = some (.int .i32 (l.getD j 0)) := by
  unfold rowN
  rw [Array.getElem?_append_left (by simpa using hj)]
  simp [List.getElem?_map, List.getElem?_eq_getElem hj, List.getD_eq_getElem?_getD]
theorem rowN_room {l : List Int} {k j : Nat} (hj : l.length ≤ j) : (rowN l k)[j]? = if j < l.length + k then some (.int .i32 0) else none := by
  unfold rowN
  rw [Array.getElem?_append_right (by simpa using hj), Array.getElem?_replicate]
  simp only [List.size_toArray, List.length_map]
  split <;> split <;> first | rfl | omega
/-- a piece of the row, sorted -/
theorem putCells_rowN (l : List Int) (k i : Nat) (d : Array R32) (hi : i + d.size ≤ l.length) : putCells encR i d (rowN l k) = rowN (l.take i ++ d.toList.map (·.1) ++ l.drop (i + d.size)) k := by
  have hlen : (l.take i ++ d.toList.map (·.1) ++ l.drop (i + d.size)).length = l.length := by simp; omega
  apply Array.ext_getElem?
  intro j
  unfold putCells
  rw [Array.getElem?_mapIdx]
  by_cases hj : j < l.length
  · rw [rowN_get hj, rowN_get (by rw [hlen]; exact hj)]
    simp only [Option.map_some]
    congr 1
    by_cases hr : i ≤ j ∧ j < i + d.size
    · rw [if_pos hr]
      unfold encR
      congr 1
      rw [List.getD_eq_getElem?_getD, List.getElem?_append_left (by simp; omega), List.getElem?_append_right (by simp; omega)]
      simp only [List.length_take, Nat.min_eq_left (show i ≤ l.length by omega), List.getElem?_map, Array.getElem?_toList]
      rw [getElem!_pos d (j - i) (by omega), Array.getElem?_eq_getElem (by omega)]
      rfl
    · rw [if_neg hr]
      congr 1
      rw [List.getD_eq_getElem?_getD, List.getD_eq_getElem?_getD]
      by_cases h1 : j < i
      · rw [List.append_assoc, List.getElem?_append_left (by simp; omega), List.getElem?_take_of_lt h1]
      · rw [List.getElem?_append_right (by simp; omega), List.getElem?_drop]
        congr 2
        simp
        omega
  · rw [rowN_room (by omega), rowN_room (by rw [hlen]; omega), hlen]
    split
    · omega
    · by_cases h : j < l.length + k
      · rw [if_pos h]; rfl
      · rw [if_neg h]; rfl
/-- a piece of the row, as the sort sees it -/
theorem holds_rowN {w : World} {g k i : Nat} {l : List Int} (hb : Blk w g 21 (rowN l k)) (hi32 : ∀ x ∈ l, i32 x) {m : Nat} (hm : i + m ≤ l.length) : Holds encR w g i (((l.drop i).take m).map toR).toArray := by
  intro j hj
  simp only [List.size_toArray, List.length_map, List.length_take, List.length_drop] at hj
  have hjl : i + j < l.length := by omega
  refine ⟨(hb.cell _).trans ?_, hb.frozen _⟩
  rw [rowN_get hjl, getElem!_pos _ j (by simp; omega)]
  unfold encR
  simp only [List.getElem_toArray, List.getElem_map, List.getElem_take, List.getElem_drop]
  rw [toR_val (hi32 _ (List.getElem_mem _)), List.getD_eq_getElem?_getD, List.getElem?_eq_getElem hjl]
  rfl
/-- what the sort leaves -/
theorem sw_row {w W : World} {g k i : Nat} {l : List Int} {d : Array R32} (h : SW encR w g i d W) (hb : Blk w g 21 (rowN l k)) (hi : i + d.size ≤ l.length) : Blk W g 21 (rowN (l.take i ++ d.toList.map (·.1) ++ l.drop (i + d.size)) k) := by
  obtain ⟨n, os, rfl⟩ := h
  have hlt := hb.lt
  unfold Blk at hb ⊢
  unfold sortWorld
  rw [heap_grow_old _ _ (by rw [size_putRow]; exact hlt)]
  show ((Go.Sort.ahead w n).heap.modify g (onCells (putCells encR i d)))[g]? = _
  rw [Array.getElem?_modify, if_pos rfl]
  show Option.map _ w.heap[g]? = _
  rw [hb, ← putCells_rowN l k i d hi]
  rfl
theorem sw_below {w W : World} {g i : Nat} {d : Array R32} (h : SW encR w g i d W) {B : Nat} (hB : B ≤ g) (hw : B ≤ w.heap.size) : Below B w W := by
  obtain ⟨n, os, rfl⟩ := h
  refine ⟨rfl, rfl, rfl, ?_, fun j hj => ?_⟩
  · unfold sortWorld
    rw [Sort.size_grow, size_putRow]
    exact Nat.le_add_right _ _
  · unfold sortWorld
    rw [heap_grow_old _ _ (by rw [size_putRow]; show j < w.heap.size; omega)]
    show ((Go.Sort.ahead w n).heap.modify g _)[j]? = _
    rw [Array.getElem?_modify, if_neg (by omega)]
    rfl

/-- what marks.Order holds: the box of its Book, the row of its runes -/
structure OrS (w0 : World) (N b : Nat) (k : Nat) (l : List Int) (W : World) : Prop where
  below : Below N w0 W
  bx : Blk W N 29 #[.pointer (some ⟨b, 0, none⟩)]
  row : Blk W (N + 1) 21 (rowN l k)
section
variable {w0 W W2 : World} {N b k : Nat} {l : List Int} {T : Tab}
theorem OrS.step (h : OrS w0 N b k l W) (hb : Below W.heap.size W W2) : OrS w0 N b k l W2 :=
  ⟨h.below.trans (hb.mono (Nat.le_of_lt h.bx.lt)), h.bx.below hb, h.row.below hb⟩
theorem OrS.sorted (h : OrS w0 N b k l W) {i : Nat} {d : Array R32} (hS : SW encR W (N + 1) i d W2) (hi : i + d.size ≤ l.length) : OrS w0 N b k (l.take i ++ d.toList.map (·.1) ++ l.drop (i + d.size)) W2 := by
  have hb := sw_below hS (Nat.le_refl _) (Nat.le_of_lt h.row.lt)
  exact ⟨h.below.trans (hb.mono (by omega)), h.bx.of (hb.block N (by omega)), sw_row hS h.row hi⟩
set_option maxRecDepth 100000 in
set_option maxHeartbeats 1000000 in
theorem order_1 {w : World} (hK : Bk w b T) (hc : w.cell? ⟨N, 0, none⟩ = some (.pointer (some ⟨b, 0, none⟩))) (x y : R32) :
    Calls Tryz.prog 111 #[encR x, encR y, .pointer (some ⟨N, 0, none⟩)] w fun e w' => e = .returned (.int .i64 (cfR T x y)) ∧ ∃ q, w' = w.drewN q := by
  have HC : Hid (∀ (z : R32) (q : Nat), Calls Tryz.prog 102 #[.pointer (some ⟨b, 0, none⟩), .int .i32 z.1] (w.drewN q) fun e w' => e = .returned (.int .i64 (clsT T z.1)) ∧ w' = w.drewN q) := Lib.hid (fun z q => (bk_Class (hK.below (Below.drwN (Below.refl _ w) q)) z.2).mono (fun e w' h => ⟨h.1, h.2.symm⟩))
  have HX : Hid (∀ (x y : Int) (q : Nat), Calls Tryz.prog 112 #[.int .i64 x, .int .i64 y] (w.drewN q) fun e w' => e = .returned (.int .i64 (Lib.compareInt x y)) ∧ w' = w.drewN q) := Lib.hid (fun x y q => Tryz.cmp_Compare_int x y (w.drewN q))
  clear hK
  unfold cfR encR
  go_enter Tryz.func111, Tryz.ntmps111
  go_wp2_with fail
  go_quiet (first | (go_at_call 102; refine Calls.quiet_of_same (HC.out _ _)) | (go_at_call 112; refine Calls.quiet_of_same (HX.out _ _ _)))
  go_wp2_with fail
  go_ret
  exact ⟨rfl, _, rfl⟩
theorem order_cmp (hN : w0.heap.size = N) (hK : Bk w0 b T) (h : OrS w0 N b k l W) (i n : Nat) : CmpLays1 Tryz.prog 111 #[.pointer (some ⟨N, 0, none⟩)] encR (cfR T) (N + 1) i n W := by
  intro m os dk hdk x y
  have hS : SW encR W (N + 1) i dk (sortWorld encR W (N + 1) i m dk os) := ⟨m, os, rfl⟩
  have hb := sw_below hS (Nat.le_refl _) (Nat.le_of_lt h.row.lt)
  refine (order_1 (N := N) (b := b) (T := T) (hK.below (by rw [hN]; exact h.below.trans (hb.mono (by omega)))) (((h.bx.of (hb.block N (by omega))).cell 0)) x y).mono ?_
  rintro e w' ⟨he, q, hq⟩
  exact ⟨he, q, #[], by rw [hq, grow_empty]⟩
end
end
section
open Go.RowKit Go.Sort
set_option linter.unusedVariables false
def orderS (T : Tab) (s : ByteArray) : ByteArray := strR (orderR T (rn s))
theorem OrS.start {w : World} {b : Nat} (s : ByteArray) {cap : Nat} (hc : (rn s).length ≤ cap) : OrS w w.heap.size b (cap - (rn s).length) (rn s) (((w.alloc (.cells #[.pointer (some ⟨b, 0, none⟩)] 29)).drew).alloc (.cells (rowR s cap) 21)) := by
  have b1 := Blk.new w 29 #[.pointer (some ⟨b, 0, none⟩)]
  obtain ⟨w1, h1⟩ : ∃ x, w.alloc (.cells #[.pointer (some ⟨b, 0, none⟩)] 29) = x := ⟨_, rfl⟩
  have hs1 : w1.heap.size = w.heap.size + 1 := by rw [← h1, World.size_alloc]
  have hb1 : Below w.heap.size w w1 := by rw [← h1]; exact (Below.refl _ w).alloc (Nat.le_refl _) _
  rw [h1] at b1 ⊢
  have hb2 : Below w1.heap.size w1 (w1.drew.alloc (.cells (rowR s cap) 21)) := (Below.drew (Below.refl _ w1)).alloc (Nat.le_refl _) _
  have b2 := Blk.new w1.drew 21 (rowR s cap)
  rw [show w1.drew.heap.size = w.heap.size + 1 from hs1] at b2
  exact ⟨below_trans hb1 hb2, b1.below hb2, b2⟩
theorem OrS.get {w0 W : World} {N b k : Nat} {l : List Int} (h : OrS w0 N b k l W) {j : Nat} {x : Int} (hx : l[j]? = some x) : W.cell? ⟨N + 1, j, none⟩ = some (.int .i32 x) := by
  obtain ⟨hj, rfl⟩ := List.getElem?_eq_some_iff.1 hx
  rw [h.row.cell, rowN_get hj, List.getD_eq_getElem?_getD, List.getElem?_eq_getElem hj]
  rfl
theorem bk_ClassQ {w0 w : World} {N b : Nat} {T : Tab} (hN : w0.heap.size = N) (hK : Bk w0 b T) (hb : Below N w0 w) {r c : Int} (hr : i32 r) (hc : clsT T r = c) (q : Nat) :
    Calls Tryz.prog 102 #[.pointer (some ⟨b, 0, none⟩), .int .i32 r] (w.drewN q) fun e w' => e = .returned (.int .i64 c) ∧ w' = w.drewN q := by
  subst hc
  exact (bk_Class (hK.below (by rw [hN]; exact Below.drwN hb q)) hr).mono (fun e w' h => ⟨h.1, h.2.symm⟩)
set_option maxRecDepth 100000 in
set_option maxHeartbeats 8000000 in
theorem marks_Order {w : World} {b : Nat} {T : Tab} (hK : Bk w b T) (s : ByteArray) (hs : s.size ≤ 10000000) :
    Calls Tryz.prog 47 #[.pointer (some ⟨b, 0, none⟩), .string s] w fun e w' => e = .returned (.string (orderS T s)) ∧ Below w.heap.size w w' := by
  obtain ⟨n, hn⟩ : ∃ n, (rn s).length = n := ⟨_, rfl⟩
  have hle := rn_le s
  have hcv := conv_to_runes s (w.alloc (.cells #[.pointer (some ⟨b, 0, none⟩)] 29)) (by omega)
  have hge := grownCap_ge (w.alloc (.cells #[.pointer (some ⟨b, 0, none⟩)] 29)) (rn s).length 0 21
  generalize grownCap (w.alloc (.cells #[.pointer (some ⟨b, 0, none⟩)] 29)) (rn s).length 0 21 = cap at hcv hge
  have HS0 := Lib.hid (OrS.start (w := w) (b := b) s hge)
  have HK := Lib.hid hK
  have Hn := Lib.hid hn
  rw [hn] at hcv hge hle HS0
  clear hn hK
  go_enter Tryz.func47, Tryz.ntmps47
  go_wp2_with fail
  have Hi32 := Lib.hid (rn_i32 s)
  go_loopg [6, 7] n (fun g1 vi _ wr => ∃ (i : Nat) (l : List Int), vi = .int .i64 (i : Int) ∧ i ≤ n ∧ n - i ≤ g1 ∧ l.length = n ∧ Hid (∀ x ∈ l, i32 x) ∧ Hid (OrS w w.heap.size b (cap - n) l wr) ∧ Hid (l.take i ++ orderF T (n - i) (l.drop i) = orderR T (rn s)))
  case atStart => exact ⟨0, rn s, rfl, Nat.zero_le _, by omega, Hn.out, Hi32, HS0, Lib.hid (by unfold orderR; rw [Hn.out]; rfl)⟩
  case round =>
    clear HS0 hcv
    obtain ⟨i, l, rfl, hin, hg1, hl, HI, HS, HL⟩ := hrel
    by_cases hlt : i < n
    · have hltz : (i : Int) < (n : Int) := by omega
      obtain ⟨r, hr⟩ : ∃ r, l[i]? = some r := ⟨_, List.getElem?_eq_getElem (by omega)⟩
      obtain ⟨c, hc⟩ : ∃ c, clsT T r = c := ⟨_, rfl⟩
      have hri : i32 r := HI.out r (List.mem_of_getElem? hr)
      have HC := Lib.hid (bk_ClassQ rfl HK.out HS.out.below hri hc)
      have e0 := HS.out.bx.cell 0
      simp only [List.getElem?_toArray, List.getElem?_cons_zero] at e0
      have e1 := HS.out.get hr
      have Hr := Lib.hid hr
      have Hc := Lib.hid hc
      have Hl := Lib.hid hl
      clear hr hc hl hri
      by_cases hc0 : 0 < c
      · have hd0 : decide (0 < c) = true := decide_eq_true hc0
        go_wp2_with fail
        go_quiet ((go_at_call 102; refine Calls.quiet_of_same (HC.out _)))
        have HS2 : Hid (OrS w w.heap.size b (cap - n) l (wr.drewN nq)) := Lib.hid (HS.out.step (Below.drwN (Below.refl _ wr) nq))
        clear e0 e1 HC HS
        generalize wr.drewN nq = w2 at HS2 ⊢
        clear nq
        go_wp2_with fail
        go_loopg [7] n (fun g2 ve wr => ∃ e : Nat, ve = .int .i64 (e : Int) ∧ i + 1 ≤ e ∧ e ≤ n ∧ n - e ≤ g2 ∧ Hid (OrS w w.heap.size b (cap - n) l wr) ∧ Hid (∀ j x, i ≤ j → j < e → l[j]? = some x → 0 < clsT T x))
        case atStart => exact ⟨i + 1, by go_num, Nat.le_refl _, by omega, by omega, HS2, Lib.hid (fun j x h1 h2 hx => by
          obtain rfl : j = i := by omega
          rw [Hr.out] at hx; cases hx; rw [Hc.out]; exact hc0)⟩
        case round =>
          clear HS2
          obtain ⟨e, rfl, hie, hen, hg2, HS3, HM⟩ := hrel
          have e0 := HS3.out.bx.cell 0
          simp only [List.getElem?_toArray, List.getElem?_cons_zero] at e0
          by_cases hlt2 : e < n
          · have hltz2 : (e : Int) < (n : Int) := by omega
            have hlt3 : decide ((e : Int) < (n : Int)) = true := decide_eq_true hltz2
            obtain ⟨x, hx⟩ : ∃ x, l[e]? = some x := ⟨_, List.getElem?_eq_getElem (by rw [Hl.out]; exact hlt2)⟩
            obtain ⟨c2, hc2⟩ : ∃ c, clsT T x = c := ⟨_, rfl⟩
            have HC2 := Lib.hid (bk_ClassQ rfl HK.out HS3.out.below (HI.out x (List.mem_of_getElem? hx)) hc2)
            have e1 := HS3.out.get hx
            have Hx := Lib.hid hx
            have Hc2 := Lib.hid hc2
            clear hx hc2
            by_cases hcx : 0 < c2
            · have hd2 : decide (0 < c2) = true := decide_eq_true hcx
              go_wp2_with fail
              go_quiet ((go_at_call 102; refine Calls.quiet_of_same (HC2.out _)))
              have HS4 : Hid (OrS w w.heap.size b (cap - n) l (wr.drewN nq)) := Lib.hid (HS3.out.step (Below.drwN (Below.refl _ wr) nq))
              clear e0 e1 HC2 HS3
              generalize wr.drewN nq = w4 at HS4 ⊢
              clear nq
              go_wp2_with fail
              go_roundg (n - (e + 1))
              case measure => omega
              case rel => exact ⟨e + 1, by go_num, by omega, by omega, Nat.le_refl _, HS4, Lib.hid (fun j y h1 h2 hy => by
                by_cases ej : j = e
                · subst ej; rw [Hx.out] at hy; cases hy; rw [Hc2.out]; exact hcx
                · exact HM.out j y h1 (by omega) hy)⟩
            · have hd2 : decide (0 < c2) = false := decide_eq_false hcx
              go_wp2_with fail
              go_quiet ((go_at_call 102; refine Calls.quiet_of_same (HC2.out _)))
              have HS4 : Hid (OrS w w.heap.size b (cap - n) l (wr.drewN nq)) := Lib.hid (HS3.out.step (Below.drwN (Below.refl _ wr) nq))
              have HE : Hid (∀ y, l[e]? = some y → ¬ 0 < clsT T y) := Lib.hid (fun y hy => by rw [Hx.out] at hy; cases hy; rw [Hc2.out]; omega)
              clear e0 e1 HC2 HS3
              generalize wr.drewN nq = w4 at HS4 ⊢
              clear nq
              have HF : Hid (orderF T (n - i) (l.drop i) = sortL T ((l.drop i).take (e - i)) ++ orderF T (n - e) (l.drop e)) := Lib.hid (by
                have := orderF_marks (T := T) (l := l) (i := i) (e := e) (by rw [Hl.out]; exact hen) (by omega) HM.out HE.out
                rw [Hl.out] at this
                exact this)
              obtain ⟨m, hm⟩ : ∃ m, e - i = m := ⟨_, rfl⟩
              have em : (e : Int) - (i : Int) = (m : Int) := by omega
              rw [hm] at HF
              have hlen : (((l.drop i).take m).map toR).toArray.size = m := by simp [Hl.out]; omega
              have HSo := Lib.hid (srt_Stable (cap := m) (n := m) (enc := encR) (cf := cfR T) (g := 111) (cb := #[.pointer (some ⟨w.heap.size, 0, none⟩)]) (blk := w.heap.size + 1) (off := i) (d0 := (((l.drop i).take m).map toR).toArray) w4 (fun args w => rfl) (order_cmp rfl HK.out HS4.out i _) ⟨fun _ => rfl, holds_rowN HS4.out.row HI.out (by rw [Hl.out]; omega), HS4.out.row.lt⟩ hlen (by omega))
              have k1 : (i : Int) ≤ (e : Int) := by omega
              have k2 : (e : Int) ≤ (cap : Int) := by omega
              have k3 : (0 : Int) ≤ (i : Int) := by omega
              go_wp2_with (go_at_call 110; refine HSo.out.mono ?_; rintro e9 w5 ⟨rfl, hS5⟩)
              have HS5 := Lib.hid (HS4.out.sorted hS5 (by rw [size_stableA, hlen, Hl.out]; omega))
              go_roundg (n - e)
              case measure => omega
              case rel =>
                have hsz : (stableA (ltOf (cfR T)) (((l.drop i).take m).map toR).toArray).size = m := by rw [size_stableA, hlen]
                have hsl : (sortL T ((l.drop i).take m)).length = m := by rw [sortL_length]; simpa using hlen
                rw [hsz, show i + m = e by omega] at HS5
                have hll : (l.take i ++ sortL T ((l.drop i).take m) ++ l.drop e).length = n := by simp [hsl, Hl.out]; omega
                refine ⟨e, l.take i ++ sortL T ((l.drop i).take m) ++ l.drop e, rfl, hen, Nat.le_refl _, hll, Lib.hid (fun x hx => ?_), Lib.hid (by rw [sortL_eq]; exact HS5.out), Lib.hid ?_⟩
                · rcases List.mem_append.1 hx with hx | hx
                  · rcases List.mem_append.1 hx with hx | hx
                    · exact HI.out x (List.mem_of_mem_take hx)
                    · exact sortL_i32 _ _ x hx
                  · exact HI.out x (List.mem_of_mem_drop hx)
                · have hti : (l.take i ++ sortL T ((l.drop i).take m)).length = e := by simp [hsl, Hl.out]; omega
                  rw [← HL.out, HF.out, List.take_left' hti, List.drop_left' hti]
                  simp
          · have hltz2 : ¬ (e : Int) < (n : Int) := by omega
            have hlt3 : decide ((e : Int) < (n : Int)) = false := decide_eq_false hltz2
            go_wp2_with fail
            go_big_region
            have HS4 : Hid (OrS w w.heap.size b (cap - n) l wr.drew) := Lib.hid (HS3.out.step (Below.drew (Below.refl _ wr)))
            have HE : Hid (∀ y, l[e]? = some y → ¬ 0 < clsT T y) := Lib.hid (fun y hy => by rw [List.getElem?_eq_none (by rw [Hl.out]; omega)] at hy; cases hy)
            clear e0 HS3
            generalize wr.drew = w4 at HS4 ⊢
            have HF : Hid (orderF T (n - i) (l.drop i) = sortL T ((l.drop i).take (e - i)) ++ orderF T (n - e) (l.drop e)) := Lib.hid (by
              have := orderF_marks (T := T) (l := l) (i := i) (e := e) (by rw [Hl.out]; exact hen) (by omega) HM.out HE.out
              rw [Hl.out] at this
              exact this)
            obtain ⟨m, hm⟩ : ∃ m, e - i = m := ⟨_, rfl⟩
            have em : (e : Int) - (i : Int) = (m : Int) := by omega
            rw [hm] at HF
            have hlen : (((l.drop i).take m).map toR).toArray.size = m := by simp [Hl.out]; omega
            have HSo := Lib.hid (srt_Stable (cap := m) (n := m) (enc := encR) (cf := cfR T) (g := 111) (cb := #[.pointer (some ⟨w.heap.size, 0, none⟩)]) (blk := w.heap.size + 1) (off := i) (d0 := (((l.drop i).take m).map toR).toArray) w4 (fun args w => rfl) (order_cmp rfl HK.out HS4.out i _) ⟨fun _ => rfl, holds_rowN HS4.out.row HI.out (by rw [Hl.out]; omega), HS4.out.row.lt⟩ hlen (by omega))
            have k1 : (i : Int) ≤ (e : Int) := by omega
            have k2 : (e : Int) ≤ (cap : Int) := by omega
            have k3 : (0 : Int) ≤ (i : Int) := by omega
            go_wp2_with (go_at_call 110; refine HSo.out.mono ?_; rintro e9 w5 ⟨rfl, hS5⟩)
            have HS5 := Lib.hid (HS4.out.sorted hS5 (by rw [size_stableA, hlen, Hl.out]; omega))
            go_roundg (n - e)
            case measure => omega
            case rel =>
              have hsz : (stableA (ltOf (cfR T)) (((l.drop i).take m).map toR).toArray).size = m := by rw [size_stableA, hlen]
              have hsl : (sortL T ((l.drop i).take m)).length = m := by rw [sortL_length]; simpa using hlen
              rw [hsz, show i + m = e by omega] at HS5
              have hll : (l.take i ++ sortL T ((l.drop i).take m) ++ l.drop e).length = n := by simp [hsl, Hl.out]; omega
              refine ⟨e, l.take i ++ sortL T ((l.drop i).take m) ++ l.drop e, rfl, hen, Nat.le_refl _, hll, Lib.hid (fun x hx => ?_), Lib.hid (by rw [sortL_eq]; exact HS5.out), Lib.hid ?_⟩
              · rcases List.mem_append.1 hx with hx | hx
                · rcases List.mem_append.1 hx with hx | hx
                  · exact HI.out x (List.mem_of_mem_take hx)
                  · exact sortL_i32 _ _ x hx
                · exact HI.out x (List.mem_of_mem_drop hx)
              · have hti : (l.take i ++ sortL T ((l.drop i).take m)).length = e := by simp [hsl, Hl.out]; omega
                rw [← HL.out, HF.out, List.take_left' hti, List.drop_left' hti]
                simp
      · have hd0 : decide (0 < c) = false := decide_eq_false hc0
        go_wp2_with fail
        go_quiet ((go_at_call 102; refine Calls.quiet_of_same (HC.out _)))
        have HS2 : Hid (OrS w w.heap.size b (cap - n) l (wr.drewN nq)) := Lib.hid (HS.out.step (Below.drwN (Below.refl _ wr) nq))
        clear e0 e1 HC HS
        generalize wr.drewN nq = w2 at HS2 ⊢
        clear nq
        go_wp2_with fail
        go_roundg (n - (i + 1))
        case measure => omega
        case rel =>
          refine ⟨i + 1, l, by go_num, by omega, Nat.le_refl _, Hl.out, HI, HS2, Lib.hid ?_⟩
          rw [← HL.out]
          obtain ⟨h1, h2⟩ := List.getElem?_eq_some_iff.1 Hr.out
          rw [List.drop_eq_getElem_cons h1, h2, show n - i = (n - (i + 1)) + 1 by omega, orderF_plain (by rw [Hc.out]; omega), List.take_add_one, Hr.out]
          simp
    · obtain rfl : i = n := by omega
      have hltz : ¬ (i : Int) < (i : Int) := by omega
      have hcr := conv_runes (w := wr) (A := some ⟨w.heap.size + 1, 0, none⟩) (ns := l) (c := cap) (fun h0 => ⟨⟨w.heap.size + 1, 0, none⟩, rfl, HS.out.row.lt, fun j hj => by
        rw [addr_add0, Nat.zero_add]
        exact (HS.out.row.cell j).trans (rowN_get hj)⟩)
      rw [hl] at hcr
      have HE : Hid (orderS T s = strR l) := Lib.hid (by
        unfold orderS
        rw [← HL.out, Nat.sub_self, List.drop_of_length_le (by omega), List.take_of_length_le (by omega)]
        simp [orderF])
      go_wp2_with fail
      go_ret
      exact ⟨by rw [HE.out]; rfl, HS.out.below⟩

end
section
open Go.RowKit
set_option linter.unusedVariables false
def openS (T : Tab) (s : ByteArray) : ByteArray := orderS T (strR ((rn s).flatMap (apartT T)))
theorem grown_iterAt (W : World) (k : Nat) (s : ByteArray) (p : Nat) : W.grownBy (W.iterAt k s p) (some k) :=
  ⟨rfl, rfl, rfl, by rw [Lib.iterAt_size]; exact Nat.le_refl _, fun j _ hj => Lib.iterAt_other _ _ _ _ _ (fun e => hj (by rw [e]))⟩
theorem apartF_pos (T : Tab) : ∀ (f : Nat) (r : Int), 0 < (apartF T f r).length
  | 0, r => by simp [apartF]
  | f + 1, r => by
    unfold apartF
    cases (mapsOf T).pr r with
    | none => simp
    | some p => simp
/-- a loop over a text that appends runes -/
structure OpS (w : World) (g : Nat) (s : ByteArray) (p : Nat) (out : List Int) (v : Value) (wr : World) : Prop where
  it : ItAt w g s p wr
  own : wr.ownsRow (g + 1) 21 1 v out.length (out.map (Value.int .i32))
section
variable {w wr w2 : World} {g p : Nat} {s : ByteArray} {out more : List Int} {v v' : Value}
theorem OpS.next (h : OpS w g s p out v wr) (hg : w.heap.size ≤ g) (q : Nat) : OpS w g s q out v (wr.iterAt g s q) :=
  ⟨h.it.next hg q, h.own.kept (grown_iterAt _ _ _ _) (.inr (fun e => by have := (h.own.lt _ e).1; omega))⟩
theorem OpS.step (h : OpS w g s p out v wr) (hb : Below wr.heap.size wr w2) : OpS w g s p out v w2 := ⟨h.it.step hb, ownS_below h.own hb⟩
theorem OpS.push (h : OpS w g s p out v wr) (hg : w.heap.size ≤ g) {m : Nat} (hm : m = more.length) (hown : w2.ownsRow (g + 1) 21 1 v' (out.length + m) (out.map (Value.int .i32) ++ more.map (Value.int .i32))) (hgr : wr.grownBy w2 v.ownBlock) : OpS w g s p (out ++ more) v' w2 := by
  subst hm
  refine ⟨⟨h.it.below.grown hgr h.it.below.size (fun k e => by have := (h.own.lt _ e).1; omega), (hgr.block g h.it.lt (fun e => by have := (h.own.lt _ e.symm).1; omega)).trans h.it.it⟩, ?_⟩
  rw [List.length_append, List.map_append]
  exact hown
theorem own_runes {W : World} {base n : Nat} {v : Value} {ns : List Int} (h : W.ownsRow base 21 1 v n (ns.map (Value.int .i32))) (hn : n = ns.length) : ∃ A c, v = .slice A n c ∧ RunesAt W A ns := by
  subst hn
  obtain ⟨A, c, rfl, hA⟩ := own_form h
  refine ⟨A, c, rfl, fun h0 => ?_⟩
  obtain ⟨g, rfl, hg, hlt, hc⟩ := hA h0
  refine ⟨⟨g, 0, none⟩, rfl, hlt, fun j hj => ?_⟩
  rw [addr_add0, Nat.zero_add, hc j (by omega), List.getElem?_map, List.getElem?_eq_getElem hj, List.getD_eq_getElem?_getD, List.getElem?_eq_getElem hj]
  rfl
end
theorem runes_news {w : World} {a : Addr} {ns : List Int} (h : RunesAt w (some a) ns) : ∀ j u, (ns.map (Value.int .i32))[j]? = some u → w.cell? (a.add j) = some u := fun j u hu => by
  rw [List.getElem?_map] at hu
  cases hx : ns[j]? with
  | none => rw [hx] at hu; cases hu
  | some x =>
    rw [hx] at hu
    cases hu
    obtain ⟨hj, rfl⟩ := List.getElem?_eq_some_iff.1 hx
    obtain ⟨a', e, -, hc⟩ := h (by omega)
    cases e
    rw [hc j hj, List.getD_eq_getElem?_getD, List.getElem?_eq_getElem hj]
    rfl
set_option maxRecDepth 100000 in
set_option maxHeartbeats 8000000 in
theorem open_Open {w : World} {b : Nat} {T : Tab} (hK : Bk w b T) (hR : RightT T) (s : ByteArray) (hs : s.size ≤ 100000) :
    Calls Tryz.prog 17 #[.pointer (some ⟨b, 0, none⟩), .string s] w fun e w' => e = .returned (.string (openS T s)) ∧ Below w.heap.size w w' := by
  obtain ⟨i0, hi, hz0, hz1, hz2⟩ := info_parts infoR
  have HK := Lib.hid hK
  have HR := Lib.hid hR
  have HS0 : Hid (OpS w w.heap.size s 0 [] (.slice none 0 0) (w.iter s 0)) := Lib.hid ⟨ItAt.start (Below.refl _ w), World.ownsRow_nil _ _ _ _⟩
  clear hK hR
  go_enter Tryz.func17, Tryz.ntmps17
  go_wp2_with fail
  go_loopw [5] (fun v wr => ∃ (p : Nat) (out : List Int), p ≤ s.size ∧ out.length ≤ 5 * p ∧ Hid (OpS w w.heap.size s p out v wr) ∧ Hid (out ++ (runesI (s.data.toList.drop p)).flatMap (apartT T) = (rn s).flatMap (apartT T))) (fun _ wr => s.size - wr.iterPos w.heap.size)
  case atStart => exact ⟨0, [], Nat.zero_le _, by simp, HS0, Lib.hid (by rw [rn_def]; rfl)⟩
  case round =>
    clear HS0
    obtain ⟨p, out, hp, hl, HA, HL⟩ := hrel
    by_cases hlt : p < s.size
    · have hnx := fun ty => Lib.run_next_any_at (P := Tryz.prog) wr w.heap.size s p ty HA.out.it.it hlt
      obtain ⟨d1, d2, d3⟩ := dec_pos s hlt
      obtain ⟨r, hr⟩ : ∃ r : Nat, (Utf8.decode s p).1 = r := ⟨_, rfl⟩
      obtain ⟨q, hq⟩ : ∃ q, p + (Utf8.decode s p).2 = q := ⟨_, rfl⟩
      have hrc := rn_cons hlt
      rw [hr, hq] at hrc
      have HA2 := Lib.hid (HA.out.next (Nat.le_refl _) q)
      have Hpos := Lib.hid HA.out.it.pos
      simp only [hr, hq] at hnx
      obtain ⟨w3, hw3⟩ : ∃ w3, wr.iterAt w.heap.size s q = w3 := ⟨_, rfl⟩
      rw [hw3] at HA2
      simp only [hw3] at hnx
      have HO := Lib.hid (open_Rune (HK.out.below HA2.out.it.below) HR.out (r := (r : Int)) (by unfold i32; omega))
      rw [hrc, List.flatMap_cons] at HL
      have hq1 : p + 1 ≤ q := by omega
      have hq2 : q ≤ s.size := by omega
      have Hm : Hid (s.size - q < s.size - p) := Lib.hid (by omega)
      obtain ⟨ap, hap⟩ : ∃ l, apartT T (r : Int) = l := ⟨_, rfl⟩
      have ha1 : 0 < ap.length := by rw [← hap]; exact apartF_pos T 4 _
      have ha2 : ap.length ≤ 5 := by rw [← hap]; exact apartF_len T 4 _
      rw [hap] at HO HL
      obtain ⟨n, hn⟩ : ∃ n, out.length = n := ⟨_, rfl⟩
      obtain ⟨m, hm⟩ : ∃ m, ap.length = m := ⟨_, rfl⟩
      have Hn := Lib.hid hn
      have Hmm := Lib.hid hm
      rw [hn] at hl
      rw [hm] at ha1 ha2 HO
      clear hrc hr hq hw3 d1 d2 d3 hap hn hm HA
      go_wp2_with (first | (go_at_call 46; refine HO.out.mono ?_; rintro e w4 ⟨⟨A, c, rfl, hA⟩, hb4⟩; have HA4 := Lib.hid (HA2.out.step hb4); obtain ⟨a, hae, -⟩ := hA (by rw [Hmm.out]; exact ha1); subst hae; have hsz := HA4.out.it.lt; have Hr4 := Lib.hid hA; clear hA hb4) | (at_builtin; (refine wpList_append_own _ rfl _ _ 55 rfl (w.heap.size + 1) 21 i0 _ 1 4 Tryz.underlying55 hi hz0 hz1 hz2 rfl (by decide) u5 n _ rfl (by rw [← Hn.out]; exact HA4.out.own) a m _ (ap.map (Value.int .i32)) rfl (by rw [List.length_map, Hmm.out]; omega) (runes_news Hr4.out) (fun u hu => by obtain ⟨x, -, rfl⟩ := List.mem_map.1 hu; rfl) (by unfold maxLen; omega) (by omega) (by omega) ?_); intro v' w5 hown' hgrow _))
      go_roundw
      case rel =>
        refine ⟨q, out ++ ap, hq2, by rw [List.length_append, Hn.out, Hmm.out]; omega, Lib.hid (HA4.out.push (Nat.le_refl _) Hmm.out.symm (by rw [Hn.out]; exact hown') hgrow), Lib.hid (by rw [← HL.out, List.append_assoc])⟩
      case measure =>
        have h5 := (HA4.out.push (Nat.le_refl _) Hmm.out.symm (by rw [Hn.out]; exact hown') hgrow).it.pos
        rw [h5, Hpos.out]; exact Hm.out
    · have hnx := fun ty => Lib.run_next_end_at (P := Tryz.prog) wr w.heap.size s p ty HA.out.it.it hlt
      rw [rn_end hlt] at HL
      have HL3 : Hid ((rn s).flatMap (apartT T) = out) := Lib.hid (by rw [← HL.out]; simp)
      obtain ⟨A, c, hv, hA⟩ := own_runes HA.out.own rfl
      have hcr := conv_runes (c := c) hA
      have hsz := strR_le out
      have HO := Lib.hid (marks_Order (HK.out.below HA.out.it.below) (strR out) (by omega))
      subst hv
      clear HL hA
      go_wp2_with (go_at_call 47; refine HO.out.mono ?_; rintro e w5 ⟨rfl, hb5⟩)
      go_ret
      exact ⟨by unfold openS; rw [HL3.out]; rfl, below_trans HA.out.it.below hb5⟩

end
end Go.Proofs.YtjmkdimbbacnfaaGreatDoor
