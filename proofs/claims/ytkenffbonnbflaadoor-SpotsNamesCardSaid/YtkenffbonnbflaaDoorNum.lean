/- Walks: in which spot a byte lies (number, Of), in which line and column (Where), and back (Find). -/
import Derived.Test.YtkenffbonnbflaaDoorSearch
import Derived.Test.YtkenffbonnbflaaDoorPld
import Derived.Test.YtkenffbonnbflaaDoorText2
namespace Go.Proofs.YtkenffbonnbflaaDoor
open Go.RowKit
set_option linter.unusedVariables false

section
variable {g n c m : Nat} {f : Nat → Int} {x : Int} {w : World}
theorem rise_le (hs : ∀ a b, a < b → b < n → f a < f b) : ∀ a b, a ≤ b → b < n → f a ≤ f b := fun a b h hb => by
  rcases Nat.lt_or_ge a b with k | k
  · exact Int.le_of_lt (hs a b k hb)
  · rw [show a = b by omega]; exact Int.le_refl _
theorem Search_eq (hn : n ≤ 1048576) (hx : -9223372036854775808 ≤ x ∧ x ≤ 9223372036854775807) (hc : ∀ j, j < n → w.cell? ⟨g, j, none⟩ = some (.int .i64 (f j))) (hs : ∀ a b, a < b → b < n → f a < f b) (hm : m < n) (he : f m = x) :
    Calls Tryd.prog 94 #[.slice (some ⟨g, 0, none⟩) n c, .int .i64 x] w fun e w' => e = .returned (.tuple #[.int .i64 (m : Int), .bool true]) ∧ ∃ q, w.drewN q = w' := by
  refine (Search_any g n c f x w hn hx hc (rise_le hs)).mono ?_
  rintro e w' ⟨⟨r, h1, h2, h3, rfl⟩, q, rfl⟩
  obtain rfl : r = m := by
    rcases Nat.lt_trichotomy r m with k | k | k
    · have := hs r m k hm
      have := h3 r (Nat.le_refl _) (by omega)
      omega
    · exact k
    · have := h2 m k
      omega
  rw [decide_eq_true (show r < n ∧ f r = x from ⟨hm, he⟩)]
  exact ⟨rfl, q, rfl⟩
theorem Search_ne (hn : n ≤ 1048576) (hx : -9223372036854775808 ≤ x ∧ x ≤ 9223372036854775807) (hc : ∀ j, j < n → w.cell? ⟨g, j, none⟩ = some (.int .i64 (f j))) (hs : ∀ a b, a < b → b < n → f a < f b) (hm : m < n) (he : f m < x) (hx2 : m + 1 < n → x < f (m + 1)) :
    Calls Tryd.prog 94 #[.slice (some ⟨g, 0, none⟩) n c, .int .i64 x] w fun e w' => e = .returned (.tuple #[.int .i64 ((m + 1 : Nat) : Int), .bool false]) ∧ ∃ q, w.drewN q = w' := by
  refine (Search_any g n c f x w hn hx hc (rise_le hs)).mono ?_
  rintro e w' ⟨⟨r, h1, h2, h3, rfl⟩, q, rfl⟩
  obtain rfl : r = m + 1 := by
    rcases Nat.lt_trichotomy r (m + 1) with k | k | k
    · have := h3 m (by omega) hm
      omega
    · exact k
    · have := h2 (m + 1) k
      have := hx2 (by omega)
      omega
  rw [decide_eq_false (show ¬ (m + 1 < n ∧ f (m + 1) = x) from fun h => by have := hx2 h.1; omega)]
  exact ⟨rfl, q, rfl⟩
end

theorem num_from (s : ByteArray) (b : Nat) : ∀ (k m : Nat), nS s ≤ m + k → m ≤ nS s → bAt s m ≤ b → ∃ n, IsNum s b n
  | 0, m, h, hm, hb => ⟨m, hm, hb, fun h2 => by omega⟩
  | k + 1, m, h, hm, hb => by
    rcases Nat.lt_or_ge m (nS s) with c | c
    · rcases Nat.lt_or_ge b (bAt s (m + 1)) with d | d
      · exact ⟨m, hm, hb, fun _ => d⟩
      · exact num_from s b k (m + 1) (by omega) (by omega) d
    · exact ⟨m, hm, hb, fun h2 => by omega⟩
theorem num_is (s : ByteArray) (b : Nat) : ∃ n, IsNum s b n := num_from s b (nS s) 0 (by omega) (Nat.zero_le _) (by rw [bAt_nil]; omega)

section
variable {w : World} {T : Nat} {s : ByteArray} {gb cb gl cl : Nat}
theorem number_yes (h : TextIs w T s gb cb gl cl) (b n : Nat) (hn : IsNum s b n) (hb : b ≤ s.size) :
    Calls Tryd.prog 92 #[.pointer (some ⟨T, 0, none⟩), .int .i64 (b : Int)] w fun e w' => e = .returned (.tuple #[.int .i64 (n : Int), .bool true]) ∧ ∃ q, w.drewN q = w' := by
  have c0 := h.c0
  have c1 := h.c1
  have hs := h.size
  have hsn := nS_le s
  obtain ⟨n1, n2, n3⟩ := hn
  have hr : ∀ a b, a < b → b < nS s + 1 → (bAt s a : Int) < (bAt s b : Int) := fun a b h hb => by have := bAt_lt s a b h (by omega); omega
  rcases Nat.eq_or_lt_of_le n2 with he | he
  · have HS : ∀ w1, TextIs w1 T s gb cb gl cl → _ := fun w1 h1 => Search_eq (f := fun i => (bAt s i : Int)) (c := cb) (by omega) (by omega) (fun j hj => h1.hb j hj) hr (m := n) (by omega) (show (bAt s n : Int) = (b : Int) by omega)
    have HH := Lib.hid HS
    have HT := Lib.hid h
    clear h hr HS
    go_enter Tryd.func92, Tryd.ntmps92
    go_wp2_with (go_at_call 94; refine (HH.out _ (by first | exact HT.out | exact HT.out.drew | exact HT.out.drew.drew)).mono ?_; rintro e w' ⟨rfl, q, rfl⟩)
    go_ret2
    exact ⟨rfl, _, rfl⟩
  · have HS : ∀ w1, TextIs w1 T s gb cb gl cl → _ := fun w1 h1 => Search_ne (f := fun i => (bAt s i : Int)) (c := cb) (x := (b : Int)) (by omega) (by omega) (fun j hj => h1.hb j hj) hr (m := n) (by omega) (show (bAt s n : Int) < (b : Int) by omega) (fun hh => by have := n3 (by omega); omega)
    have HH := Lib.hid HS
    have HT := Lib.hid h
    clear h hr HS
    go_enter Tryd.func92, Tryd.ntmps92
    go_wp2_with (go_at_call 94; refine (HH.out _ (by first | exact HT.out | exact HT.out.drew | exact HT.out.drew.drew)).mono ?_; rintro e w' ⟨rfl, q, rfl⟩)
    go_ret2
    refine ⟨?_, _, rfl⟩
    first | rfl | (simp; done)
theorem number_no (h : TextIs w T s gb cb gl cl) (b : Int) (hb : b < 0 ∨ (s.size : Int) < b) :
    Calls Tryd.prog 92 #[.pointer (some ⟨T, 0, none⟩), .int .i64 b] w fun e w' => e = .returned (.tuple #[.int .i64 0, .bool false]) ∧ ∃ q, w.drewN q = w' := by
  have c0 := h.c0
  rcases Int.lt_or_le b 0 with h0 | h0
  · clear hb
    go_enter Tryd.func92, Tryd.ntmps92
    go_wp2_with fail
    go_ret2
    exact ⟨rfl, 0, rfl⟩
  · have hb' : (s.size : Int) < b := by omega
    clear hb
    go_enter Tryd.func92, Tryd.ntmps92
    go_wp2_with fail
    go_ret2
    exact ⟨rfl, 0, rfl⟩
theorem drewN_below (w : World) (q : Nat) : Below w.heap.size w (w.drewN q) := ⟨rfl, rfl, rfl, Nat.le_refl _, fun _ _ => rfl⟩
theorem below_ad (w : World) (o : Obj) (q : Nat) : Below w.heap.size w ((w.alloc o).drewN q) := ((Below.refl _ w).alloc (Nat.le_refl _) o).trans ⟨rfl, rfl, rfl, Nat.le_refl _, fun _ _ => rfl⟩
/-- the At of a byte, its spot and its line -/
def atV (b n l ls : Nat) : Value := .agg #[.int .i64 (b : Int), .int .i64 ((l : Int) + 1), .int .i64 ((n : Int) - (ls : Int) + 1)]
theorem Where_no (h : TextIs w T s gb cb gl cl) (b : Int) (hb : b < 0 ∨ (s.size : Int) < b) :
    Calls Tryd.prog 71 #[.pointer (some ⟨T, 0, none⟩), .int .i64 b] w fun e w' => e = .returned (.tuple #[.agg #[.int .i64 0, .int .i64 0, .int .i64 0], .bool false]) ∧ Below w.heap.size w w' := by
  have h1 := h.below ((Below.refl _ w).alloc (Nat.le_refl _) (.cells #[.int .i64 0, .int .i64 0, .int .i64 0] 94))
  have HN := Lib.hid (number_no h1 b hb)
  clear hb
  go_enter Tryd.func71, Tryd.ntmps71
  go_wp2_with (go_at_call 92; refine HN.out.mono ?_; rintro e w' ⟨rfl, q, rfl⟩)
  refine bodyPost_ret (v := .tuple #[.agg #[.int .i64 0, .int .i64 0, .int .i64 0], .bool false]) (by simp [results, Tryd.results71, go_sem]) rfl ⟨rfl, ?_⟩
  first | exact below_ad w _ q | exact (((below_ad w _ _).setCell (Nat.le_refl _) _).setCell (Nat.le_refl _) _).setCell (Nat.le_refl _) _ | exact ((below_ad w _ _).setCell (Nat.le_refl _) _).setCell (Nat.le_refl _) _
theorem Where_yes (h : TextIs w T s gb cb gl cl) (b n : Nat) (hn : IsNum s b n) (hb : b ≤ s.size) :
    Calls Tryd.prog 71 #[.pointer (some ⟨T, 0, none⟩), .int .i64 (b : Int)] w fun e w' => e = .returned (.tuple #[atV b n (lnOf s n) (lAt s (lnOf s n)), .bool true]) ∧ Below w.heap.size w w' := by
  have h1 := h.below ((Below.refl _ w).alloc (Nat.le_refl _) (.cells #[.int .i64 0, .int .i64 0, .int .i64 0] 94))
  have HN := Lib.hid (number_yes h1 b n hn hb)
  have hs := h.size
  have hsn := nS_le s
  have hnl := nL_le s
  obtain ⟨n1, n2, n3⟩ := hn
  obtain ⟨l1, l2, l3⟩ := lnOf_is s n n1
  generalize lnOf s n = k at *
  have hr : ∀ a b, a < b → b < nL s → (lAt s a : Int) < (lAt s b : Int) := fun a b h hb => by have := lAt_strict s a b h hb; omega
  have hlk := fun w1 (h1 : TextIs w1 T s gb cb gl cl) => h1.hl k l1
  rcases Nat.eq_or_lt_of_le l2 with he | he
  · have HS : ∀ w1, TextIs w1 T s gb cb gl cl → _ := fun w1 h1 => Search_eq (f := fun i => (lAt s i : Int)) (c := cl) (by omega) (by omega) (fun j hj => h1.hl j hj) hr (m := k) (by omega) (show (lAt s k : Int) = (n : Int) by omega)
    have HH := Lib.hid HS
    have c2 := h1.c2
    have hl := h1.hl k l1
    have HT := Lib.hid h1
    clear h h1 hr HS hlk
    have Hn3 := Lib.hid n3
    have Hl3 := Lib.hid l3
    clear n3 l3
    go_enter Tryd.func71, Tryd.ntmps71
    go_wp2_with (first
      | (go_at_call 92; refine HN.out.mono ?_; rintro e w' ⟨rfl, q, rfl⟩)
      | (go_at_call 94; refine (HH.out _ (by first | exact HT.out | exact HT.out.drewN _ | exact (HT.out.drewN _).drew)).mono ?_; rintro e w' ⟨rfl, q2, rfl⟩))
    refine bodyPost_ret (v := .tuple #[.agg #[.int .i64 (b : Int), .int .i64 ((k : Int) + 1), .int .i64 1], .bool true]) (by simp [results, Tryd.results71, go_sem]) rfl ⟨?_, ?_⟩
    · unfold atV
      rw [he, show (n : Int) - (n : Int) + 1 = 1 by omega]
    · exact (((below_ad w _ _).setCell (Nat.le_refl _) _).setCell (Nat.le_refl _) _).setCell (Nat.le_refl _) _
  · have HS : ∀ w1, TextIs w1 T s gb cb gl cl → _ := fun w1 h1 => Search_ne (f := fun i => (lAt s i : Int)) (c := cl) (x := (n : Int)) (by omega) (by omega) (fun j hj => h1.hl j hj) hr (m := k) (by omega) (show (lAt s k : Int) < (n : Int) by omega) (fun hh => by have := l3 (by omega); omega)
    have HH := Lib.hid HS
    have c2 := h1.c2
    have hl := h1.hl k l1
    have HT := Lib.hid h1
    clear h h1 hr HS hlk
    have Hn3 := Lib.hid n3
    have Hl3 := Lib.hid l3
    clear n3 l3
    go_enter Tryd.func71, Tryd.ntmps71
    go_wp2_with (first
      | (go_at_call 92; refine HN.out.mono ?_; rintro e w' ⟨rfl, q, rfl⟩)
      | (go_at_call 94; refine (HH.out _ (by first | exact HT.out | exact HT.out.drewN _ | exact (HT.out.drewN _).drew)).mono ?_; rintro e w' ⟨rfl, q2, rfl⟩))
    refine bodyPost_ret (v := .tuple #[atV b n k (lAt s k), .bool true]) (by simp [atV, results, Tryd.results71, go_sem]) rfl ⟨rfl, ?_⟩
    exact (((below_ad w _ _).setCell (Nat.le_refl _) _).setCell (Nat.le_refl _) _).setCell (Nat.le_refl _) _
theorem Find_no (h : TextIs w T s gb cb gl cl) (l c : Int) (hl : -9223372036854775808 ≤ l ∧ l ≤ 9223372036854775807) (hc : -9223372036854775808 ≤ c ∧ c ≤ 9223372036854775807)
    (hno : l < 1 ∨ (nL s : Int) < l ∨ ∃ k : Nat, k < nL s ∧ l = (k : Int) + 1 ∧ (c < 1 ∨ (eAt s k : Int) - (lAt s k : Int) < c - 1)) :
    Calls Tryd.prog 72 #[.pointer (some ⟨T, 0, none⟩), .int .i64 l, .int .i64 c] w fun e w' => e = .returned (.tuple #[.agg #[.int .i64 0, .int .i64 0], .bool false]) ∧ Below w.heap.size w w' := by
  have h1 := h.below ((Below.refl _ w).alloc (Nat.le_refl _) (.cells #[.int .i64 0, .int .i64 0] 82))
  have hs := h.size
  have hsn := nS_le s
  have hnl := nL_le s
  have hno' : (l < 1 ∨ (nL s : Int) < l) ∨ ∃ k : Nat, k < nL s ∧ l = (k : Int) + 1 ∧ (c < 1 ∨ (eAt s k : Int) - (lAt s k : Int) < c - 1) := by
    rcases hno with h | h | h
    · exact .inl (.inl h)
    · exact .inl (.inr h)
    · exact .inr h
  rcases hno' with hn | ⟨k, hk, rfl, hcc⟩
  · have HE := Lib.hid (ends_no h1 l hn)
    clear hno hn h1
    go_enter Tryd.func72, Tryd.ntmps72
    go_wp2_with (go_at_call 95; refine HE.out.mono ?_; rintro e w' ⟨rfl, rfl⟩)
    refine bodyPost_ret (v := .tuple #[.agg #[.int .i64 0, .int .i64 0], .bool false]) (by simp [results, Tryd.results72, go_sem]) rfl ⟨rfl, ?_⟩
    first | exact (Below.refl _ w).alloc (Nat.le_refl _) _ | exact (((Below.refl _ w).alloc (Nat.le_refl _) _).setCell (Nat.le_refl _) _).setCell (Nat.le_refl _) _
  · have HE := Lib.hid (ends_yes h1 k hk)
    obtain ⟨e1, e2⟩ := eAt_ge s k hk
    clear hno h1
    by_cases hc0 : c < 1
    · clear hcc
      go_enter Tryd.func72, Tryd.ntmps72
      go_wp2_with (go_at_call 95; refine HE.out.mono ?_; rintro e w' ⟨rfl, rfl⟩)
      refine bodyPost_ret (v := .tuple #[.agg #[.int .i64 0, .int .i64 0], .bool false]) (by simp [results, Tryd.results72, go_sem]) rfl ⟨rfl, ?_⟩
      first | exact (Below.refl _ w).alloc (Nat.le_refl _) _ | exact (((Below.refl _ w).alloc (Nat.le_refl _) _).setCell (Nat.le_refl _) _).setCell (Nat.le_refl _) _
    · have hc1 : (eAt s k : Int) - (lAt s k : Int) < c - 1 := by omega
      clear hcc
      go_enter Tryd.func72, Tryd.ntmps72
      go_wp2_with (go_at_call 95; refine HE.out.mono ?_; rintro e w' ⟨rfl, rfl⟩)
      refine bodyPost_ret (v := .tuple #[.agg #[.int .i64 0, .int .i64 0], .bool false]) (by simp [results, Tryd.results72, go_sem]) rfl ⟨rfl, ?_⟩
      first | exact (Below.refl _ w).alloc (Nat.le_refl _) _ | exact (((Below.refl _ w).alloc (Nat.le_refl _) _).setCell (Nat.le_refl _) _).setCell (Nat.le_refl _) _
theorem Find_yes (h : TextIs w T s gb cb gl cl) (k d : Nat) (hk : k < nL s) (hd : lAt s k + d ≤ eAt s k) :
    Calls Tryd.prog 72 #[.pointer (some ⟨T, 0, none⟩), .int .i64 ((k : Int) + 1), .int .i64 ((d : Int) + 1)] w fun e w' => e = .returned (.tuple #[.agg #[.int .i64 (bAt s (lAt s k + d) : Int), .int .i64 ((lAt s k + d : Nat) : Int)], .bool true]) ∧ Below w.heap.size w w' := by
  have h1 := h.below ((Below.refl _ w).alloc (Nat.le_refl _) (.cells #[.int .i64 0, .int .i64 0] 82))
  have hs := h.size
  have hsn := nS_le s
  have hnl := nL_le s
  have HE := Lib.hid (ends_yes h1 k hk)
  obtain ⟨e1, e2⟩ := eAt_ge s k hk
  have HP := Lib.hid (Place_yes h1 (lAt s k + d) (by omega))
  have hv : (lAt s k : Int) + ((d : Int) + 1) - 1 = ((lAt s k + d : Nat) : Int) := by omega
  clear h1
  go_enter Tryd.func72, Tryd.ntmps72
  go_wp2_with (first
    | (go_at_call 95; refine HE.out.mono ?_; rintro e w' ⟨rfl, rfl⟩)
    | (go_at_call 57; refine HP.out.mono ?_; rintro e w2 ⟨rfl, hb2⟩; have d0 := hb2.cell (p := ⟨w.heap.size, 0, none⟩) (by simp); have d1 := hb2.cell (p := ⟨w.heap.size, 1, none⟩) (by simp); have f0 := hb2.frozen (p := ⟨w.heap.size, 0, none⟩) (by simp); have f1 := hb2.frozen (p := ⟨w.heap.size, 1, none⟩) (by simp); simp [go_sem] at d0 d1 f0 f1))
  have d0' : ((w2.setCell ⟨w.heap.size, 0, none⟩ (.int .i64 (bAt s (lAt s k + d) : Int))).setCell ⟨w.heap.size, 1, none⟩ (.int .i64 ((lAt s k : Int) + (d : Int)))).cell? ⟨w.heap.size, 0, none⟩ = some (.int .i64 (bAt s (lAt s k + d) : Int)) := by simp [go_sem, d0]
  have d1' : ((w2.setCell ⟨w.heap.size, 0, none⟩ (.int .i64 (bAt s (lAt s k + d) : Int))).setCell ⟨w.heap.size, 1, none⟩ (.int .i64 ((lAt s k : Int) + (d : Int)))).cell? ⟨w.heap.size, 1, none⟩ = some (.int .i64 ((lAt s k : Int) + (d : Int))) := by simp [go_sem, d1]
  refine bodyPost_ret (v := .tuple #[.agg #[.int .i64 (bAt s (lAt s k + d) : Int), .int .i64 ((lAt s k : Int) + (d : Int))], .bool true]) (by simp [results, Tryd.results72, go_sem, d0', d1']) rfl ⟨?_, ?_⟩
  · rw [show ((lAt s k + d : Nat) : Int) = (lAt s k : Int) + (d : Int) by omega]
  · exact ((((Below.refl _ w).alloc (Nat.le_refl _) _).trans (hb2.mono (by simp))).setCell (Nat.le_refl _) _).setCell (Nat.le_refl _) _
end
end Go.Proofs.YtkenffbonnbflaaDoor
