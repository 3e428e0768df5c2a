/- Walks: utf.Cut, utf.Bound, utf.Joins, at any text: under the two tables of unicode/utf8. -/
import Derived.Test.YtkenffbonnbflaaDoorPlh
import Derived.Test.YtkenffbonnbflaaDoorU8
import Derived.Test.YtkenffbonnbflaaDoorQuiet
import Derived.Test.YtkenffbonnbflaaDoorFirst
import Derived.Test.YtkenffbonnbflaaDoorBytes
import Derived.Test.YtkenffbonnbflaaDoorNumOf
namespace Go.Proofs.YtkenffbonnbflaaDoor
open Go.RowKit
set_option linter.unusedVariables false

theorem dec_at (s : ByteArray) (p : Nat) (h : p < s.size) : Lib.decodeGo (s.extract p s.size) = Utf8.decode s p := by
  unfold Lib.decodeGo
  rw [if_neg (by rw [ByteArray.size_extract]; omega), ← Lib.decodeL_drop, ← Lib.decodeL_drop, Lib.extract_data]
  congr 1
  rw [List.drop_zero, List.take_of_length_le (by rw [List.length_drop, Array.length_toList]; exact Nat.le_refl _)]
theorem IsNum.list {s : ByteArray} {b n : Nat} (h : IsNum s b n) : n ≤ (spots s.data.toList).length ∧ posL s.data.toList n ≤ b ∧ (n < (spots s.data.toList).length → b < posL s.data.toList (n + 1)) := by
  obtain ⟨h1, h2, h3⟩ := h
  rw [bAt_pos] at h2 h3
  exact ⟨h1, h2, h3⟩
/-- the decoder at a place ahead of q -/
theorem hit_num (s : ByteArray) (q n p : Nat) (hn : IsNum s q n) (hq : q ≤ s.size) (hp : p < q) (hw : q < p + (Utf8.decode s p).2) : p = bAt s n := by
  obtain ⟨h1, h2, h3⟩ := hn.list
  rw [bAt_pos]
  exact cut_hit s.data.toList q n p h1 h2 h3 hp (by rw [toList_len]; exact hq) (by rw [Lib.decodeL_drop]; exact hw)
theorem at_num (s : ByteArray) (q n : Nat) (hn : IsNum s q n) (hq : q ≤ s.size) (hlt : bAt s n < q) : q < bAt s n + (Utf8.decode s (bAt s n)).2 ∧ 1 < (Utf8.decode s (bAt s n)).2 ∧ q < bAt s n + 4 := by
  obtain ⟨h1, h2, h3⟩ := hn.list
  rw [bAt_pos] at hlt ⊢
  have h := cut_at s.data.toList q n h1 (by rw [toList_len]; exact hq) h3 hlt
  rw [Lib.decodeL_drop] at h
  exact h
theorem decode_le4 (s : ByteArray) (p : Nat) : (Utf8.decode s p).2 ≤ 4 ∧ (Utf8.decode s p).1 ≤ 1114111 := by
  rw [← Lib.decodeL_drop]
  exact ⟨decodeL_le4 _, Lib.decodeL_rune _⟩

set_option maxRecDepth 100000 in
set_option maxHeartbeats 4000000 in
theorem cut_from (s : ByteArray) (a : Int) (q n : Nat) (w : World) (hs : s.size ≤ 9223372036854775807) (ha : -9223372036854775808 ≤ a ∧ a ≤ 9223372036854775807)
    (hqe : min (max a 0) (s.size : Int) = (q : Int)) (hn : IsNum s q n) (hT : Lib.Utf8Tabs 0 1 w) :
    Calls Tryd.prog 34 #[.string s, .int .i64 a] w fun e w' => e = .returned (.tuple #[.string (s.extract 0 (bAt s n)), .string (s.extract (bAt s n) s.size)]) ∧ Below w.heap.size w w' := by
  have HT := Lib.hid hT
  have HN := Lib.hid hn
  have hnq := hn.2.1
  have hq : q ≤ s.size := by omega
  clear hT hn
  go_enter Tryd.func34, Tryd.ntmps34
  go_wp2_with fail
  have hf : ∃ k0 : Nat, max ((q : Int) - 4 + 1) 0 = (k0 : Int) ∧ k0 = q - 3 := ⟨q - 3, by omega, rfl⟩
  obtain ⟨k0, hk0, hk1⟩ := hf
  rw [hk0]
  have Hk1 := Lib.hid hk1
  clear hk0 hqe hk1
  go_loopw [1, 6] (fun A f wr => ∃ A' k : Nat, A = .int .i64 (A' : Int) ∧ f = .int .i64 (k : Int) ∧ ((A' = q ∧ k ≤ q ∧ (bAt s n < q → k ≤ bAt s n)) ∨ (A' = bAt s n ∧ k = bAt s n + 1 ∧ bAt s n < q)) ∧ Below w.heap.size w wr) (fun A f _ => (intOf A - intOf f).toNat)
  case atStart =>
    refine ⟨q, k0, rfl, rfl, .inl ⟨rfl, by have := Hk1.out; omega, fun h => ?_⟩, Below.refl _ _⟩
    have := (at_num s q n HN.out hq h).2.2
    have := Hk1.out
    omega
  case round =>
    obtain ⟨A', k, rfl, rfl, hst, hb⟩ := hrel
    rcases hst with ⟨rfl, hkq, hkb⟩ | ⟨rfl, rfl, hlt⟩
    · by_cases hlt : k < A'
      · have hd := Tryd.utf8_DecodeRuneInString (s.extract k s.size) wr (Utf8Tabs_below HT.out hb)
        rw [dec_at s k (by omega)] at hd
        have hle := decode_le4 s k
        have hin : k + (Utf8.decode s k).2 ≤ s.size := by
          have h9 := (spt_width s k (by omega)).2
          rw [← Lib.decodeL_drop]
          exact h9
        have hhit := hit_num s A' n k HN.out hq hlt
        have hat := at_num s A' n HN.out hq
        have Hat : Hid (k = bAt s n → k < A' → A' < k + (Utf8.decode s k).2 ∧ 1 < (Utf8.decode s k).2) := Lib.hid (fun e h => by subst e; exact ⟨(hat h).1, (hat h).2.1⟩)
        clear hat
        obtain ⟨r, nn, hrn⟩ : ∃ r nn, Utf8.decode s k = (r, nn) := ⟨_, _, rfl⟩
        rw [hrn] at hd hle hhit Hat hin
        dsimp only at hd hle hhit Hat hin
        have Hd := Lib.hid hd
        clear hd hrn
        by_cases hw : A' < k + nn
        · have hkn := Lib.hid (hhit hw)
          have h1 : 1 < nn := by omega
          clear hhit
          have t1 : decide ((1 : Int) < (nn : Int)) = true := by rw [decide_eq_true_iff]; omega
          have t2 : decide ((A' : Int) < (k : Int) + (nn : Int)) = true := by rw [decide_eq_true_iff]; omega
          go_wp2_with (go_at_call 82; refine Hd.out.mono ?_; rintro e w2 ⟨rfl, hb2⟩)
          go_roundw
          case rel => exact ⟨k, k + 1, rfl, by go_num, .inr ⟨hkn.out, by have := hkn.out; omega, by have := hkn.out; omega⟩, hb.trans (hb2.mono hb.size)⟩
          case measure => simp [intOf]; omega
        · have hkn : bAt s n < A' → k + 1 ≤ bAt s n := fun h => by
            have h2 := hkb h
            by_cases e : k = bAt s n
            · have := (Hat.out e hlt).1; omega
            · omega
          have Hkn := Lib.hid hkn
          clear hkn hhit hkb
          have t2 : decide ((A' : Int) < (k : Int) + (nn : Int)) = false := by rw [decide_eq_false_iff_not]; omega
          by_cases h1 : 1 < nn
          · have t1 : decide ((1 : Int) < (nn : Int)) = true := by rw [decide_eq_true_iff]; omega
            go_wp2_with (go_at_call 82; refine Hd.out.mono ?_; rintro e w2 ⟨rfl, hb2⟩)
            go_roundw
            case rel => exact ⟨A', k + 1, rfl, by go_num, .inl ⟨rfl, by omega, Hkn.out⟩, hb.trans (hb2.mono hb.size)⟩
            case measure => simp [intOf]; omega
          · have t1 : decide ((1 : Int) < (nn : Int)) = false := by rw [decide_eq_false_iff_not]; omega
            go_wp2_with (go_at_call 82; refine Hd.out.mono ?_; rintro e w2 ⟨rfl, hb2⟩)
            go_roundw
            case rel => exact ⟨A', k + 1, rfl, by go_num, .inl ⟨rfl, by omega, Hkn.out⟩, hb.trans (hb2.mono hb.size)⟩
            case measure => simp [intOf]; omega
      · obtain rfl : k = A' := by omega
        have he : bAt s n = k := by
          rcases Nat.lt_or_ge (bAt s n) k with c | c
          · have := hkb c; omega
          · omega
        have He := Lib.hid he
        clear he hkb
        go_wp2_with fail
        go_quiet (fail)
        go_wp2_with fail
        go_ret2
        rw [He.out]
        exact ⟨rfl, hb.trans ⟨rfl, rfl, rfl, Nat.le_refl _, fun _ _ => rfl⟩⟩
    · go_wp2_with fail
      go_quiet (fail)
      go_wp2_with fail
      go_ret2
      exact ⟨rfl, hb.trans ⟨rfl, rfl, rfl, Nat.le_refl _, fun _ _ => rfl⟩⟩
end Go.Proofs.YtkenffbonnbflaaDoor
