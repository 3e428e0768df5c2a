/- Walks: guiselaw1.UtfParts, guiselaw1.UtfBounds: texts of at most 1048576 bytes, under the two tables of unicode/utf8. -/
import Derived.Test.YtkenffbonnbflaaDoorBound
namespace Go.Proofs.YtkenffbonnbflaaDoor
open Go.RowKit
set_option linter.unusedVariables false

theorem clamp_is (a : Int) (m : Nat) : ∃ q : Nat, min (max a 0) (m : Int) = (q : Int) ∧ q ≤ m ∧ (a ≤ 0 → q = 0) ∧ (0 < a → a < (m : Int) → (q : Int) = a) ∧ ((m : Int) ≤ a → q = m) :=
  ⟨(min (max a 0) (m : Int)).toNat, by omega, by omega, by omega, by omega, by omega⟩

set_option maxRecDepth 100000 in
set_option maxHeartbeats 4000000 in
theorem partsU_walk (s : ByteArray) (a : Int) (w : World) (hs : s.size ≤ 9223372036854775807) (ha : -9223372036854775808 ≤ a ∧ a ≤ 9223372036854775807) (hT : Lib.Utf8Tabs 0 1 w) :
    Calls Tryd.prog 8 #[.string s, .int .i64 a] w fun e w' => e = .returned (.bool true) ∧ Below w.heap.size w w' := by
  obtain ⟨q, hqe, hq, q0, q1, q2⟩ := clamp_is a s.size
  obtain ⟨n, hn⟩ := num_is s q
  have HC := Lib.hid (fun w hT => cut_from s a q n w (by omega) ha hqe hn hT)
  have hle := bAt_le s n
  have hnq := hn.2.1
  have HT := Lib.hid hT
  have HF := Lib.hid (fun w hT => alive_yes w hT)
  have hjoin : isBb s.data.toList (bAt s n) = true := isBb_yes ⟨n, hn.1, by rw [← bAt_pos]⟩
  obtain ⟨head, hh⟩ : ∃ head, s.extract 0 (bAt s n) = head := ⟨_, rfl⟩
  obtain ⟨tail, ht⟩ : ∃ tail, s.extract (bAt s n) s.size = tail := ⟨_, rfl⟩
  have hsz : head.size = bAt s n := by rw [← hh, ext_size s 0 _ (by omega) (by omega)]; omega
  have hszt : tail.size = s.size - bAt s n := by rw [← ht, ext_size s _ _ (by omega) (by omega)]
  have happ : head ++ tail = s := by
    rw [← hh, ← ht]
    apply ByteArray.ext
    apply Array.ext'
    rw [app_list, ext_list, ext_list, List.drop_zero, Nat.sub_zero, List.take_of_length_le (l := s.data.toList.drop _) (by rw [List.length_drop, toList_len]; exact Nat.le_refl _), List.take_append_drop]
  rw [hh, ht] at HC
  have HB := fun w hT => Bound_in s (bAt s n) w (by omega) hle hT
  have HJ := fun w hT => Joins_any head tail w (by omega) (by omega) hT
  rw [← app_list, happ, hsz, hjoin] at HJ
  rw [hjoin] at HB
  rw [← hsz] at HB
  have HB := Lib.hid HB
  have HJ := Lib.hid HJ
  have HTl := Lib.hid ht
  have hdecS := at_num s q n hn hq
  have i1 : head.size ≤ s.size := by omega
  have i4 : head.size + tail.size ≤ 9223372036854775807 := by omega
  have Happ := Lib.hid happ
  clear hT hh happ hjoin hqe
  rcases Int.lt_or_le 0 a with h0 | h0
  · rcases Int.lt_or_le a (s.size : Int) with h1 | h1
    · have hqa := q1 h0 h1
      have hlt : bAt s n < s.size := by omega
      obtain ⟨r, nn, hrn⟩ : ∃ r nn, Utf8.decode s (bAt s n) = (r, nn) := ⟨_, _, rfl⟩
      have hd : Utf8.decode tail 0 = (r, nn) := by
        have h2 := dec_at s (bAt s n) hlt
        unfold Lib.decodeGo at h2
        rw [if_neg (by rw [ht]; omega), ht, hrn] at h2
        exact h2
      have hwd := Lib.width_pos s (bAt s n)
      have hle4 := decode_le4 s (bAt s n)
      have hin : bAt s n + (Utf8.decode s (bAt s n)).2 ≤ s.size := by
        have h9 := (spt_width s (bAt s n) hlt).2
        rw [← Lib.decodeL_drop]
        exact h9
      rw [hrn] at hdecS hwd hle4 hin
      dsimp only at hdecS hwd hle4 hin
      have hin2 : (head.size : Int) + (nn : Int) ≤ 9223372036854775807 := by omega
      have hgt : q < bAt s n + nn := by
        rcases Nat.lt_or_ge (bAt s n) q with c | c
        · exact (hdecS c).1
        · omega
      have HFi := Lib.hid (fun w hT => First_some tail w (by omega) r nn hd hT)
      have t1 : decide ((head.size : Int) ≤ a) = true := by rw [decide_eq_true_iff]; omega
      have t2 : decide (a < (head.size : Int) + (nn : Int)) = true := by rw [decide_eq_true_iff]; omega
      have i2 : (head.size : Int) ≤ a := by omega
      have i3 : a < (head.size : Int) + (nn : Int) := by omega
      clear ht hdecS hrn hd q0 q1 q2 hqa hgt hsz hszt hn hnq
      have happ := Happ.out
      go_enter Tryd.func8, Tryd.ntmps8
      go_wp2_with fail
      refine (HF.out _ HT.out).mono ?_
      rintro e w1 ⟨rfl, hb1⟩
      go_wp2_with fail
      refine (HC.out _ (Utf8Tabs_below HT.out hb1)).mono ?_
      rintro e w2 ⟨rfl, hb2⟩
      have hb12 := hb1.trans (hb2.mono hb1.size)
      go_wp2_with fail
      refine (HB.out _ (Utf8Tabs_below HT.out hb12)).mono ?_
      rintro e w3 ⟨rfl, hb3⟩
      have hb13 := hb12.trans (hb3.mono hb12.size)
      go_wp2_with fail
      refine (HJ.out _ (Utf8Tabs_below HT.out hb13)).mono ?_
      rintro e w4 ⟨rfl, hb4⟩
      have hb14 := hb13.trans (hb4.mono hb13.size)
      go_wp2_with fail
      refine (HFi.out _ (Utf8Tabs_below HT.out hb14)).mono ?_
      rintro e w5 ⟨rfl, hb5⟩
      have hb15 := hb14.trans (hb5.mono hb14.size)
      unfold utfV
      go_wp2_with fail
      go_ret
      exact ⟨by first | rfl | simp, hb15.alloc hb15.size _⟩
    · have h9 : bAt s n = s.size := by
        have h8 : IsNum s q (nS s) := ⟨Nat.le_refl _, by rw [bAt_end]; have := q2 h1; omega, fun h => by omega⟩
        rw [hn.one h8, bAt_end]
      obtain rfl := empty_size tail (by omega)
      clear h9
      clear ht hdecS q0 q1 q2 hsz hszt hn hnq
      have happ := Happ.out
      go_enter Tryd.func8, Tryd.ntmps8
      go_wp2_with fail
      refine (HF.out _ HT.out).mono ?_
      rintro e w1 ⟨rfl, hb1⟩
      go_wp2_with fail
      refine (HC.out _ (Utf8Tabs_below HT.out hb1)).mono ?_
      rintro e w2 ⟨rfl, hb2⟩
      have hb12 := hb1.trans (hb2.mono hb1.size)
      go_wp2_with fail
      refine (HB.out _ (Utf8Tabs_below HT.out hb12)).mono ?_
      rintro e w3 ⟨rfl, hb3⟩
      have hb13 := hb12.trans (hb3.mono hb12.size)
      go_wp2_with fail
      refine (HJ.out _ (Utf8Tabs_below HT.out hb13)).mono ?_
      rintro e w4 ⟨rfl, hb4⟩
      have hb14 := hb13.trans (hb4.mono hb13.size)
      go_wp2_with fail
      go_ret
      exact ⟨by first | rfl | simp, hb14⟩
  · obtain rfl := empty_size head (by have := q0 h0; omega)
    clear ht hdecS q0 q1 q2 hsz hszt hn hnq
    have happ := Happ.out
    go_enter Tryd.func8, Tryd.ntmps8
    go_wp2_with fail
    refine (HF.out _ HT.out).mono ?_
    rintro e w1 ⟨rfl, hb1⟩
    go_wp2_with fail
    refine (HC.out _ (Utf8Tabs_below HT.out hb1)).mono ?_
    rintro e w2 ⟨rfl, hb2⟩
    have hb12 := hb1.trans (hb2.mono hb1.size)
    go_wp2_with fail
    refine (HB.out _ (Utf8Tabs_below HT.out hb12)).mono ?_
    rintro e w3 ⟨rfl, hb3⟩
    have hb13 := hb12.trans (hb3.mono hb12.size)
    go_wp2_with fail
    refine (HJ.out _ (Utf8Tabs_below HT.out hb13)).mono ?_
    rintro e w4 ⟨rfl, hb4⟩
    have hb14 := hb13.trans (hb4.mono hb13.size)
    go_wp2_with fail
    go_ret
    exact ⟨by first | rfl | simp, hb14⟩

/-- the text ahead of a place, and behind it -/
def headS (s : ByteArray) (n : Nat) : ByteArray := s.extract 0 (bAt s n)
def tailS (s : ByteArray) (n : Nat) : ByteArray := s.extract (bAt s n) s.size
end Go.Proofs.YtkenffbonnbflaaDoor
