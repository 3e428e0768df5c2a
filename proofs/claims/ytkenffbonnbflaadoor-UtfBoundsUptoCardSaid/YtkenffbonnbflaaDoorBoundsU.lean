/- Walk: guiselaw1.UtfBounds: texts of at most 1048576 bytes, under the two tables of unicode/utf8. -/
import Derived.Test.YtkenffbonnbflaaDoorPartsU
namespace Go.Proofs.YtkenffbonnbflaaDoor
open Go.RowKit
set_option linter.unusedVariables false

set_option maxRecDepth 100000 in
set_option maxHeartbeats 4000000 in
theorem boundsU_walk (s : ByteArray) (a : Int) (w : World) (hs : s.size ≤ 1048576) (ha : -9223372036854775808 ≤ a ∧ a ≤ 9223372036854775807) (hT : Lib.Utf8Tabs 0 1 w) :
    Calls Tryd.prog 5 #[.string s, .int .i64 a] w fun e w' => e = .returned (.bool true) ∧ Below w.heap.size w w' := by
  obtain ⟨q, hqe, hq, q0, q1, q2⟩ := clamp_is a s.size
  obtain ⟨n, hn⟩ := num_is s q
  have HC := (fun w hT => cut_from s a q n w (by omega) ha hqe hn hT)
  have hle := bAt_le s n
  have hnq := hn.2.1
  have HT := Lib.hid hT
  have HF := Lib.hid (fun w hT => alive_yes w hT)
  have HRB := (fun w => refBound s q w hs hq)
  have HRC : Hid (0 < a → ∀ w, Calls Tryd.prog 33 #[.string s, .int .i64 a] w fun e w' => e = .returned (.int .i64 (bAt s n : Int)) ∧ Below w.heap.size w w') := Lib.hid (fun h w => refCut s a q n w hs h (by omega) hn)
  have HBI := (fun w hT => Bound_in s q w (by omega) hq hT)
  have HBO : Hid (a < 0 ∨ (s.size : Int) < a → ∀ w, Calls Tryd.prog 35 #[.string s, .int .i64 a] w fun e w' => e = .returned (.bool false) ∧ w = w') := Lib.hid (fun h w => Bound_out s a w h)
  generalize isBb s.data.toList q = b at HRB HBI
  have i1 : (bAt s n : Int) ≤ (s.size : Int) := by omega
  clear hT hn
  rcases Int.lt_or_le a 0 with h0 | h0
  · rw [show bAt s n = 0 by have := q0 (by omega); omega] at HC
    have HC := Lib.hid HC
    have HBO := Lib.hid (HBO.out (.inl h0))
    clear HRB HBI hqe q0 q1 q2 hnq
    go_enter Tryd.func5, Tryd.ntmps5
    go_wp2_with fail
    refine (HF.out _ HT.out).mono ?_
    rintro e w1 ⟨rfl, hb1⟩
    go_wp2_with fail
    refine (HC.out _ (Utf8Tabs_below HT.out hb1)).mono ?_
    rintro e w2 ⟨rfl, hb2⟩
    have hb12 := hb1.trans (hb2.mono hb1.size)
    go_wp2_with fail
    refine (HBO.out _).mono ?_
    rintro e w' ⟨rfl, rfl⟩
    go_wp2_with fail
    go_ret
    exact ⟨by first | rfl | simp, hb12⟩
  · rcases Int.lt_or_le (s.size : Int) a with h1 | h1
    · have HC := Lib.hid HC
      have hpos : 0 < a := by omega
      have HBO := Lib.hid (HBO.out (.inr h1))
      have HRC := Lib.hid (HRC.out hpos)
      clear HRB HBI hqe q0 q1 q2 hnq
      go_enter Tryd.func5, Tryd.ntmps5
      go_wp2_with fail
      refine (HF.out _ HT.out).mono ?_
      rintro e w1 ⟨rfl, hb1⟩
      go_wp2_with fail
      refine (HRC.out _).mono ?_
      rintro e w2 ⟨rfl, hb2⟩
      have hb12 := hb1.trans (hb2.mono hb1.size)
      go_wp2_with fail
      refine (HC.out _ (Utf8Tabs_below HT.out hb12)).mono ?_
      rintro e w3 ⟨rfl, hb3⟩
      have hb13 := hb12.trans (hb3.mono hb12.size)
      go_wp2_with fail
      refine (HBO.out _).mono ?_
      rintro e w' ⟨rfl, rfl⟩
      go_wp2_with fail
      go_ret
      exact ⟨by first | rfl | simp, hb13⟩
    · obtain rfl : a = (q : Int) := by omega
      have HRB := Lib.hid HRB
      have HBI := Lib.hid HBI
      rcases Nat.eq_zero_or_pos q with hz | hpos
      · subst hz
        rw [show bAt s n = 0 by omega] at HC
        have HC := Lib.hid HC
        clear hqe q0 q1 q2 hnq
        go_enter Tryd.func5, Tryd.ntmps5
        go_wp2_with fail
        refine (HF.out _ HT.out).mono ?_
        rintro e w1 ⟨rfl, hb1⟩
        go_wp2_with fail
        refine (HRB.out _).mono ?_
        rintro e w2 ⟨rfl, hb2⟩
        have hb12 := hb1.trans (hb2.mono hb1.size)
        go_wp2_with fail
        refine (HC.out _ (Utf8Tabs_below HT.out hb12)).mono ?_
        rintro e w3 ⟨rfl, hb3⟩
        have hb13 := hb12.trans (hb3.mono hb12.size)
        go_wp2_with fail
        refine (HBI.out _ (Utf8Tabs_below HT.out hb13)).mono ?_
        rintro e w4 ⟨rfl, hb4⟩
        have hb14 := hb13.trans (hb4.mono hb13.size)
        go_wp2_with fail
        go_ret
        exact ⟨by first | rfl | simp, hb14⟩
      · have HC := Lib.hid HC
        have hpos' : (0 : Int) < (q : Int) := by omega
        have HRC := Lib.hid (HRC.out hpos')
        clear hqe q0 q1 q2 hnq
        go_enter Tryd.func5, Tryd.ntmps5
        go_wp2_with fail
        refine (HF.out _ HT.out).mono ?_
        rintro e w1 ⟨rfl, hb1⟩
        go_wp2_with fail
        refine (HRB.out _).mono ?_
        rintro e w2 ⟨rfl, hb2⟩
        have hb12 := hb1.trans (hb2.mono hb1.size)
        go_wp2_with fail
        refine (HRC.out _).mono ?_
        rintro e w3 ⟨rfl, hb3⟩
        have hb13 := hb12.trans (hb3.mono hb12.size)
        go_wp2_with fail
        refine (HC.out _ (Utf8Tabs_below HT.out hb13)).mono ?_
        rintro e w4 ⟨rfl, hb4⟩
        have hb14 := hb13.trans (hb4.mono hb13.size)
        go_wp2_with fail
        refine (HBI.out _ (Utf8Tabs_below HT.out hb14)).mono ?_
        rintro e w5 ⟨rfl, hb5⟩
        have hb15 := hb14.trans (hb5.mono hb14.size)
        go_wp2_with fail
        go_ret
        exact ⟨by first | rfl | simp, hb15⟩
end Go.Proofs.YtkenffbonnbflaaDoor
