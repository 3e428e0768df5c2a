/- Walk: guiselaw1.UtfNear: texts of at most 1048576 bytes together, under the two tables of unicode/utf8. -/
import Derived.Test.YtkenffbonnbflaaDoorCleanU
import Derived.Test.YtkenffbonnbflaaDoorBound
namespace Go.Proofs.YtkenffbonnbflaaDoor
open Go.RowKit
set_option linter.unusedVariables false

def lastS (s : ByteArray) : ByteArray := s.extract (s.size - 3) s.size
def firstS (s : ByteArray) : ByteArray := s.extract 0 (min s.size 3)
theorem last_any (s : ByteArray) (w : World) (hs : s.size ≤ 9223372036854775807) : Calls Tryd.prog 69 #[.string s] w fun e w' => e = .returned (.string (lastS s)) ∧ w = w' := by
  unfold lastS
  by_cases h : 3 < s.size
  · have e : (s.size : Int) - 3 = ((s.size - 3 : Nat) : Int) := by omega
    have i1 : ((s.size - 3 : Nat) : Int) ≤ (s.size : Int) := by omega
    have h' : (3 : Int) < (s.size : Int) := by omega
    go_enter Tryd.func69, Tryd.ntmps69
    go_wp2
    go_ret
    exact ⟨rfl, rfl⟩
  · have h' : ¬ (3 : Int) < (s.size : Int) := by omega
    rw [show s.size - 3 = 0 by omega, ext_all]
    go_enter Tryd.func69, Tryd.ntmps69
    go_wp2
    go_ret
    exact ⟨rfl, rfl⟩
theorem first_any (s : ByteArray) (w : World) (hs : s.size ≤ 9223372036854775807) : Calls Tryd.prog 70 #[.string s] w fun e w' => e = .returned (.string (firstS s)) ∧ w = w' := by
  unfold firstS
  by_cases h : 3 < s.size
  · have h' : (3 : Int) < (s.size : Int) := by omega
    rw [show min s.size 3 = 3 by omega]
    go_enter Tryd.func70, Tryd.ntmps70
    go_wp2
    go_ret
    exact ⟨rfl, rfl⟩
  · have h' : ¬ (3 : Int) < (s.size : Int) := by omega
    rw [show min s.size 3 = s.size by omega, ext_all]
    go_enter Tryd.func70, Tryd.ntmps70
    go_wp2
    go_ret
    exact ⟨rfl, rfl⟩

set_option maxRecDepth 100000 in
set_option maxHeartbeats 8000000 in
theorem nearU_walk (s t : ByteArray) (w : World) (hs : s.size + t.size ≤ 1048576) (hT : Lib.Utf8Tabs 0 1 w) :
    Calls Tryd.prog 16 #[.string s, .string t] w fun e w' => e = .returned (.bool true) ∧ Below w.heap.size w w' := by
  have HT := Lib.hid hT
  have HF := Lib.hid (fun w hT => alive_yes w hT)
  clear hT
  have n1 := nS_le s
  have n2 := nS_le t
  have z1 := cleanS_size s
  have z2 := cleanS_size t
  have hust : (s ++ t).size = s.size + t.size := ByteArray.size_append
  have HLa := Lib.hid (fun w => last_any s w (by omega))
  have HFi := Lib.hid (fun w => first_any t w (by omega))
  have hl1 : (lastS s).size ≤ s.size := by unfold lastS; rw [ByteArray.size_extract]; omega
  have hl2 : (firstS t).size ≤ t.size := by unfold firstS; rw [ByteArray.size_extract]; omega
  have HJ := fun w hT => Joins_any s t w (by omega) (by omega) hT
  have HJ2 := fun w hT => Joins_any (lastS s) (firstS t) w (by omega) (by omega) hT
  have hjn : isBb ((lastS s).data.toList ++ (firstS t).data.toList) (lastS s).size = isBb (s.data.toList ++ t.data.toList) s.size := by
    have h := joins_near s t
    rw [app_list] at h
    exact h
  rw [hjn] at HJ2
  have HV1 := fun w => Valid_any s w (by omega)
  have HV2 := fun w => Valid_any t w (by omega)
  unfold ValidEnd at HV1 HV2
  have HN1 := Lib.hid (fun w => utfCount s w (by omega))
  have HN2 := Lib.hid (fun w => utfCount t w (by omega))
  have HNu := fun w => utfCount (s ++ t) w (by omega)
  have HC1 := Lib.hid (fun w => utfClean s w (by omega))
  have HC2 := Lib.hid (fun w => utfClean t w (by omega))
  have HCu := fun w => utfClean (s ++ t) w (by omega)
  have HB := fun w hT => Bound_in (s ++ t) s.size w (by omega) (by omega) hT
  rw [app_list] at HB
  have i1 : s.size + t.size ≤ 9223372036854775807 := by omega
  have i2 : (cleanS s).size + (cleanS t).size ≤ 9223372036854775807 := by omega
  clear hjn hust hl1 hl2 z1 z2
  by_cases hj : IsB (s.data.toList ++ t.data.toList) s.size
  · rw [isBb_yes hj] at HJ HJ2 HB
    rw [← toList_len] at hj
    have e1 : nS (s ++ t) = nS s + nS t := by
      have h := joins_count _ _ hj
      unfold nS sp
      rw [app_list]
      exact h
    have e2 : cleanS (s ++ t) = cleanS s ++ cleanS t := bytes_ext (by rw [cleanS_list, app_list, joins_clean _ _ hj, app_list, cleanS_list, cleanS_list])
    rw [e1, show ((nS s + nS t : Nat) : Int) = (nS s : Int) + (nS t : Int) by omega] at HNu
    rw [e2] at HCu
    have HJ := Lib.hid HJ
    have HJ2 := Lib.hid HJ2
    have HNu := Lib.hid HNu
    have HCu := Lib.hid HCu
    have HB := Lib.hid HB
    clear e1 e2 hj
    cases hga : goodB s with
    | true =>
      rw [hga] at HV1
      generalize goodB t = gb at HV2
      have HV1 := Lib.hid HV1
      have HV2 := Lib.hid HV2
      clear hga
      go_enter Tryd.func16, Tryd.ntmps16
      go_wp2_with fail
      refine (HF.out _ HT.out).mono ?_
      rintro e w1 ⟨rfl, hc1⟩
      have hb1 := hc1
      go_wp2_with fail
      refine (HJ.out _ (Utf8Tabs_below HT.out hb1)).mono ?_
      rintro e w2 ⟨rfl, hc2⟩
      have hb2 := hb1.trans (hc2.mono hb1.size)
      go_wp2_with (first | (go_at_call 69; refine (HLa.out _).mono ?_; rintro e w' ⟨rfl, rfl⟩) | (go_at_call 70; refine (HFi.out _).mono ?_; rintro e w' ⟨rfl, rfl⟩))
      refine (HJ2.out _ (Utf8Tabs_below HT.out hb2)).mono ?_
      rintro e w3 ⟨rfl, hc3⟩
      have hb3 := hb2.trans (hc3.mono hb2.size)
      go_wp2_with fail
      refine (HV1.out _).mono ?_
      rintro e w4 ⟨⟨p1, p2, rfl⟩, hc4⟩
      have hb4 := hb3.trans (hc4.mono hb3.size)
      have hb40 := hb4.alloc hb4.size (.cells #[.int .i64 p1, .int .i64 p2] 82)
      go_wp2_with fail
      refine (HV2.out _).mono ?_
      rintro e w5 ⟨⟨p3, p4, rfl⟩, hc5⟩
      have hb5 := hb40.trans (hc5.mono hb40.size)
      have hb50 := hb5.alloc hb5.size (.cells #[.int .i64 p3, .int .i64 p4] 82)
      go_wp2_with fail
      refine (HJ.out _ (Utf8Tabs_below HT.out hb50)).mono ?_
      rintro e w6 ⟨rfl, hc6⟩
      have hb6 := hb50.trans (hc6.mono hb50.size)
      go_wp2_with fail
      refine (HJ.out _ (Utf8Tabs_below HT.out hb6)).mono ?_
      rintro e w7 ⟨rfl, hc7⟩
      have hb7 := hb6.trans (hc7.mono hb6.size)
      go_wp2_with fail
      refine (HNu.out _).mono ?_
      rintro e w8 ⟨rfl, hc8⟩
      have hb8 := hb7.trans (hc8.mono hb7.size)
      go_wp2_with fail
      refine (HN1.out _).mono ?_
      rintro e w9 ⟨rfl, hc9⟩
      have hb9 := hb8.trans (hc9.mono hb8.size)
      go_wp2_with fail
      refine (HN2.out _).mono ?_
      rintro e w10 ⟨rfl, hc10⟩
      have hb10 := hb9.trans (hc10.mono hb9.size)
      go_wp2_with fail
      refine (HCu.out _).mono ?_
      rintro e w11 ⟨rfl, hc11⟩
      have hb11 := hb10.trans (hc11.mono hb10.size)
      go_wp2_with fail
      refine (HC1.out _).mono ?_
      rintro e w12 ⟨rfl, hc12⟩
      have hb12 := hb11.trans (hc12.mono hb11.size)
      go_wp2_with fail
      refine (HC2.out _).mono ?_
      rintro e w13 ⟨rfl, hc13⟩
      have hb13 := hb12.trans (hc13.mono hb12.size)
      go_wp2_with fail
      refine (HB.out _ (Utf8Tabs_below HT.out hb13)).mono ?_
      rintro e w14 ⟨rfl, hc14⟩
      have hb14 := hb13.trans (hc14.mono hb13.size)
      go_wp2_with fail
      go_ret
      exact ⟨by first | rfl | simp, hb14⟩
    | false =>
      rw [hga] at HV1
      have HV1 := Lib.hid HV1
      clear hga
      cases hgb : goodB t with
      | true =>
        rw [hgb] at HV2
        have HV2 := Lib.hid HV2
        clear hgb
        go_enter Tryd.func16, Tryd.ntmps16
        go_wp2_with fail
        refine (HF.out _ HT.out).mono ?_
        rintro e w1 ⟨rfl, hc1⟩
        have hb1 := hc1
        go_wp2_with fail
        refine (HJ.out _ (Utf8Tabs_below HT.out hb1)).mono ?_
        rintro e w2 ⟨rfl, hc2⟩
        have hb2 := hb1.trans (hc2.mono hb1.size)
        go_wp2_with (first | (go_at_call 69; refine (HLa.out _).mono ?_; rintro e w' ⟨rfl, rfl⟩) | (go_at_call 70; refine (HFi.out _).mono ?_; rintro e w' ⟨rfl, rfl⟩))
        refine (HJ2.out _ (Utf8Tabs_below HT.out hb2)).mono ?_
        rintro e w3 ⟨rfl, hc3⟩
        have hb3 := hb2.trans (hc3.mono hb2.size)
        go_wp2_with fail
        refine (HV1.out _).mono ?_
        rintro e w4 ⟨⟨p1, p2, rfl⟩, hc4⟩
        have hb4 := hb3.trans (hc4.mono hb3.size)
        have hb40 := hb4.alloc hb4.size (.cells #[.int .i64 p1, .int .i64 p2] 82)
        go_wp2_with fail
        refine (HV2.out _).mono ?_
        rintro e w5 ⟨⟨p3, p4, rfl⟩, hc5⟩
        have hb5 := hb40.trans (hc5.mono hb40.size)
        have hb50 := hb5.alloc hb5.size (.cells #[.int .i64 p3, .int .i64 p4] 82)
        go_wp2_with fail
        refine (HJ.out _ (Utf8Tabs_below HT.out hb50)).mono ?_
        rintro e w6 ⟨rfl, hc6⟩
        have hb6 := hb50.trans (hc6.mono hb50.size)
        go_wp2_with fail
        refine (HJ.out _ (Utf8Tabs_below HT.out hb6)).mono ?_
        rintro e w7 ⟨rfl, hc7⟩
        have hb7 := hb6.trans (hc7.mono hb6.size)
        go_wp2_with fail
        refine (HNu.out _).mono ?_
        rintro e w8 ⟨rfl, hc8⟩
        have hb8 := hb7.trans (hc8.mono hb7.size)
        go_wp2_with fail
        refine (HN1.out _).mono ?_
        rintro e w9 ⟨rfl, hc9⟩
        have hb9 := hb8.trans (hc9.mono hb8.size)
        go_wp2_with fail
        refine (HN2.out _).mono ?_
        rintro e w10 ⟨rfl, hc10⟩
        have hb10 := hb9.trans (hc10.mono hb9.size)
        go_wp2_with fail
        refine (HCu.out _).mono ?_
        rintro e w11 ⟨rfl, hc11⟩
        have hb11 := hb10.trans (hc11.mono hb10.size)
        go_wp2_with fail
        refine (HC1.out _).mono ?_
        rintro e w12 ⟨rfl, hc12⟩
        have hb12 := hb11.trans (hc12.mono hb11.size)
        go_wp2_with fail
        refine (HC2.out _).mono ?_
        rintro e w13 ⟨rfl, hc13⟩
        have hb13 := hb12.trans (hc13.mono hb12.size)
        go_wp2_with fail
        refine (HB.out _ (Utf8Tabs_below HT.out hb13)).mono ?_
        rintro e w14 ⟨rfl, hc14⟩
        have hb14 := hb13.trans (hc14.mono hb13.size)
        go_wp2_with fail
        go_ret
        exact ⟨by first | rfl | simp, hb14⟩
      | false =>
        rw [hgb] at HV2
        have HV2 := Lib.hid HV2
        clear hgb
        go_enter Tryd.func16, Tryd.ntmps16
        go_wp2_with fail
        refine (HF.out _ HT.out).mono ?_
        rintro e w1 ⟨rfl, hc1⟩
        have hb1 := hc1
        go_wp2_with fail
        refine (HJ.out _ (Utf8Tabs_below HT.out hb1)).mono ?_
        rintro e w2 ⟨rfl, hc2⟩
        have hb2 := hb1.trans (hc2.mono hb1.size)
        go_wp2_with (first | (go_at_call 69; refine (HLa.out _).mono ?_; rintro e w' ⟨rfl, rfl⟩) | (go_at_call 70; refine (HFi.out _).mono ?_; rintro e w' ⟨rfl, rfl⟩))
        refine (HJ2.out _ (Utf8Tabs_below HT.out hb2)).mono ?_
        rintro e w3 ⟨rfl, hc3⟩
        have hb3 := hb2.trans (hc3.mono hb2.size)
        go_wp2_with fail
        refine (HV1.out _).mono ?_
        rintro e w4 ⟨⟨p1, p2, rfl⟩, hc4⟩
        have hb4 := hb3.trans (hc4.mono hb3.size)
        have hb40 := hb4.alloc hb4.size (.cells #[.int .i64 p1, .int .i64 p2] 82)
        go_wp2_with fail
        refine (HV2.out _).mono ?_
        rintro e w5 ⟨⟨p3, p4, rfl⟩, hc5⟩
        have hb5 := hb40.trans (hc5.mono hb40.size)
        have hb50 := hb5.alloc hb5.size (.cells #[.int .i64 p3, .int .i64 p4] 82)
        go_wp2_with fail
        refine (HJ.out _ (Utf8Tabs_below HT.out hb50)).mono ?_
        rintro e w6 ⟨rfl, hc6⟩
        have hb6 := hb50.trans (hc6.mono hb50.size)
        go_wp2_with fail
        refine (HNu.out _).mono ?_
        rintro e w7 ⟨rfl, hc7⟩
        have hb7 := hb6.trans (hc7.mono hb6.size)
        go_wp2_with fail
        refine (HN1.out _).mono ?_
        rintro e w8 ⟨rfl, hc8⟩
        have hb8 := hb7.trans (hc8.mono hb7.size)
        go_wp2_with fail
        refine (HN2.out _).mono ?_
        rintro e w9 ⟨rfl, hc9⟩
        have hb9 := hb8.trans (hc9.mono hb8.size)
        go_wp2_with fail
        refine (HCu.out _).mono ?_
        rintro e w10 ⟨rfl, hc10⟩
        have hb10 := hb9.trans (hc10.mono hb9.size)
        go_wp2_with fail
        refine (HC1.out _).mono ?_
        rintro e w11 ⟨rfl, hc11⟩
        have hb11 := hb10.trans (hc11.mono hb10.size)
        go_wp2_with fail
        refine (HC2.out _).mono ?_
        rintro e w12 ⟨rfl, hc12⟩
        have hb12 := hb11.trans (hc12.mono hb11.size)
        go_wp2_with fail
        refine (HB.out _ (Utf8Tabs_below HT.out hb12)).mono ?_
        rintro e w13 ⟨rfl, hc13⟩
        have hb13 := hb12.trans (hc13.mono hb12.size)
        go_wp2_with fail
        go_ret
        exact ⟨by first | rfl | simp, hb13⟩
  · rw [isBb_no hj] at HJ HJ2
    rw [← toList_len] at hj
    rw [goodB_no (fun h => hj (good_left _ _ h))] at HV1
    rw [goodB_no (fun h => hj (good_right _ _ h))] at HV2
    have HJ := Lib.hid HJ
    have HJ2 := Lib.hid HJ2
    have HV1 := Lib.hid HV1
    have HV2 := Lib.hid HV2
    clear hj HNu HCu HB
    go_enter Tryd.func16, Tryd.ntmps16
    go_wp2_with fail
    refine (HF.out _ HT.out).mono ?_
    rintro e w1 ⟨rfl, hc1⟩
    have hb1 := hc1
    go_wp2_with fail
    refine (HJ.out _ (Utf8Tabs_below HT.out hb1)).mono ?_
    rintro e w2 ⟨rfl, hc2⟩
    have hb2 := hb1.trans (hc2.mono hb1.size)
    go_wp2_with (first | (go_at_call 69; refine (HLa.out _).mono ?_; rintro e w' ⟨rfl, rfl⟩) | (go_at_call 70; refine (HFi.out _).mono ?_; rintro e w' ⟨rfl, rfl⟩))
    refine (HJ2.out _ (Utf8Tabs_below HT.out hb2)).mono ?_
    rintro e w3 ⟨rfl, hc3⟩
    have hb3 := hb2.trans (hc3.mono hb2.size)
    go_wp2_with fail
    refine (HV1.out _).mono ?_
    rintro e w4 ⟨⟨p1, p2, rfl⟩, hc4⟩
    have hb4 := hb3.trans (hc4.mono hb3.size)
    have hb40 := hb4.alloc hb4.size (.cells #[.int .i64 p1, .int .i64 p2] 82)
    go_wp2_with fail
    refine (HV2.out _).mono ?_
    rintro e w5 ⟨⟨p3, p4, rfl⟩, hc5⟩
    have hb5 := hb40.trans (hc5.mono hb40.size)
    have hb50 := hb5.alloc hb5.size (.cells #[.int .i64 p3, .int .i64 p4] 82)
    go_wp2_with fail
    refine (HJ.out _ (Utf8Tabs_below HT.out hb50)).mono ?_
    rintro e w6 ⟨rfl, hc6⟩
    have hb6 := hb50.trans (hc6.mono hb50.size)
    go_wp2_with fail
    go_ret
    exact ⟨by first | rfl | simp, hb6⟩
end Go.Proofs.YtkenffbonnbflaaDoor
