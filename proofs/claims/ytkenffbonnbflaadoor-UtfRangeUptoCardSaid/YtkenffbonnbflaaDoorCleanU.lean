/- Walk: guiselaw1.UtfClean: texts of at most 1048576 bytes, under the two tables of unicode/utf8. -/
import Derived.Test.YtkenffbonnbflaaDoorRunes
import Derived.Test.YtkenffbonnbflaaDoorValid
import Derived.Test.YtkenffbonnbflaaDoorCount
namespace Go.Proofs.YtkenffbonnbflaaDoor
open Go.RowKit
set_option linter.unusedVariables false

open Classical in
/-- whether a text has no bad spot -/
noncomputable def goodB (s : ByteArray) : Bool := decide (AllGood s.data.toList)
open Classical in
theorem goodB_yes {s : ByteArray} (h : AllGood s.data.toList) : goodB s = true := by unfold goodB; exact decide_eq_true h
open Classical in
theorem goodB_no {s : ByteArray} (h : ¬ AllGood s.data.toList) : goodB s = false := by unfold goodB; exact decide_eq_false h
def ValidEnd (s : ByteArray) (w : World) (e : Ending) (w' : World) : Prop := (∃ p1 p2 : Int, e = .returned (.tuple #[.agg #[.int .i64 p1, .int .i64 p2], .bool (goodB s)])) ∧ Below w.heap.size w w'
theorem Valid_any (s : ByteArray) (w : World) (hs : s.size ≤ 9223372036854775807) : Calls Tryd.prog 62 #[.string s] w (ValidEnd s w) :=
  (utfValid s w hs).mono fun e w' ⟨⟨p1, p2, ok, hr, he⟩, hb⟩ => by
    refine ⟨⟨p1, p2, ?_⟩, hb⟩
    rcases hr with ⟨rfl, rfl, rfl, hg⟩ | ⟨rfl, i, hi, rfl, rfl, hbad, hg⟩
    · rw [goodB_yes (fun x hx => by
        obtain ⟨i, hi, rfl⟩ := List.getElem_of_mem hx
        have h2 := spA_eq (s := s) (i := i) (List.getElem?_eq_getElem hi)
        rw [← h2]
        exact hg i hi)]
      exact he
    · rw [goodB_no (fun h => by
        have := h (spA s i) (List.mem_of_getElem? (spA_get s i hi))
        rw [hbad] at this
        cases this)]
      exact he

theorem cleanS_list (s : ByteArray) : (cleanS s).data.toList = cleanL s.data.toList := by unfold cleanS; simp
theorem cleanS_runes (s : ByteArray) : runesI (cleanS s).data.toList = runesI s.data.toList := by
  rw [cleanS_list]; unfold runesI; rw [(runes_clean _).1]
theorem cleanS_nS (s : ByteArray) : nS (cleanS s) = nS s := by rw [← runesI_nS, ← runesI_nS, cleanS_runes]
theorem cleanS_clean (s : ByteArray) : cleanS (cleanS s) = cleanS s := by
  unfold cleanS
  simp only
  rw [clean_clean]
theorem cleanS_good (s : ByteArray) : goodB (cleanS s) = true := goodB_yes (by rw [cleanS_list]; exact (runes_clean _).2)
theorem bytes_ext {a b : ByteArray} (h : a.data.toList = b.data.toList) : a = b := by
  apply ByteArray.ext; apply Array.ext'; exact h
theorem cleanS_eq (s : ByteArray) (h : AllGood s.data.toList) : cleanS s = s := bytes_ext (by rw [cleanS_list, clean_good _ h])
theorem cleanS_ne (s : ByteArray) (h : ¬ AllGood s.data.toList) : cleanS s ≠ s := fun e => h (by rw [good_iff, ← cleanS_list, e])
theorem cleanS_size (s : ByteArray) : (cleanS s).size ≤ 4 * s.size := by
  have h := encL_length (runesI s.data.toList)
  rw [runesI_nS] at h
  have h2 := nS_le s
  have h3 : (cleanS s).size = (encL (runesI s.data.toList)).length := by rw [← toList_len, cleanS_list]; rfl
  omega
theorem okL_runes (s : ByteArray) : okL (runesI s.data.toList) = true := by
  unfold okL
  rw [List.all_eq_true]
  intro x hx
  obtain ⟨n, hn, rfl⟩ := List.mem_map.1 hx
  obtain ⟨y, hy, rfl⟩ := List.mem_map.1 hn
  have := spotsAt_rune_valid _ 0 y hy
  unfold Lib.validRune
  rw [decide_eq_true_iff]
  show (0 ≤ (y.r : Int) ∧ (y.r : Int) < 55296) ∨ (57343 < (y.r : Int) ∧ (y.r : Int) ≤ 1114111)
  omega
theorem txt_runes (s : ByteArray) : txtB (runesI s.data.toList) = cleanS s ∧ txtE (runesI s.data.toList) = 0 := by
  unfold txtB txtE
  rw [okL_runes]
  exact ⟨rfl, rfl⟩

set_option maxRecDepth 100000 in
set_option maxHeartbeats 4000000 in
theorem cleanU_walk (s : ByteArray) (w : World) (hs : s.size ≤ 1048576) (hT : Lib.Utf8Tabs 0 1 w) :
    Calls Tryd.prog 15 #[.string s] w fun e w' => e = .returned (.bool true) ∧ Below w.heap.size w w' := by
  have HT := Lib.hid hT
  have HF := Lib.hid (fun w hT => alive_yes w hT)
  clear hT
  have hsz := cleanS_size s
  have hns := nS_le s
  have HC1 := fun w => utfClean s w (by omega)
  have HC2 := fun w => utfClean (cleanS s) w (by omega)
  rw [cleanS_clean] at HC2
  have HV1 := fun w => Valid_any (cleanS s) w (by omega)
  have HV2 := fun w => Valid_any s w (by omega)
  have HR1 := fun w => utfRunes s w (by omega)
  have HR2 := fun w => utfRunes (cleanS s) w (by omega)
  rw [cleanS_nS, cleanS_runes] at HR2
  have HTx := fun A c w h => utfText (runesI s.data.toList) A c w h (by rw [runesI_nS]; omega)
  unfold TextEnd at HTx
  rw [(txt_runes s).1, (txt_runes s).2, runesI_nS] at HTx
  have HSm := fun A B c d w h1 h2 => sameR (runesI s.data.toList) A B c d w h1 h2 (by rw [runesI_nS]; omega)
  rw [runesI_nS] at HSm
  have HN1 := fun w => utfCount (cleanS s) w (by omega)
  have HN2 := fun w => utfCount s w (by omega)
  rw [cleanS_nS] at HN1
  unfold ValidEnd at HV1 HV2
  rw [cleanS_good] at HV1
  have hcs : (AllGood s.data.toList ∧ cleanS s = s) ∨ (¬ AllGood s.data.toList ∧ cleanS s ≠ s) := by
    by_cases h : AllGood s.data.toList
    · exact .inl ⟨h, cleanS_eq s h⟩
    · exact .inr ⟨h, cleanS_ne s h⟩
  rcases hcs with ⟨hg, hcs⟩ | ⟨hg, hcs⟩
  · rw [goodB_yes hg] at HV2
    rw [hcs] at HC1 HC2 HV1 HR2 HTx HN1
    have HC1 := Lib.hid HC1
    have HV1 := Lib.hid HV1
    have HR1 := Lib.hid HR1
    have HTx := Lib.hid HTx
    have HSm := Lib.hid HSm
    have HN2 := Lib.hid HN2
    clear HC2 HV2 HR2 HN1 hcs
    go_enter Tryd.func15, Tryd.ntmps15
    go_wp2_with fail
    refine (HF.out _ HT.out).mono ?_
    rintro e w1 ⟨rfl, hb1⟩
    go_wp2_with fail
    refine (HC1.out _).mono ?_
    rintro e w2 ⟨rfl, hb2⟩
    have hb12 := hb1.trans (hb2.mono hb1.size)
    go_wp2_with fail
    refine (HV1.out _).mono ?_
    rintro e w3 ⟨⟨p1, p2, rfl⟩, hb3⟩
    have hb13 := hb12.trans (hb3.mono hb12.size)
    have hb13' := hb13.alloc hb13.size (.cells #[.int .i64 p1, .int .i64 p2] 82)
    go_wp2_with fail
    refine (HV1.out _).mono ?_
    rintro e w4 ⟨⟨p3, p4, rfl⟩, hb4⟩
    have hb14 := hb13'.trans (hb4.mono hb13'.size)
    have hb14' := hb14.alloc hb14.size (.cells #[.int .i64 p3, .int .i64 p4] 82)
    go_wp2_with fail
    refine (HR1.out _).mono ?_
    rintro e w5 ⟨⟨A5, c5, rfl, hA5⟩, hb5⟩
    have hb15 := hb14'.trans (hb5.mono hb14'.size)
    go_wp2_with fail
    refine (HTx.out _ _ _ hA5).mono ?_
    rintro e w' ⟨rfl, rfl⟩
    go_wp2_with fail
    refine (HC1.out _).mono ?_
    rintro e w6 ⟨rfl, hb6⟩
    have hb16 := hb15.trans (hb6.mono hb15.size)
    go_wp2_with fail
    refine (HR1.out _).mono ?_
    rintro e w7 ⟨⟨A7, c7, rfl, hA7⟩, hb7⟩
    have hb17 := hb16.trans (hb7.mono hb16.size)
    go_wp2_with fail
    refine (HR1.out _).mono ?_
    rintro e w8 ⟨⟨A8, c8, rfl, hA8⟩, hb8⟩
    have hb18 := hb17.trans (hb8.mono hb17.size)
    go_wp2_with fail
    refine (HSm.out _ _ _ _ _ (hA7.below hb8) hA8).mono ?_
    rintro e w9 ⟨rfl, q9, rfl⟩
    have hb19 : Below w.heap.size w (w8.drewN q9) := hb18.trans ⟨rfl, rfl, rfl, Nat.le_refl _, fun _ _ => rfl⟩
    go_wp2_with fail
    refine (HN2.out _).mono ?_
    rintro e w10 ⟨rfl, hb10⟩
    have hb20 := hb19.trans (hb10.mono hb19.size)
    go_wp2_with fail
    refine (HN2.out _).mono ?_
    rintro e w11 ⟨rfl, hb11⟩
    go_wp2_with fail
    go_ret
    exact ⟨by first | rfl | simp, hb20.trans (hb11.mono hb20.size)⟩
  · rw [goodB_no hg] at HV2
    generalize cleanS s = cs at *
    have HC1 := Lib.hid HC1
    have HC2 := Lib.hid HC2
    have HV1 := Lib.hid HV1
    have HV2 := Lib.hid HV2
    have HR1 := Lib.hid HR1
    have HR2 := Lib.hid HR2
    have HTx := Lib.hid HTx
    have HSm := Lib.hid HSm
    have HN1 := Lib.hid HN1
    have HN2 := Lib.hid HN2
    have Hcs := Lib.hid hcs
    have t1 : (cs.toList == s.toList) = false := by rw [beq_eq_false_iff_ne, ByteArray.toList_eq, ByteArray.toList_eq]; exact fun e => hcs (bytes_ext e)
    clear hcs
    go_enter Tryd.func15, Tryd.ntmps15
    go_wp2_with fail
    refine (HF.out _ HT.out).mono ?_
    rintro e w1 ⟨rfl, hb1⟩
    go_wp2_with fail
    refine (HC1.out _).mono ?_
    rintro e w2 ⟨rfl, hb2⟩
    have hb12 := hb1.trans (hb2.mono hb1.size)
    go_wp2_with fail
    refine (HV1.out _).mono ?_
    rintro e w3 ⟨⟨p1, p2, rfl⟩, hb3⟩
    have hb13 := hb12.trans (hb3.mono hb12.size)
    have hb13' := hb13.alloc hb13.size (.cells #[.int .i64 p1, .int .i64 p2] 82)
    go_wp2_with fail
    refine (HV2.out _).mono ?_
    rintro e w4 ⟨⟨p3, p4, rfl⟩, hb4⟩
    have hb14 := hb13'.trans (hb4.mono hb13'.size)
    have hb14' := hb14.alloc hb14.size (.cells #[.int .i64 p3, .int .i64 p4] 82)
    go_wp2_with fail
    refine (HR1.out _).mono ?_
    rintro e w5 ⟨⟨A5, c5, rfl, hA5⟩, hb5⟩
    have hb15 := hb14'.trans (hb5.mono hb14'.size)
    go_wp2_with fail
    refine (HTx.out _ _ _ hA5).mono ?_
    rintro e w' ⟨rfl, rfl⟩
    go_wp2_with fail
    refine (HC2.out _).mono ?_
    rintro e w6 ⟨rfl, hb6⟩
    have hb16 := hb15.trans (hb6.mono hb15.size)
    go_wp2_with fail
    refine (HR2.out _).mono ?_
    rintro e w7 ⟨⟨A7, c7, rfl, hA7⟩, hb7⟩
    have hb17 := hb16.trans (hb7.mono hb16.size)
    go_wp2_with fail
    refine (HR1.out _).mono ?_
    rintro e w8 ⟨⟨A8, c8, rfl, hA8⟩, hb8⟩
    have hb18 := hb17.trans (hb8.mono hb17.size)
    go_wp2_with fail
    refine (HSm.out _ _ _ _ _ (hA7.below hb8) hA8).mono ?_
    rintro e w9 ⟨rfl, q9, rfl⟩
    have hb19 : Below w.heap.size w (w8.drewN q9) := hb18.trans ⟨rfl, rfl, rfl, Nat.le_refl _, fun _ _ => rfl⟩
    go_wp2_with fail
    refine (HN1.out _).mono ?_
    rintro e w10 ⟨rfl, hb10⟩
    have hb20 := hb19.trans (hb10.mono hb19.size)
    go_wp2_with fail
    refine (HN2.out _).mono ?_
    rintro e w11 ⟨rfl, hb11⟩
    go_wp2_with fail
    go_ret
    exact ⟨by first | rfl | simp, hb20.trans (hb11.mono hb20.size)⟩
end Go.Proofs.YtkenffbonnbflaaDoor
