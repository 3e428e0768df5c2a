/- Walk: guiselaw2.SpotsRound: every text and number, under the two tables of unicode/utf8. -/
import Derived.Test.YtkenffbonnbflaaDoorJoinsU
import Derived.Test.YtkenffbonnbflaaDoorNumOf
import Derived.Test.YtkenffbonnbflaaDoorCount
namespace Go.Proofs.YtkenffbonnbflaaDoor
open Go.RowKit
set_option linter.unusedVariables false

set_option maxRecDepth 100000 in
set_option maxHeartbeats 4000000 in
theorem round_walk (s : ByteArray) (n : Int) (w : World) (hx : s.size ≤ 9223372036854775807) (hn : -9223372036854775808 ≤ n ∧ n ≤ 9223372036854775807) (hT : Lib.Utf8Tabs 0 1 w) :
    Calls Tryd.prog 17 #[.string s, .int .i64 n] w fun e w' => e = .returned (.bool true) ∧ Below w.heap.size w w' := by
  have HU := Lib.hid hT
  clear hT
  obtain ⟨hn1, hn2⟩ := hn
  by_cases hm : s.size ≤ 65536
  · have hns := nS_le s
    have HW := Lib.hid (fun w => Within_any n 0 (nS s : Int) w (by omega) (by omega) (by omega) hn1 hn2)
    go_enter Tryd.func17, Tryd.ntmps17
    go_wp2_with fail
    refine (begun_ok s _ hm).mono ?_
    rintro e w1 ⟨⟨T, gb, cb, gl, cl, rfl, ht⟩, hb1⟩
    have HC := Lib.hid (Count_any ht)
    have HT := Lib.hid ht
    clear ht
    go_wp2_with (go_at_call 56; refine HC.out.mono ?_; rintro e w' ⟨rfl, rfl⟩)
    refine (HW.out _).mono ?_
    rintro e w' ⟨r, hr0, hr1, rfl, rfl⟩
    obtain ⟨k, rfl⟩ : ∃ k : Nat, r = (k : Int) := ⟨r.toNat, by omega⟩
    have hk : k ≤ nS s := by omega
    have hnum : IsNum s (bAt s k) k := ⟨hk, Nat.le_refl _, fun h => bAt_lt s k (k + 1) (by omega) (by omega)⟩
    have hbl := bAt_le s k
    have hln := lnOf_is s k hk
    have hle := (line_of s k (lnOf s k) hk hln.1).1 rfl
    have HP := Lib.hid (Place_yes HT.out k hk)
    have HO := Lib.hid (fun w (h : TextIs w T s gb cb gl cl) => Of_yes h (bAt s k) k hnum hbl)
    have HWh := (fun w (h : TextIs w T s gb cb gl cl) => Where_yes h (bAt s k) k hnum hbl)
    have HF := (fun w (h : TextIs w T s gb cb gl cl) => Find_yes h (lnOf s k) (k - lAt s (lnOf s k)) hln.1 (by omega))
    rw [show lAt s (lnOf s k) + (k - lAt s (lnOf s k)) = k by omega] at HF
    unfold atV at HWh
    rw [show (k : Int) - (lAt s (lnOf s k) : Int) = ((k - lAt s (lnOf s k) : Nat) : Int) by omega] at HWh
    have hns0 : bAt s (nS s) = s.size := bAt_end s
    have HS1 := (fun w (h : TextIs w T s gb cb gl cl) => Slice_yes h 0 k (Nat.zero_le _) hk (by rw [bAt_nil]; omega))
    rw [bAt_nil, show ((0 : Nat) : Int) = 0 from rfl] at HS1
    have HS2 := (fun w (h : TextIs w T s gb cb gl cl) => Slice_yes h k (nS s) hk (Nat.le_refl _) (by rw [bAt_end]; exact hbl))
    rw [hns0] at HS2
    have hcnt := nS_piece s 0 k (Nat.zero_le _) hk
    rw [bAt_nil, Nat.sub_zero] at hcnt
    have hjoin : isBb s.data.toList (bAt s k) = true := isBb_yes ⟨k, hk, by rw [← bAt_pos]⟩
    obtain ⟨head, hh⟩ : ∃ head, s.extract 0 (bAt s k) = head := ⟨_, rfl⟩
    obtain ⟨tail, htl⟩ : ∃ tail, s.extract (bAt s k) s.size = tail := ⟨_, rfl⟩
    have hsz : head.size = bAt s k := by rw [← hh, ext_size s 0 _ (by omega) (by omega)]; omega
    have hszt : tail.size = s.size - bAt s k := by rw [← htl, ext_size s _ _ (by omega) (by omega)]
    have happ : head ++ tail = s := by
      rw [← hh, ← htl]
      apply ByteArray.ext
      apply Array.ext'
      rw [app_list, ext_list, ext_list, List.drop_zero, Nat.sub_zero, List.take_of_length_le (l := s.data.toList.drop _) (by rw [List.length_drop, toList_len]; exact Nat.le_refl _), List.take_append_drop]
    rw [hh] at HS1 hcnt
    rw [htl] at HS2
    have HB := fun w hT => Bound_in s (bAt s k) w hx hbl hT
    have HJ := fun w hT => Joins_any head tail w (by omega) (by omega) hT
    rw [← app_list, happ, hsz, hjoin] at HJ
    rw [hjoin] at HB
    have HCt := fun w => utfCount head w (by omega)
    rw [hcnt] at HCt
    have i4 : head.size + tail.size ≤ 9223372036854775807 := by omega
    have HWh := Lib.hid HWh
    have HF := Lib.hid HF
    have HS1 := Lib.hid HS1
    have HS2 := Lib.hid HS2
    have HB := Lib.hid HB
    have HJ := Lib.hid HJ
    have HCt := Lib.hid HCt
    have Happ := Lib.hid happ
    clear hnum hln hle hns0 hcnt hjoin hh htl hsz hszt happ
    go_wp2_with fail
    refine HP.out.mono ?_
    rintro e w2 ⟨rfl, hb2⟩
    go_wp2_with fail
    refine (HO.out _ (HT.out.below (hb2.alloc hb2.size _))).mono ?_
    rintro e w3 ⟨rfl, hb3⟩
    have B8 : Blk w3 w2.heap.size 82 #[.int .i64 (bAt s k : Int), .int .i64 (k : Int)] := (Blk.new w2 _ _).below hb3
    have hb13 : Below w1.heap.size w1 w3 := (hb2.alloc hb2.size _).trans (hb3.mono (by simp; have := hb2.size; omega))
    have a0 := B8.cell 0
    have a1 := B8.cell 1
    have q8 := B8.lt
    simp only [List.getElem?_toArray, List.getElem?_cons_succ, List.getElem?_cons_zero] at a0 a1
    clear hb2 hb3
    go_wp2_with fail
    refine (HWh.out _ (HT.out.below (hb13.alloc hb13.size _))).mono ?_
    rintro e w4 ⟨rfl, hb4⟩
    have hb14 : Below w1.heap.size w1 w4 := (hb13.alloc hb13.size _).trans (hb4.mono (by simp; have := hb13.size; omega))
    have B10 : Blk w4 w3.heap.size 82 #[.int .i64 (bAt s k : Int), .int .i64 (k : Int)] := (Blk.new w3 _ _).below hb4
    have B8' := (B8.alloc (.cells #[.int .i64 (bAt s k : Int), .int .i64 (k : Int)] 82)).below hb4
    clear hb4 hb13 a0 a1 q8 B8
    go_wp2_with fail
    refine (HF.out _ (HT.out.below (hb14.alloc hb14.size _))).mono ?_
    rintro e w5 ⟨rfl, hb5⟩
    have hb15 : Below w1.heap.size w1 w5 := (hb14.alloc hb14.size _).trans (hb5.mono (by simp; have := hb14.size; omega))
    have B10' := (B10.alloc _).below hb5
    have B8'' := (B8'.alloc _).below hb5
    clear hb5 hb14 B10 B8'
    go_wp2_with fail
    refine (HS1.out _ (HT.out.below (hb15.alloc hb15.size _))).mono ?_
    rintro e w6 ⟨rfl, m6, hm6⟩
    have hb6 : Below (w5.alloc (.cells #[.int .i64 (bAt s k : Int), .int .i64 (k : Int)] 82)).heap.size (w5.alloc (.cells #[.int .i64 (bAt s k : Int), .int .i64 (k : Int)] 82)) w6 := by rw [hm6]; exact below_dn (Below.refl _ _) _
    have B14 : Blk w6 w5.heap.size 82 #[.int .i64 (bAt s k : Int), .int .i64 (k : Int)] := (Blk.new w5 _ _).below hb6
    have B10 := (B10'.alloc _).below hb6
    have B8 := (B8''.alloc _).below hb6
    have hb16 : Below w1.heap.size w1 w6 := (hb15.alloc hb15.size _).trans (hb6.mono (by simp; have := hb15.size; omega))
    clear hm6 hb6 hb15 B10' B8''
    have HC6 := Lib.hid (Count_any (HT.out.below hb16))
    go_wp2_with (go_at_call 56; refine HC6.out.mono ?_; rintro e w' ⟨rfl, rfl⟩)
    refine (HS2.out _ (HT.out.below hb16)).mono ?_
    rintro e w7 ⟨rfl, m7, hm7⟩
    have hb7 : Below w6.heap.size w6 w7 := by rw [hm7]; exact below_dn (Below.refl _ _) _
    have B14' := B14.below hb7
    have B10' := B10.below hb7
    have B8' := B8.below hb7
    have hb17 := hb16.trans (hb7.mono hb16.size)
    have hbw := hb1.trans (hb17.mono hb1.size)
    have a0 := B8'.cell 0
    have a1 := B8'.cell 1
    have d0 := B10'.cell 0
    have d1 := B10'.cell 1
    have g0 := B14'.cell 0
    have g1 := B14'.cell 1
    simp only [List.getElem?_toArray, List.getElem?_cons_succ, List.getElem?_cons_zero] at a0 a1 d0 d1 g0 g1
    have happ := Happ.out
    have q8 := B8'.lt
    clear hm7 hb7 hb16 B14 B10 B8
    go_wp2_with fail
    refine (HJ.out _ (Utf8Tabs_below HU.out hbw)).mono ?_
    rintro e w8 ⟨rfl, hb8⟩
    have hbw8 := hbw.trans (hb8.mono hbw.size)
    have b0 := (hb8.cell (p := ⟨w2.heap.size, 0, none⟩) q8).trans a0
    go_wp2_with fail
    refine (HB.out _ (Utf8Tabs_below HU.out hbw8)).mono ?_
    rintro e w9 ⟨rfl, hb9⟩
    have hbw9 := hbw8.trans (hb9.mono hbw8.size)
    go_wp2_with fail
    refine (HCt.out _).mono ?_
    rintro e w10 ⟨rfl, hb10⟩
    go_wp2_with fail
    go_ret
    exact ⟨by first | rfl | simp, hbw9.trans (hb10.mono hbw9.size)⟩
  · go_enter Tryd.func17, Tryd.ntmps17
    go_wp2_with fail
    refine (begun_long s _ (by omega) hx).mono ?_
    rintro e w1 ⟨rfl, hb1⟩
    go_wp2_with fail
    go_ret
    exact ⟨rfl, hb1⟩
end Go.Proofs.YtkenffbonnbflaaDoor
