/- Walks: utf.First, utf.Last: every text; guiselaw1.alive. Under the two tables of unicode/utf8. -/
import Derived.Test.YtkenffbonnbflaaDoorRef2
import Derived.Test.YtkenffbonnbflaaDoorPle
import Derived.Test.YtkenffbonnbflaaDoorU8
namespace Go.Proofs.YtkenffbonnbflaaDoor
open Go.RowKit
set_option linter.unusedVariables false

/-- a utf.Spot -/
def utfV (r n : Nat) (b : Bool) : Value := .agg #[.int .i32 (r : Int), .int .i64 (n : Int), .bool b]
def noneV : Value := .agg #[.int .i32 0, .int .i64 0, .bool false]
theorem isBad_yes : isBad (65533, 1) = true := rfl
theorem isBad_no {r n : Nat} (h : ¬ (r = 65533 ∧ n = 1)) : isBad (r, n) = false := by
  unfold isBad
  rw [Bool.and_eq_false_iff, beq_eq_false_iff_ne, beq_eq_false_iff_ne]
  dsimp only
  omega
set_option maxHeartbeats 1000000 in
theorem utfSpot (r n : Nat) (w : World) (hr : r ≤ 1114111) (hn : n ≤ 4) :
    Calls Tryd.prog 81 #[.int .i32 (r : Int), .int .i64 (n : Int)] w fun e w' => e = .returned (utfV r n (isBad (r, n))) ∧ Below w.heap.size w w' := by
  by_cases h1 : r = 65533
  · by_cases h2 : n = 1
    · subst h1 h2
      go_enter Tryd.func81, Tryd.ntmps81
      go_wp2
      refine bodyPost_ret (v := .agg #[.int .i32 65533, .int .i64 1, .bool true]) (by simp [results, Tryd.results81, go_sem]) rfl ⟨rfl, ?_⟩
      first | exact (Below.refl _ w).alloc (Nat.le_refl _) _ | exact ((((Below.refl _ w).alloc (Nat.le_refl _) _).setCell (Nat.le_refl _) _).setCell (Nat.le_refl _) _).setCell (Nat.le_refl _) _
    · subst h1
      have Hb := Lib.hid (isBad_no (r := 65533) (n := n) (by omega))
      have t2 : ((n : Int) == 1) = false := by rw [beq_eq_false_iff_ne]; omega
      go_enter Tryd.func81, Tryd.ntmps81
      go_wp2
      refine bodyPost_ret (v := .agg #[.int .i32 65533, .int .i64 (n : Int), .bool false]) (by simp [results, Tryd.results81, go_sem]) rfl ⟨?_, ?_⟩
      · rw [Hb.out]; rfl
      · first | exact (Below.refl _ w).alloc (Nat.le_refl _) _ | exact ((((Below.refl _ w).alloc (Nat.le_refl _) _).setCell (Nat.le_refl _) _).setCell (Nat.le_refl _) _).setCell (Nat.le_refl _) _
  · have Hb := Lib.hid (isBad_no (r := r) (n := n) (by omega))
    have t1 : ((r : Int) == 65533) = false := by rw [beq_eq_false_iff_ne]; omega
    go_enter Tryd.func81, Tryd.ntmps81
    go_wp2
    refine bodyPost_ret (v := .agg #[.int .i32 (r : Int), .int .i64 (n : Int), .bool false]) (by simp [results, Tryd.results81, go_sem]) rfl ⟨?_, ?_⟩
    · rw [Hb.out]; rfl
    · first | exact (Below.refl _ w).alloc (Nat.le_refl _) _ | exact ((((Below.refl _ w).alloc (Nat.le_refl _) _).setCell (Nat.le_refl _) _).setCell (Nat.le_refl _) _).setCell (Nat.le_refl _) _

theorem not_empty (s : ByteArray) (h : 0 < s.size) : s.toList.isEmpty = false := by
  rw [ByteArray.toList_eq, List.isEmpty_eq_false_iff]
  intro e
  have := congrArg List.length e
  rw [toList_len] at this
  simp only [List.length_nil] at this
  omega
theorem empty_size (s : ByteArray) (h : s.size = 0) : s = ⟨#[]⟩ := by
  apply ByteArray.ext
  exact Array.eq_empty_of_size_eq_zero h
theorem First_none (w : World) :
    Calls Tryd.prog 22 #[.string ⟨#[]⟩] w fun e w' => e = .returned (.tuple #[noneV, .bool false]) ∧ Below w.heap.size w w' := by
  go_enter Tryd.func22, Tryd.ntmps22
  go_wp2_with fail
  refine bodyPost_ret (v := .tuple #[.agg #[.int .i32 0, .int .i64 0, .bool false], .bool false]) (by simp [results, Tryd.results22, go_sem]) rfl ⟨rfl, ?_⟩
  first | exact (Below.refl _ w).alloc (Nat.le_refl _) _ | exact ((((Below.refl _ w).alloc (Nat.le_refl _) _).setCell (Nat.le_refl _) _).setCell (Nat.le_refl _) _).setCell (Nat.le_refl _) _
theorem Last_none (w : World) :
    Calls Tryd.prog 23 #[.string ⟨#[]⟩] w fun e w' => e = .returned (.tuple #[noneV, .bool false]) ∧ Below w.heap.size w w' := by
  go_enter Tryd.func23, Tryd.ntmps23
  go_wp2_with fail
  refine bodyPost_ret (v := .tuple #[.agg #[.int .i32 0, .int .i64 0, .bool false], .bool false]) (by simp [results, Tryd.results23, go_sem]) rfl ⟨rfl, ?_⟩
  first | exact (Below.refl _ w).alloc (Nat.le_refl _) _ | exact ((((Below.refl _ w).alloc (Nat.le_refl _) _).setCell (Nat.le_refl _) _).setCell (Nat.le_refl _) _).setCell (Nat.le_refl _) _

set_option maxHeartbeats 1000000 in
theorem First_some (s : ByteArray) (w : World) (h : 0 < s.size) (r n : Nat) (hd : Utf8.decode s 0 = (r, n)) (hT : Lib.Utf8Tabs 0 1 w) :
    Calls Tryd.prog 22 #[.string s] w fun e w' => e = .returned (.tuple #[utfV r n (isBad (r, n)), .bool true]) ∧ Below w.heap.size w w' := by
  have t1 := not_empty s h
  have hT1 := Utf8Tabs_below hT ((Below.refl _ w).alloc (Nat.le_refl _) (.cells #[.int .i32 0, .int .i64 0, .bool false] 25))
  have hD := Tryd.utf8_DecodeRuneInString s _ hT1
  have hg : Lib.decodeGo s = (r, n) := by unfold Lib.decodeGo; rw [if_neg (by omega), hd]
  rw [hg] at hD
  have hr : r ≤ 1114111 := by have := Lib.decodeL_rune s.data.toList; rw [show Lib.decodeL s.data.toList = (r, n) by have := Lib.decodeL_drop s 0; rw [List.drop_zero, hd] at this; exact this] at this; exact this
  have hn : n ≤ 4 := by have := decodeL_le4 s.data.toList; rw [show Lib.decodeL s.data.toList = (r, n) by have := Lib.decodeL_drop s 0; rw [List.drop_zero, hd] at this; exact this] at this; exact this
  have HD := Lib.hid hD
  have HS := Lib.hid (fun w => utfSpot r n w hr hn)
  clear hD hT1 hd hg
  go_enter Tryd.func22, Tryd.ntmps22
  go_wp2_with fail
  refine HD.out.mono ?_
  rintro e w2 ⟨rfl, hb2⟩
  go_wp2_with fail
  refine (HS.out _).mono ?_
  rintro e w3 ⟨rfl, hb3⟩
  have B : Blk w3 w.heap.size 25 #[.int .i32 0, .int .i64 0, .bool false] := ((Blk.new w _ _).below hb2).below hb3
  have B' := ((B.set_ 0 (.int .i32 (r : Int))).set_ 1 (.int .i64 (n : Int))).set_ 2 (.bool (isBad (r, n)))
  have c0 := B.cell 0
  have c1 := B.cell 1
  have c2 := B.cell 2
  have f0 := B.frozen 0
  have f1 := B.frozen 1
  have f2 := B.frozen 2
  have d0 := B'.cell 0
  have d1 := B'.cell 1
  have d2 := B'.cell 2
  simp at c0 c1 c2 d0 d1 d2
  have HB : Below w.heap.size w w3 := ((Below.refl _ w).alloc (Nat.le_refl _) _).trans ((hb2.trans (hb3.mono hb2.size)).mono (by simp))
  unfold utfV
  go_wp2_with fail
  refine bodyPost_ret (v := .tuple #[.agg #[.int .i32 (r : Int), .int .i64 (n : Int), .bool (isBad (r, n))], .bool true]) (by simp [results, Tryd.results22, go_sem, d0, d1, d2]) rfl ⟨rfl, ?_⟩
  exact ((HB.setCell (Nat.le_refl _) _).setCell (Nat.le_refl _) _).setCell (Nat.le_refl _) _

set_option maxHeartbeats 1000000 in
theorem Last_some (s : ByteArray) (w : World) (h : 0 < s.size) (r n : Nat) (hd : Lib.decodeLastL s.data.toList = (r, n)) (hr : r ≤ 1114111) (hn : n ≤ 4) (hs : s.size ≤ 9223372036854775807) (hT : Lib.Utf8Tabs 0 1 w) :
    Calls Tryd.prog 23 #[.string s] w fun e w' => e = .returned (.tuple #[utfV r n (isBad (r, n)), .bool true]) ∧ Below w.heap.size w w' := by
  have t1 := not_empty s h
  have hT1 := Utf8Tabs_below hT ((Below.refl _ w).alloc (Nat.le_refl _) (.cells #[.int .i32 0, .int .i64 0, .bool false] 25))
  have hD := Tryd.utf8_DecodeLastRuneInString s _ hs hT1
  rw [hd] at hD
  have HD := Lib.hid hD
  have HS := Lib.hid (fun w => utfSpot r n w hr hn)
  clear hD hT1 hd
  go_enter Tryd.func23, Tryd.ntmps23
  go_wp2_with fail
  refine HD.out.mono ?_
  rintro e w2 ⟨rfl, hb2⟩
  go_wp2_with fail
  refine (HS.out _).mono ?_
  rintro e w3 ⟨rfl, hb3⟩
  have B : Blk w3 w.heap.size 25 #[.int .i32 0, .int .i64 0, .bool false] := ((Blk.new w _ _).below hb2).below hb3
  have B' := ((B.set_ 0 (.int .i32 (r : Int))).set_ 1 (.int .i64 (n : Int))).set_ 2 (.bool (isBad (r, n)))
  have c0 := B.cell 0
  have c1 := B.cell 1
  have c2 := B.cell 2
  have f0 := B.frozen 0
  have f1 := B.frozen 1
  have f2 := B.frozen 2
  have d0 := B'.cell 0
  have d1 := B'.cell 1
  have d2 := B'.cell 2
  simp at c0 c1 c2 d0 d1 d2
  have HB : Below w.heap.size w w3 := ((Below.refl _ w).alloc (Nat.le_refl _) _).trans ((hb2.trans (hb3.mono hb2.size)).mono (by simp))
  unfold utfV
  go_wp2_with fail
  refine bodyPost_ret (v := .tuple #[.agg #[.int .i32 (r : Int), .int .i64 (n : Int), .bool (isBad (r, n))], .bool true]) (by simp [results, Tryd.results23, go_sem, d0, d1, d2]) rfl ⟨rfl, ?_⟩
  exact ((HB.setCell (Nat.le_refl _) _).setCell (Nat.le_refl _) _).setCell (Nat.le_refl _) _

def aliveText : ByteArray := ⟨#[195, 169, 255]⟩
theorem alive_first : Utf8.decode aliveText 0 = (233, 2) := by decide +kernel
theorem alive_last : Lib.decodeLastL aliveText.data.toList = (65533, 1) := by decide +kernel
set_option maxHeartbeats 1000000 in
theorem alive_yes (w : World) (hT : Lib.Utf8Tabs 0 1 w) :
    Calls Tryd.prog 24 #[] w fun e w' => e = .returned (.bool true) ∧ Below w.heap.size w w' := by
  have hF := First_some aliveText w (by decide) 233 2 alive_first hT
  have HF := Lib.hid hF
  have HT := Lib.hid hT
  clear hF hT
  go_enter Tryd.func24, Tryd.ntmps24
  go_wp2_with fail
  refine HF.out.mono ?_
  rintro e w2 ⟨rfl, hb2⟩
  have HL := Last_some aliveText (w2.alloc (.cells #[.int .i32 233, .int .i64 2, .bool false] 25)) (by decide) 65533 1 alive_last (by omega) (by omega) (by decide) (Utf8Tabs_below (Utf8Tabs_below HT.out hb2) ((Below.refl _ w2).alloc (Nat.le_refl _) _))
  have HL := Lib.hid HL
  unfold utfV
  rw [show isBad (233, 2) = false from rfl]
  go_wp2_with fail
  refine HL.out.mono ?_
  rintro e w3 ⟨rfl, hb3⟩
  unfold utfV
  rw [show isBad (65533, 1) = true from rfl]
  have B : Blk w3 w2.heap.size 25 #[.int .i32 233, .int .i64 2, .bool false] := (Blk.new w2 _ _).below hb3
  have c0 := B.cell 0
  have c1 := B.cell 1
  have c2 := B.cell 2
  simp at c0 c1 c2
  have HB : Below w.heap.size w w3 := hb2.trans ((((Below.refl _ w2).alloc (Nat.le_refl _) _).trans (hb3.mono (by simp))).mono hb2.size)
  have hlt := B.lt
  clear hb3
  go_wp2_with fail
  go_ret
  exact ⟨by first | rfl | simp, HB.alloc (HB.size) _⟩
end Go.Proofs.YtkenffbonnbflaaDoor
