/- Walk: guiselaw1.UtfNames: the numbers, the chapter's runs. -/
import Derived.Test.YtkenffbonnbflaaDoorValidU
import Derived.Test.YtkenffbonnbflaaDoorBound
import Derived.Test.YtkenffbonnbflaaDoorBegun
namespace Go.Proofs.YtkenffbonnbflaaDoor
open Go.RowKit
set_option linter.unusedVariables false

def nt1 : ByteArray := ⟨#[195, 169, 255, 120]⟩
def nt2 : ByteArray := ⟨#[97, 226, 130, 98]⟩
def nt3 : ByteArray := ⟨#[97, 255]⟩
def nt4 : ByteArray := ⟨#[97, 195, 169]⟩
def nt5 : ByteArray := ⟨#[195, 169]⟩
theorem nt1_sp : sp nt1 = [⟨233, 0, 2, false⟩, ⟨65533, 2, 1, true⟩, ⟨120, 3, 1, false⟩] := by
  unfold sp spots
  rw [← spotsF_eq 4 0 nt1.data.toList (by decide)]
  rfl
theorem nt2_sp : sp nt2 = [⟨97, 0, 1, false⟩, ⟨65533, 1, 1, true⟩, ⟨65533, 2, 1, true⟩, ⟨98, 3, 1, false⟩] := by
  unfold sp spots
  rw [← spotsF_eq 4 0 nt2.data.toList (by decide)]
  rfl
theorem nt3_sp : sp nt3 = [⟨97, 0, 1, false⟩, ⟨65533, 1, 1, true⟩] := by
  unfold sp spots
  rw [← spotsF_eq 4 0 nt3.data.toList (by decide)]
  rfl
theorem nt4_sp : sp nt4 = [⟨97, 0, 1, false⟩, ⟨233, 1, 2, false⟩] := by
  unfold sp spots
  rw [← spotsF_eq 4 0 nt4.data.toList (by decide)]
  rfl
theorem nt5_spots : spots nt5.data.toList = [⟨233, 0, 2, false⟩] := by
  unfold spots
  rw [← spotsF_eq 4 0 nt5.data.toList (by decide)]
  rfl
theorem nt6_spots : spots [226, 130, 172] = [⟨8364, 0, 3, false⟩] := by
  unfold spots
  rw [← spotsF_eq 4 0 [226, 130, 172] (by decide)]
  rfl
theorem nt7_spots : spots [226, 172] = [⟨65533, 0, 1, true⟩, ⟨65533, 1, 1, true⟩] := by
  unfold spots
  rw [← spotsF_eq 4 0 [226, 172] (by decide)]
  rfl
theorem nt1_valid : ValidRes nt1 2 1 false := .inr ⟨rfl, 1, by unfold nS; rw [nt1_sp]; decide, by unfold bAt; rw [nt1_sp]; rfl, rfl, by unfold spA; rw [nt1_sp]; rfl, fun j hj => by
  obtain rfl : j = 0 := by omega
  unfold spA; rw [nt1_sp]; rfl⟩
theorem nt2_n : nS nt2 = 4 := by unfold nS; rw [nt2_sp]; rfl
theorem nt3_clean : cleanS nt3 = ⟨#[97, 239, 191, 189]⟩ := by
  unfold cleanS cleanL runesI runesN
  have h := nt3_sp
  unfold sp at h
  rw [h]
  rfl
theorem nt4_num : IsNum nt4 2 1 := by
  unfold IsNum nS bAt
  rw [nt4_sp]
  decide
theorem nt4_b : bAt nt4 1 = 1 := by unfold bAt; rw [nt4_sp]; rfl
theorem nt5_no : isBb nt5.data.toList 1 = false := isBb_no (by
  rintro ⟨i, hi, hp⟩
  unfold posL byteStarts at hp
  rw [nt5_spots] at hi hp
  have h : i = 0 ∨ i = 1 := by simp at hi; omega
  rcases h with rfl | rfl
  · revert hp; decide
  · revert hp; decide)
theorem nt5_yes : isBb nt5.data.toList 2 = true := isBb_yes (by
  refine ⟨1, ?_, ?_⟩
  · rw [nt5_spots]; decide
  · unfold posL byteStarts; rw [nt5_spots]; decide)
theorem nt6_no : isBb [226, 130, 172] 2 = false := isBb_no (by
  rintro ⟨i, hi, hp⟩
  unfold posL byteStarts at hp
  rw [nt6_spots] at hi hp
  have h : i = 0 ∨ i = 1 := by simp at hi; omega
  rcases h with rfl | rfl
  · revert hp; decide
  · revert hp; decide)
theorem nt7_yes : isBb [226, 172] 1 = true := isBb_yes (by
  refine ⟨1, ?_, ?_⟩
  · rw [nt7_spots]; decide
  · unfold posL byteStarts; rw [nt7_spots]; decide)
theorem w800 : widI 2048 = 3 := by decide
theorem wdfff : widI 57343 = 0 := by decide
theorem ntT : txtB [8364, 97, 1114111] = ⟨#[226, 130, 172, 97, 244, 143, 191, 191]⟩ ∧ txtE [8364, 97, 1114111] = 0 := by
  have h : okL [8364, 97, 1114111] = true := by decide
  unfold txtB txtE
  rw [h]
  exact ⟨rfl, rfl⟩
theorem ntU : txtB [8364, 55296] = ⟨#[]⟩ ∧ txtE [8364, 55296] = 12 := by
  have h : okL [8364, 55296] = false := by decide
  unfold txtB txtE
  rw [h]
  exact ⟨rfl, rfl⟩
/-- a list of runes in new memory -/
theorem new_runes (w : World) (ns : List Int) : RunesAt (w.alloc (.cells (ns.map (Value.int .i32)).toArray 21)) (some ⟨w.heap.size, 0, none⟩) ns := fun h0 =>
  ⟨⟨w.heap.size, 0, none⟩, rfl, by simp, fun j hj => by
    rw [addr_add0, Nat.zero_add, (Blk.new w 21 (ns.map (Value.int .i32)).toArray).cell j, List.getElem?_toArray, List.getElem?_map, List.getElem?_eq_getElem hj, List.getD_eq_getElem?_getD, List.getElem?_eq_getElem hj]
    rfl⟩

theorem nt_HA : ∀ w : World, Calls Tryd.prog 38 #[.slice (some ⟨w.heap.size, 0, none⟩) 3 3] (w.alloc (.cells #[.int .i32 8364, .int .i32 97, .int .i32 1114111] 21)) fun e w' => e = .returned (.tuple #[.string ⟨#[226, 130, 172, 97, 244, 143, 191, 191]⟩, .int .i64 0]) ∧ w.alloc (.cells #[.int .i32 8364, .int .i32 97, .int .i32 1114111] 21) = w' := fun w => by
    have h := utfText [8364, 97, 1114111] _ 3 _ (new_runes w [8364, 97, 1114111]) (by decide)
    unfold TextEnd at h
    rw [ntT.1, ntT.2] at h
    exact h
theorem nt_HB : ∀ w : World, Calls Tryd.prog 38 #[.slice (some ⟨w.heap.size, 0, none⟩) 2 2] (w.alloc (.cells #[.int .i32 8364, .int .i32 55296] 21)) fun e w' => e = .returned (.tuple #[.string ⟨#[]⟩, .int .i64 12]) ∧ w.alloc (.cells #[.int .i32 8364, .int .i32 55296] 21) = w' := fun w => by
    have h := utfText [8364, 55296] _ 2 _ (new_runes w [8364, 55296]) (by decide)
    unfold TextEnd at h
    rw [ntU.1, ntU.2] at h
    exact h
theorem nt_HV : ∀ w : World, Calls Tryd.prog 62 #[.string ⟨#[195, 169, 255, 120]⟩] w fun e w' => e = .returned (.tuple #[.agg #[.int .i64 2, .int .i64 1], .bool false]) ∧ Below w.heap.size w w' := fun w => (utfValid nt1 w (by decide)).mono (by
    rintro e w' ⟨⟨p1, p2, ok, hr, rfl⟩, hb⟩
    obtain ⟨rfl, rfl, rfl⟩ := hr.one nt1_valid
    exact ⟨rfl, hb⟩)
theorem nt_HN : ∀ w : World, Calls Tryd.prog 67 #[.string ⟨#[97, 226, 130, 98]⟩] w fun e w' => e = .returned (.int .i64 4) ∧ Below w.heap.size w w' := fun w => by
    have h := utfCount nt2 w (by decide)
    rw [nt2_n] at h
    exact h
theorem nt_HC : ∀ w : World, Calls Tryd.prog 64 #[.string ⟨#[97, 255]⟩] w fun e w' => e = .returned (.string ⟨#[97, 239, 191, 189]⟩) ∧ Below w.heap.size w w' := fun w => by
    have h := utfClean nt3 w (by decide)
    rw [nt3_clean] at h
    exact h
theorem nt_HX : ∀ w : World, Lib.Utf8Tabs 0 1 w → Calls Tryd.prog 34 #[.string ⟨#[97, 195, 169]⟩, .int .i64 2] w fun e w' => e = .returned (.tuple #[.string ⟨#[97]⟩, .string ⟨#[195, 169]⟩]) ∧ Below w.heap.size w w' := fun w hT => by
    have h := cut_from nt4 2 2 1 w (by decide) (by decide) (by decide) nt4_num hT
    rw [nt4_b] at h
    exact h
theorem nt_HB1 : ∀ w : World, Lib.Utf8Tabs 0 1 w → Calls Tryd.prog 35 #[.string ⟨#[195, 169]⟩, .int .i64 1] w fun e w' => e = .returned (.bool false) ∧ Below w.heap.size w w' := fun w hT => by
    have h := Bound_in nt5 1 w (by decide) (by decide) hT
    rw [nt5_no] at h
    exact h
theorem nt_HB2 : ∀ w : World, Lib.Utf8Tabs 0 1 w → Calls Tryd.prog 35 #[.string ⟨#[195, 169]⟩, .int .i64 2] w fun e w' => e = .returned (.bool true) ∧ Below w.heap.size w w' := fun w hT => by
    have h := Bound_in nt5 2 w (by decide) (by decide) hT
    rw [nt5_yes] at h
    exact h
theorem nt_HJ1 : ∀ w : World, Lib.Utf8Tabs 0 1 w → Calls Tryd.prog 40 #[.string ⟨#[226, 130]⟩, .string ⟨#[172]⟩] w fun e w' => e = .returned (.bool false) ∧ Below w.heap.size w w' := fun w hT => by
    have h := Joins_any ⟨#[226, 130]⟩ ⟨#[172]⟩ w (by decide) (by decide) hT
    have k : isBb ((⟨#[226, 130]⟩ : ByteArray).data.toList ++ (⟨#[172]⟩ : ByteArray).data.toList) (⟨#[226, 130]⟩ : ByteArray).size = false := nt6_no
    rw [k] at h
    exact h
theorem nt_HJ2 : ∀ w : World, Lib.Utf8Tabs 0 1 w → Calls Tryd.prog 40 #[.string ⟨#[226]⟩, .string ⟨#[172]⟩] w fun e w' => e = .returned (.bool true) ∧ Below w.heap.size w w' := fun w hT => by
    have h := Joins_any ⟨#[226]⟩ ⟨#[172]⟩ w (by decide) (by decide) hT
    have k : isBb ((⟨#[226]⟩ : ByteArray).data.toList ++ (⟨#[172]⟩ : ByteArray).data.toList) (⟨#[226]⟩ : ByteArray).size = true := nt7_yes
    rw [k] at h
    exact h
theorem nt_HW1 : ∀ w : World, Calls Tryd.prog 42 #[.int .i32 2048] w fun e w' => e = .returned (.int .i64 3) ∧ w = w' := fun w => by
    have h := utfWidth 2048 w
    rw [w800] at h
    exact h
theorem nt_HW2 : ∀ w : World, Calls Tryd.prog 42 #[.int .i32 57343] w fun e w' => e = .returned (.int .i64 0) ∧ w = w' := fun w => by
    have h := utfWidth 57343 w
    rw [wdfff] at h
    exact h

set_option maxRecDepth 100000 in
set_option maxHeartbeats 1000000 in
theorem namesU_walk (w : World) (hT : Lib.Utf8Tabs 0 1 w) :
    Calls Tryd.prog 19 #[] w fun e w' => e = .returned (.bool true) ∧ Below w.heap.size w w' := by
  have HT := Lib.hid hT
  have HF := Lib.hid (fun w hT => alive_yes w hT)
  clear hT
  have HA := Lib.hid nt_HA
  have HB := Lib.hid nt_HB
  have HV := Lib.hid nt_HV
  have HN := Lib.hid nt_HN
  have HC := Lib.hid nt_HC
  have HX := Lib.hid nt_HX
  have HB1 := Lib.hid nt_HB1
  have HB2 := Lib.hid nt_HB2
  have HJ1 := Lib.hid nt_HJ1
  have HJ2 := Lib.hid nt_HJ2
  have HW1 := Lib.hid nt_HW1
  have HW2 := Lib.hid nt_HW2
  go_enter Tryd.func19, Tryd.ntmps19
  go_wp2_with fail
  refine (HF.out _ HT.out).mono ?_
  rintro e w1 ⟨rfl, hb1⟩
  go_wp2_with fail
  refine (HA.out _).mono ?_
  rintro e w2 ⟨rfl, rfl⟩
  have hb2 := hb1.alloc hb1.size (.cells #[.int .i32 8364, .int .i32 97, .int .i32 1114111] 21)
  have hB := HB.out (w1.alloc (.cells #[.int .i32 8364, .int .i32 97, .int .i32 1114111] 21))
  rw [World.size_alloc] at hB
  have hB := Lib.hid hB
  go_wp2_with fail
  refine hB.out.mono ?_
  rintro e w3 ⟨rfl, rfl⟩
  have hb3 := hb2.alloc hb2.size (.cells #[.int .i32 8364, .int .i32 55296] 21)
  go_wp2_with fail
  refine (HV.out _).mono ?_
  rintro e w4 ⟨rfl, hc4⟩
  have hb4 := hb3.trans (hc4.mono hb3.size)
  have hb40 := hb4.alloc hb4.size (.cells #[.int .i64 2, .int .i64 1] 82)
  go_wp2_with fail
  refine (HN.out _).mono ?_
  rintro e w5 ⟨rfl, hc5⟩
  have hb5 := hb40.trans (hc5.mono hb40.size)
  go_wp2_with fail
  refine (HC.out _).mono ?_
  rintro e w6 ⟨rfl, hc6⟩
  have hb6 := hb5.trans (hc6.mono hb5.size)
  go_wp2_with fail
  refine (HX.out _ (Utf8Tabs_below HT.out hb6)).mono ?_
  rintro e w7 ⟨rfl, hc7⟩
  have hb7 := hb6.trans (hc7.mono hb6.size)
  go_wp2_with fail
  refine (HB1.out _ (Utf8Tabs_below HT.out hb7)).mono ?_
  rintro e w8 ⟨rfl, hc8⟩
  have hb8 := hb7.trans (hc8.mono hb7.size)
  go_wp2_with fail
  refine (HB2.out _ (Utf8Tabs_below HT.out hb8)).mono ?_
  rintro e w9 ⟨rfl, hc9⟩
  have hb9 := hb8.trans (hc9.mono hb8.size)
  go_wp2_with fail
  refine (HJ1.out _ (Utf8Tabs_below HT.out hb9)).mono ?_
  rintro e w10 ⟨rfl, hc10⟩
  have hb10 := hb9.trans (hc10.mono hb9.size)
  go_wp2_with fail
  refine (HJ2.out _ (Utf8Tabs_below HT.out hb10)).mono ?_
  rintro e w11 ⟨rfl, hc11⟩
  have hb11 := hb10.trans (hc11.mono hb10.size)
  go_wp2_with fail
  refine (HW1.out _).mono ?_
  rintro e w12 ⟨rfl, rfl⟩
  go_wp2_with fail
  refine (HW2.out _).mono ?_
  rintro e w13 ⟨rfl, rfl⟩
  go_wp2_with fail
  go_ret
  exact ⟨by first | rfl | simp, hb11⟩
end Go.Proofs.YtkenffbonnbflaaDoor
