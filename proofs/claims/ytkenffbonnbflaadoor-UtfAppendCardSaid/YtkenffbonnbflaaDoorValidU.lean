/- Walk: guiselaw1.UtfValid: texts of at most 1048576 bytes, under the two tables of unicode/utf8. -/
import Derived.Test.YtkenffbonnbflaaDoorRefText
namespace Go.Proofs.YtkenffbonnbflaaDoor
open Go.RowKit
set_option linter.unusedVariables false

theorem ValidRes.one {s : ByteArray} {p1 p2 q1 q2 : Int} {o o' : Bool} (h : ValidRes s p1 p2 o) (k : ValidRes s q1 q2 o') : p1 = q1 ∧ p2 = q2 ∧ o = o' := by
  rcases h with ⟨rfl, rfl, rfl, hg⟩ | ⟨rfl, i, hi, rfl, rfl, hb, hg⟩
  · rcases k with ⟨rfl, rfl, rfl, _⟩ | ⟨rfl, j, hj, rfl, rfl, kb, _⟩
    · exact ⟨rfl, rfl, rfl⟩
    · rw [hg j hj] at kb; cases kb
  · rcases k with ⟨rfl, rfl, rfl, kg⟩ | ⟨rfl, j, hj, rfl, rfl, kb, kg⟩
    · rw [kg i hi] at hb; cases hb
    · have e : i = j := by
        rcases Nat.lt_trichotomy i j with c | c | c
        · rw [kg i c] at hb; cases hb
        · exact c
        · rw [hg j c] at kb; cases kb
      subst e
      exact ⟨rfl, rfl, rfl⟩

set_option maxRecDepth 100000 in
set_option maxHeartbeats 4000000 in
theorem validU_walk (s : ByteArray) (w : World) (hs : s.size ≤ 1048576) (hT : Lib.Utf8Tabs 0 1 w) :
    Calls Tryd.prog 12 #[.string s] w fun e w' => e = .returned (.bool true) ∧ Below w.heap.size w w' := by
  have HT := Lib.hid hT
  have HF := Lib.hid (fun w hT => alive_yes w hT)
  clear hT
  have HV := Lib.hid (fun w => utfValid s w (by omega))
  have HR := Lib.hid (fun w => refValid s w hs)
  have HC := Lib.hid (fun w => utfClean s w (by omega))
  have HD := Lib.hid (fun w => refClean s w hs)
  go_enter Tryd.func12, Tryd.ntmps12
  go_wp2_with fail
  refine (HV.out _).mono ?_
  rintro e w1 ⟨⟨p1, p2, ok, hr1, rfl⟩, hb1⟩
  have Hr1 := Lib.hid hr1
  clear hr1
  go_wp2_with fail
  refine (HR.out _).mono ?_
  rintro e w2 ⟨⟨q1, q2, ok', hr2, rfl⟩, hb2⟩
  obtain ⟨rfl, rfl, rfl⟩ := Hr1.out.one hr2
  have B3 : Blk w2 w1.heap.size 82 #[.int .i64 p1, .int .i64 p2] := (Blk.new w1 _ _).below hb2
  have hb12 : Below w.heap.size w w2 := (hb1.alloc hb1.size _).trans (hb2.mono (by simp; have := hb1.size; omega))
  clear hr2 hb2
  have q3 := B3.lt
  have a0 := B3.cell 0
  have a1 := B3.cell 1
  simp only [List.getElem?_toArray, List.getElem?_cons_succ, List.getElem?_cons_zero] at a0 a1
  cases ok
  all_goals
    go_wp2_with fail
    refine (HF.out _ (Utf8Tabs_below HT.out hb12)).mono ?_
    rintro e w3 ⟨rfl, hb3⟩
    have hb13 := hb12.trans (hb3.mono hb12.size)
    have d0 := (hb3.cell (p := ⟨w1.heap.size, 0, none⟩) q3).trans a0
    have d1 := (hb3.cell (p := ⟨w1.heap.size, 1, none⟩) q3).trans a1
    go_wp2_with fail
    refine (HC.out _).mono ?_
    rintro e w4 ⟨rfl, hb4⟩
    have hb14 := hb13.trans (hb4.mono hb13.size)
    go_wp2_with fail
    refine (HD.out _).mono ?_
    rintro e w5 ⟨rfl, hb5⟩
    go_wp2_with fail
    go_ret
    exact ⟨by first | rfl | simp, hb14.trans (hb5.mono hb14.size)⟩
end Go.Proofs.YtkenffbonnbflaaDoor
