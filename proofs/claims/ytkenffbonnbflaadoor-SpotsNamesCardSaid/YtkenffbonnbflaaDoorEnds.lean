/- Walks: guiselaw1.same, guiselaw1.UtfEnds: texts of at most 1048576 bytes, under the two tables of unicode/utf8. -/
import Derived.Test.YtkenffbonnbflaaDoorFirst
import Derived.Test.YtkenffbonnbflaaDoorQuiet
namespace Go.Proofs.YtkenffbonnbflaaDoor
open Go.RowKit
set_option linter.unusedVariables false

set_option maxHeartbeats 1000000 in
theorem same_any (r p n : Int) (b : Bool) (w : World) :
    Calls Tryd.prog 25 #[.agg #[.int .i32 r, .int .i64 n, .bool b], .agg #[.int .i32 r, .int .i64 p, .int .i64 n, .bool b]] w fun e w' => e = .returned (.bool true) ∧ Below w.heap.size w w' := by
  go_enter Tryd.func25, Tryd.ntmps25
  go_wp2_with fail
  go_ret
  exact ⟨by first | rfl | simp, ((Below.refl _ w).alloc (Nat.le_refl _) _).alloc (by simp) _⟩
theorem nS_pos (s : ByteArray) (h : 0 < s.size) : 0 < nS s := spotsAt_pos 0 s.data.toList (by intro e; have := congrArg List.length e; rw [toList_len] at this; simp only [List.length_nil] at this; omega)
theorem nS_none : nS ⟨#[]⟩ = 0 := by unfold nS sp spots; rw [show (ByteArray.mk #[]).data.toList = [] from rfl, spotsAt_nil]; rfl

set_option maxRecDepth 100000 in
set_option maxHeartbeats 2000000 in
theorem ends_walk (s : ByteArray) (w : World) (hs : s.size ≤ 1048576) (hT : Lib.Utf8Tabs 0 1 w) :
    Calls Tryd.prog 3 #[.string s] w fun e w' => e = .returned (.bool true) ∧ Below w.heap.size w w' := by
  have HT := Lib.hid hT
  clear hT
  by_cases h0 : s.size = 0
  · obtain rfl := empty_size s h0
    go_enter Tryd.func3, Tryd.ntmps3
    go_wp2_with fail
    refine (Spots_is _ _ (by decide)).mono ?_
    rintro e w1 ⟨⟨A, c, rfl, hA⟩, hb1⟩
    rw [nS_none]
    clear hA
    go_wp2_with fail
    refine (First_none _).mono ?_
    rintro e w2 ⟨rfl, hb2⟩
    unfold noneV
    go_wp2_with fail
    refine (Last_none _).mono ?_
    rintro e w3 ⟨rfl, hb3⟩
    unfold noneV
    have B4 : Blk w3 w2.heap.size 25 #[.int .i32 0, .int .i64 0, .bool false] := (Blk.new w2 _ _).below hb3
    have hb13 : Below w.heap.size w w3 := hb1.trans ((hb2.trans ((((Below.refl _ w2).alloc (Nat.le_refl _) _).trans (hb3.mono (by simp))).mono hb2.size)).mono hb1.size)
    have hlt4 := B4.lt
    clear hb3
    go_wp2_with (first
      | (go_at_call 24; refine (alive_yes _ (Utf8Tabs_below HT.out (hb13.alloc (hb13.size) _))).mono ?_; rintro e w4 ⟨rfl, hb4⟩; have B4' := (B4.alloc (.cells #[.int .i32 0, .int .i64 0, .bool false] 25)).below hb4; have B6 := (Blk.new w3 25 #[.int .i32 0, .int .i64 0, .bool false]).below hb4; have c0 := B4'.cell 0; have c1 := B4'.cell 1; have c2 := B4'.cell 2; have d0 := B6.cell 0; have d1 := B6.cell 1; have d2 := B6.cell 2; simp at c0 c1 c2 d0 d1 d2))
    go_ret
    exact ⟨by first | rfl | simp, (hb13.alloc hb13.size _).trans (hb4.mono (by simp; have := hb13.size; omega))⟩
  · have h1 : 0 < s.size := by omega
    have hpos := nS_pos s h1
    have hns := nS_le s
    obtain ⟨m, hm⟩ : ∃ m, nS s = m + 1 := ⟨nS s - 1, by omega⟩
    go_enter Tryd.func3, Tryd.ntmps3
    go_wp2_with fail
    refine (Spots_is _ _ hs).mono ?_
    rintro e w1 ⟨⟨A, c, rfl, hA⟩, hb1⟩
    obtain ⟨g, x, rfl, hg, hx, hxp, _, x0, x1, x2, x3⟩ := hA.at 0 hpos
    obtain ⟨g', y, hgg, _, hy, _, _, y0, y1, y2, y3⟩ := hA.at m (by omega)
    obtain rfl : g = g' := by cases hgg; rfl
    have hxd : Utf8.decode s 0 = (x.r, x.n) := by
      obtain ⟨e1, e2, _, _⟩ := spot_dec s.data.toList 0 x hx
      have e3 := Lib.decodeL_drop s 0
      have e4 : x.pos = 0 := by rw [hxp, bAt_nil]
      rw [e4] at e1
      rw [← e3]
      have a := congrArg Spt.r e1
      have b := congrArg Spt.n e1
      show (Lib.decodeL _) = _
      rw [a, b]
      rfl
    have hxb : x.bad = isBad (x.r, x.n) := by
      obtain ⟨e1, e2, _, _⟩ := spot_dec s.data.toList 0 x hx
      have e3 := Lib.decodeL_drop s 0
      have e4 : x.pos = 0 := by rw [hxp, bAt_nil]
      rw [e4] at e1
      have a := congrArg Spt.bad e1
      rw [← hxd, ← e3]
      exact a
    obtain ⟨hyd, _, hyb⟩ := last_dec s.data.toList m y (by unfold nS sp at hm; exact hm) hy
    obtain ⟨xr1, xr2, xr3, xr4⟩ := sp_range s x (List.mem_of_getElem? hx)
    obtain ⟨yr1, yr2, yr3, yr4⟩ := sp_range s y (List.mem_of_getElem? hy)
    have HF := Lib.hid (First_some s w1 h1 x.r x.n hxd (Utf8Tabs_below HT.out hb1))
    have HL := Lib.hid (fun w hT => Last_some s w h1 y.r y.n hyd yr1 yr3 (by omega) hT)
    rw [← hxb] at HF
    rw [← hyb] at HL
    have Hm := Lib.hid hm
    clear hA hxd hxb hyd hyb hx hy hxp hgg
    go_wp2_with fail
    refine HF.out.mono ?_
    rintro e w2 ⟨rfl, hb2⟩
    unfold utfV
    go_wp2_with fail
    refine (HL.out _ (Utf8Tabs_below (Utf8Tabs_below HT.out (hb1.trans (hb2.mono hb1.size))) ((Below.refl _ w2).alloc (Nat.le_refl _) _))).mono ?_
    rintro e w3 ⟨rfl, hb3⟩
    unfold utfV
    have B4 : Blk w3 w2.heap.size 25 #[.int .i32 (x.r : Int), .int .i64 (x.n : Int), .bool x.bad] := (Blk.new w2 _ _).below hb3
    have hb13 : Below w1.heap.size w1 w3 := (hb2.trans ((((Below.refl _ w2).alloc (Nat.le_refl _) _).trans (hb3.mono (by simp))).mono hb2.size))
    have hlt4 := B4.lt
    have hs1 := hb1.size
    have hs13 := hb13.size
    clear hb3
    go_wp2_with (first
      | (go_at_call 24; refine (alive_yes _ (Utf8Tabs_below (Utf8Tabs_below HT.out (hb1.trans (hb13.mono hs1))) ((Below.refl _ w3).alloc (Nat.le_refl _) _))).mono ?_; rintro e w4 ⟨rfl, hb4⟩))
    have B4' := (B4.alloc (.cells #[.int .i32 (y.r : Int), .int .i64 (y.n : Int), .bool y.bad] 25)).below hb4
    have B6 := (Blk.new w3 25 #[.int .i32 (y.r : Int), .int .i64 (y.n : Int), .bool y.bad]).below hb4
    have hb14 : Below w1.heap.size w1 w4 := (hb13.alloc hs13 _).trans (hb4.mono (by simp; omega))
    have c0 := B4'.cell 0
    have c1 := B4'.cell 1
    have c2 := B4'.cell 2
    have d0 := B6.cell 0
    have d1 := B6.cell 1
    have d2 := B6.cell 2
    simp only [List.getElem?_toArray, List.getElem?_cons_succ, List.getElem?_cons_zero] at c0 c1 c2 d0 d1 d2
    have q4 := B4'.lt
    have q6 := B6.lt
    have q1 : g < w4.heap.size := by have := hb14.size; omega
    have x0' := (hb14.cell (p := ⟨g, 0 * 4, none⟩) hg).trans x0
    have x1' := (hb14.cell (p := ⟨g, 0 * 4 + 1, none⟩) hg).trans x1
    have x2' := (hb14.cell (p := ⟨g, 0 * 4 + 2, none⟩) hg).trans x2
    have x3' := (hb14.cell (p := ⟨g, 0 * 4 + 3, none⟩) hg).trans x3
    have y0' := (hb14.cell (p := ⟨g, m * 4, none⟩) hg).trans y0
    have y1' := (hb14.cell (p := ⟨g, m * 4 + 1, none⟩) hg).trans y1
    have y2' := (hb14.cell (p := ⟨g, m * 4 + 2, none⟩) hg).trans y2
    have y3' := (hb14.cell (p := ⟨g, m * 4 + 3, none⟩) hg).trans y3
    simp only [Nat.zero_mul, Nat.zero_add] at x0' x1' x2' x3'
    clear hb4 B4 B4' B6 x0 x1 x2 x3 y0 y1 y2 y3
    go_wp2_with fail
    refine wp_region_below (by kernel_rfl) (by kernel_rfl) ?_
    repeat (first
      | go_big_quiet_skip
      | (go_big_quiet_want; go_big_quiet_op; first
          | go_big_quiet_on
          | (refine ⟨_, fun _ _ => rfl, ?_⟩; go_big_quiet_on)
          | (apply Exists.intro
             refine ⟨fun w0 hC0 => ?_, ?_⟩
             · (go_at_call 25
                refine (same_any _ _ _ _ w0).mono ?_
                rintro e w8 ⟨rfl, hb8⟩
                exact ⟨rfl, hC0.trans (hb8.mono hC0.size)⟩)
             go_big_quiet_on)
          | (apply Exists.intro
             refine ⟨fun w0 hC0 => ?_, ?_⟩
             · (have c0 := (hC0.cell (p := ⟨w2.heap.size, 0, none⟩) q4).trans c0
                have c1 := (hC0.cell (p := ⟨w2.heap.size, 1, none⟩) q4).trans c1
                have c2 := (hC0.cell (p := ⟨w2.heap.size, 2, none⟩) q4).trans c2
                have d0 := (hC0.cell (p := ⟨w3.heap.size, 0, none⟩) q6).trans d0
                have d1 := (hC0.cell (p := ⟨w3.heap.size, 1, none⟩) q6).trans d1
                have d2 := (hC0.cell (p := ⟨w3.heap.size, 2, none⟩) q6).trans d2
                have x0' := (hC0.cell (p := ⟨g, 0, none⟩) q1).trans x0'
                have x1' := (hC0.cell (p := ⟨g, 1, none⟩) q1).trans x1'
                have x2' := (hC0.cell (p := ⟨g, 2, none⟩) q1).trans x2'
                have x3' := (hC0.cell (p := ⟨g, 3, none⟩) q1).trans x3'
                have y0' := (hC0.cell (p := ⟨g, m * 4, none⟩) q1).trans y0'
                have y1' := (hC0.cell (p := ⟨g, m * 4 + 1, none⟩) q1).trans y1'
                have y2' := (hC0.cell (p := ⟨g, m * 4 + 2, none⟩) q1).trans y2'
                have y3' := (hC0.cell (p := ⟨g, m * 4 + 3, none⟩) q1).trans y3'
                go_simp
                rfl)
             go_big_quiet_on)))
    refine wpQuiet_nil ?_
    intro w8 hb8
    go_wp2_with fail
    go_ret
    exact ⟨by first | rfl | simp, (hb1.trans (hb14.mono hs1)).trans (hb8.mono (by have := hb14.size; omega))⟩
end Go.Proofs.YtkenffbonnbflaaDoor
