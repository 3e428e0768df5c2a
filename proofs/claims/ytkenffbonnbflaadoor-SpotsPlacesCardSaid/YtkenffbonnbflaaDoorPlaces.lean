/- Walk: guiselaw2.SpotsPlaces: every text, number and byte, under the two tables of unicode/utf8. -/
import Derived.Test.YtkenffbonnbflaaDoorSpot
import Derived.Test.YtkenffbonnbflaaDoorNumOf
import Derived.Test.YtkenffbonnbflaaDoorRef2
namespace Go.Proofs.YtkenffbonnbflaaDoor
open Go.RowKit
set_option linter.unusedVariables false

theorem few_yes (s : ByteArray) (w : World) (h : s.size ≤ 400) : Calls Tryd.prog 54 #[.string s] w fun e w' => e = .returned (.bool true) ∧ w = w' := by
  go_enter Tryd.func54, Tryd.ntmps54
  go_wp2
  go_ret
  exact ⟨by simp; omega, rfl⟩
theorem few_no (s : ByteArray) (w : World) (h : 400 < s.size) : Calls Tryd.prog 54 #[.string s] w fun e w' => e = .returned (.bool false) ∧ w = w' := by
  go_enter Tryd.func54, Tryd.ntmps54
  go_wp2
  go_ret
  exact ⟨by simp; omega, rfl⟩

/-- what Of and the reference say of a byte -/
theorem of_both (s : ByteArray) (b : Int) (hm : s.size ≤ 65536) : ∃ (p1 p2 kk : Int) (inb : Bool), (-1 ≤ kk ∧ kk ≤ 9223372036854775807) ∧
    (∀ (w : World) (T gb cb gl cl : Nat), TextIs w T s gb cb gl cl → Calls Tryd.prog 60 #[.pointer (some ⟨T, 0, none⟩), .int .i64 b] w fun e w' => e = .returned (.tuple #[.agg #[.int .i64 p1, .int .i64 p2], .bool inb]) ∧ Below w.heap.size w w') ∧
    (∀ w : World, Calls Tryd.prog 61 #[.string s, .int .i64 b] w fun e w' => e = .returned (.int .i64 kk) ∧ Below w.heap.size w w') ∧
    ((inb = true ∧ 0 ≤ kk ∧ p2 = kk ∧ ∀ w : World, Calls Tryd.prog 59 #[.string s, .int .i64 kk] w fun e w' => e = .returned (.int .i64 p1) ∧ Below w.heap.size w w') ∨ (inb = false ∧ kk = -1 ∧ p1 = 0 ∧ p2 = 0)) := by
  have hns := nS_le s
  by_cases h : b < 0 ∨ (s.size : Int) < b
  · refine ⟨0, 0, -1, false, by omega, fun w T gb cb gl cl ht => Of_no ht b h, fun w => (refOf_no s w b h).mono ?_, .inr ⟨rfl, rfl, rfl, rfl⟩⟩
    rintro e w' ⟨rfl, rfl⟩
    exact ⟨rfl, Below.refl _ _⟩
  · obtain ⟨k, rfl⟩ : ∃ k : Nat, b = (k : Int) := ⟨b.toNat, by omega⟩
    obtain ⟨n, hn⟩ := num_is s k
    have hnn := hn.1
    refine ⟨(bAt s n : Int), (n : Int), (n : Int), true, by omega, fun w T gb cb gl cl ht => Of_yes ht k n hn (by omega), fun w => refOf_yes s w k n hn (by omega) (by omega), .inl ⟨rfl, by omega, rfl, fun w => refByte s w n hn.1 (by omega)⟩⟩

theorem below_dn2 {B : Nat} {a w : World} (h : Below B a w) (n : Nat) : Below B a (w.drewN n) := h.trans ⟨rfl, rfl, rfl, Nat.le_refl _, fun _ _ => rfl⟩
set_option maxRecDepth 100000 in
set_option maxHeartbeats 8000000 in
theorem places_walk (s : ByteArray) (n b : Int) (w : World) (hx : s.size ≤ 9223372036854775807) (hn : -9223372036854775808 ≤ n ∧ n ≤ 9223372036854775807) (hb : -9223372036854775808 ≤ b ∧ b ≤ 9223372036854775807) (hT : Lib.Utf8Tabs 0 1 w) :
    Calls Tryd.prog 11 #[.string s, .int .i64 n, .int .i64 b] w fun e w' => e = .returned (.bool true) ∧ Below w.heap.size w w' := by
  have HU := Lib.hid hT
  clear hT
  by_cases hm : s.size ≤ 65536
  · by_cases hf : s.size ≤ 400
    · have hns := nS_le s
      obtain ⟨p1, p2, kk, inb, hkk, hO, hrO, hcb⟩ := of_both s b hm
      have HO := Lib.hid hO
      have HRO := Lib.hid hrO
      have Hcb := Lib.hid hcb
      clear hO hrO hcb
      go_enter Tryd.func11, Tryd.ntmps11
      go_wp2_with fail
      refine (begun_ok s _ hm).mono ?_
      rintro e w1 ⟨⟨T, gb, cb, gl, cl, rfl, ht⟩, hb1⟩
      have HT := Lib.hid ht
      clear ht
      go_wp2_with (go_at_call 54; refine (few_yes s _ hf).mono ?_; rintro e w' ⟨rfl, rfl⟩)
      refine (Spots_is s _ (by omega)).mono ?_
      rintro e w2 ⟨⟨A, c, rfl, hA⟩, hb2⟩
      have hb12 := hb1.trans (hb2.mono hb1.size)
      have h2 := Lib.hid (HT.out.below hb2)
      have HSt := Lib.hid (String_any h2.out)
      have HCt := Lib.hid (Count_any h2.out)
      have HA := Lib.hid hA
      clear hA
      go_wp2_with (first
        | (go_at_call 55; refine HSt.out.mono ?_; rintro e w' ⟨rfl, rfl⟩)
        | (go_at_call 56; refine HCt.out.mono ?_; rintro e w' ⟨rfl, rfl⟩))
      by_cases hno : n < 0 ∨ (nS s : Int) < n
      · have HP := Lib.hid (Place_no h2.out n hno)
        have HS := Lib.hid (fun w (h : TextIs w T s gb cb gl cl) => Spot_no h n (by omega))
        refine HP.out.mono ?_
        rintro e w3 ⟨rfl, hb3⟩
        go_wp2_with fail
        refine (HS.out _ (h2.out.below (hb3.alloc hb3.size _))).mono ?_
        rintro e w4 ⟨rfl, hb4⟩
        have hb24 : Below w2.heap.size w2 w4 := (hb3.alloc hb3.size _).trans (hb4.mono (by simp; have := hb3.size; omega))
        have B11 : Blk w4 w3.heap.size 82 #[.int .i64 0, .int .i64 0] := (Blk.new w3 _ _).below hb4
        have a0 := B11.cell 0
        have a1 := B11.cell 1
        have q1 := B11.lt
        simp only [List.getElem?_toArray, List.getElem?_cons_succ, List.getElem?_cons_zero] at a0 a1
        unfold noneV
        clear hb3 hb4
        rcases Int.lt_or_le n 0 with h0 | h0
        · clear hno
          have t1 : decide (0 ≤ n) = false := by rw [decide_eq_false_iff_not]; omega
          go_wp2_with fail
          go_quiet (fail)
          have hb28 := below_dn2 (hb24.alloc hb24.size (.cells #[.int .i32 0, .int .i64 0, .bool false] 25)) nq
          generalize (w4.alloc (.cells #[.int .i32 0, .int .i64 0, .bool false] 25)).drewN nq = w8 at hb28 ⊢
          clear a0 a1 q1 B11 hb24
          go_wp2_with fail
          refine (HO.out _ T gb cb gl cl (h2.out.below hb28)).mono ?_
          rintro e w9 ⟨rfl, hb9⟩
          go_wp2_with fail
          refine (HRO.out _).mono ?_
          rintro e w10 ⟨rfl, hb10⟩
          have B15 : Blk w10 w9.heap.size 82 #[.int .i64 p1, .int .i64 p2] := (Blk.new w9 _ _).below hb10
          have hb29 := hb28.trans (hb9.mono hb28.size)
          have hb210 : Below w2.heap.size w2 w10 := (hb29.alloc hb29.size _).trans (hb10.mono (by simp; have := hb29.size; omega))
          have hbw := hb12.trans (hb210.mono hb12.size)
          have z0 := B15.cell 0
          have z1 := B15.cell 1
          have q15 := B15.lt
          simp only [List.getElem?_toArray, List.getElem?_cons_succ, List.getElem?_cons_zero] at z0 z1
          clear hb9 hb10 hb28 hb29 B15
          rcases Hcb.out with ⟨rfl, hk0, rfl, HBy2⟩ | ⟨rfl, rfl, rfl, rfl⟩
          · have HBy2 := Lib.hid HBy2
            have t9 : decide (p2 < 0) = false := by rw [decide_eq_false_iff_not]; omega
            clear Hcb
            go_wp2_with fail
            refine wp_region_below (by kernel_rfl) (by kernel_rfl) ?_
            repeat (first
              | go_big_quiet_skip
              | (go_big_quiet_want; go_big_quiet_op; first
                  | go_big_quiet_on
                  | (refine ⟨_, fun _ _ => rfl, ?_⟩; go_big_quiet_on)
                  | (apply Exists.intro
                     refine ⟨fun w0 hC0 => ?_, ?_⟩
                     · (refine (HBy2.out w0).mono ?_
                        rintro e w8 ⟨rfl, hb8⟩
                        exact ⟨rfl, hC0.trans (hb8.mono hC0.size)⟩)
                     go_big_quiet_on)
                  | (apply Exists.intro
                     refine ⟨fun w0 hC0 => ?_, ?_⟩
                     · (have y0 := (hC0.cell (p := ⟨w9.heap.size, 0, none⟩) q15).trans z0
                        have y1 := (hC0.cell (p := ⟨w9.heap.size, 1, none⟩) q15).trans z1
                        go_simp
                        rfl)
                     go_big_quiet_on)))
            refine wpQuiet_nil ?_
            intro w11 hb11
            go_wp2_with fail
            go_ret
            exact ⟨by first | rfl | simp, hbw.trans (hb11.mono hbw.size)⟩
          · clear Hcb
            go_wp2_with fail
            go_ret
            exact ⟨by first | rfl | simp, hbw⟩
        · have h1 : (nS s : Int) < n := by omega
          clear hno
          have t1 : decide (0 ≤ n) = true := by rw [decide_eq_true_iff]; omega
          have t2 : decide (n ≤ (nS s : Int)) = false := by rw [decide_eq_false_iff_not]; omega
          have t3 : decide (n < (nS s : Int)) = false := by rw [decide_eq_false_iff_not]; omega
          go_wp2_with fail
          go_quiet (fail)
          have hb28 := below_dn2 (hb24.alloc hb24.size (.cells #[.int .i32 0, .int .i64 0, .bool false] 25)) nq
          generalize (w4.alloc (.cells #[.int .i32 0, .int .i64 0, .bool false] 25)).drewN nq = w8 at hb28 ⊢
          clear a0 a1 q1 B11 hb24
          go_wp2_with fail
          refine (HO.out _ T gb cb gl cl (h2.out.below hb28)).mono ?_
          rintro e w9 ⟨rfl, hb9⟩
          go_wp2_with fail
          refine (HRO.out _).mono ?_
          rintro e w10 ⟨rfl, hb10⟩
          have B15 : Blk w10 w9.heap.size 82 #[.int .i64 p1, .int .i64 p2] := (Blk.new w9 _ _).below hb10
          have hb29 := hb28.trans (hb9.mono hb28.size)
          have hb210 : Below w2.heap.size w2 w10 := (hb29.alloc hb29.size _).trans (hb10.mono (by simp; have := hb29.size; omega))
          have hbw := hb12.trans (hb210.mono hb12.size)
          have z0 := B15.cell 0
          have z1 := B15.cell 1
          have q15 := B15.lt
          simp only [List.getElem?_toArray, List.getElem?_cons_succ, List.getElem?_cons_zero] at z0 z1
          clear hb9 hb10 hb28 hb29 B15
          rcases Hcb.out with ⟨rfl, hk0, rfl, HBy2⟩ | ⟨rfl, rfl, rfl, rfl⟩
          · have HBy2 := Lib.hid HBy2
            have t9 : decide (p2 < 0) = false := by rw [decide_eq_false_iff_not]; omega
            clear Hcb
            go_wp2_with fail
            refine wp_region_below (by kernel_rfl) (by kernel_rfl) ?_
            repeat (first
              | go_big_quiet_skip
              | (go_big_quiet_want; go_big_quiet_op; first
                  | go_big_quiet_on
                  | (refine ⟨_, fun _ _ => rfl, ?_⟩; go_big_quiet_on)
                  | (apply Exists.intro
                     refine ⟨fun w0 hC0 => ?_, ?_⟩
                     · (refine (HBy2.out w0).mono ?_
                        rintro e w8 ⟨rfl, hb8⟩
                        exact ⟨rfl, hC0.trans (hb8.mono hC0.size)⟩)
                     go_big_quiet_on)
                  | (apply Exists.intro
                     refine ⟨fun w0 hC0 => ?_, ?_⟩
                     · (have y0 := (hC0.cell (p := ⟨w9.heap.size, 0, none⟩) q15).trans z0
                        have y1 := (hC0.cell (p := ⟨w9.heap.size, 1, none⟩) q15).trans z1
                        go_simp
                        rfl)
                     go_big_quiet_on)))
            refine wpQuiet_nil ?_
            intro w11 hb11
            go_wp2_with fail
            go_ret
            exact ⟨by first | rfl | simp, hbw.trans (hb11.mono hbw.size)⟩
          · clear Hcb
            go_wp2_with fail
            go_ret
            exact ⟨by first | rfl | simp, hbw⟩
      · obtain ⟨k, rfl⟩ : ∃ k : Nat, n = (k : Int) := ⟨n.toNat, by omega⟩
        have hk : k ≤ nS s := by omega
        have HP := Lib.hid (Place_yes h2.out k hk)
        have HBy := Lib.hid (fun w => refByte s w k hk (by omega))
        clear hno
        rcases Nat.lt_or_ge k (nS s) with hlt | hge
        · obtain ⟨g, x, rfl, hg, hx0, hp, hpn, x0, x1, x2, x3⟩ := HA.out.at k hlt
          have HS := Lib.hid (fun w (h : TextIs w T s gb cb gl cl) hT => Spot_yes h k x hx0 hT)
          have hxr := sp_range s x (List.mem_of_getElem? hx0)
          clear hx0 hp hpn x1
          refine HP.out.mono ?_
          rintro e w3 ⟨rfl, hb3⟩
          go_wp2_with fail
          refine (HS.out _ (h2.out.below (hb3.alloc hb3.size _)) (Utf8Tabs_below HU.out (hb12.trans ((hb3.alloc hb3.size _).mono hb12.size)))).mono ?_
          rintro e w4 ⟨rfl, hb4⟩
          have hb24 : Below w2.heap.size w2 w4 := (hb3.alloc hb3.size _).trans (hb4.mono (by simp; have := hb3.size; omega))
          have B11 : Blk w4 w3.heap.size 82 #[.int .i64 (bAt s k : Int), .int .i64 (k : Int)] := (Blk.new w3 _ _).below hb4
          have B13 := (Blk.new w4 25 #[.int .i32 (x.r : Int), .int .i64 (x.n : Int), .bool x.bad])
          have B11' := B11.alloc (.cells #[.int .i32 (x.r : Int), .int .i64 (x.n : Int), .bool x.bad] 25)
          have hb25 := hb24.alloc hb24.size (.cells #[.int .i32 (x.r : Int), .int .i64 (x.n : Int), .bool x.bad] 25)
          have q11 := B11.lt
          have i1 : (0 : Int) ≤ (k : Int) := by omega
          have i2 : (k : Int) < (nS s : Int) := by omega
          have i3 : k ≤ nS s := by omega
          unfold utfV
          clear hb3 hb4
          go_wp2_with fail
          generalize w4.alloc (.cells #[.int .i32 (x.r : Int), .int .i64 (x.n : Int), .bool x.bad] 25) = w5 at *
          have a0 := B11'.cell 0
          have a1 := B11'.cell 1
          have d0 := B13.cell 0
          have d1 := B13.cell 1
          have d2 := B13.cell 2
          simp only [List.getElem?_toArray, List.getElem?_cons_succ, List.getElem?_cons_zero] at a0 a1 d0 d1 d2
          have x0' := (hb25.cell (p := ⟨g, k * 4, none⟩) hg).trans x0
          have x2' := (hb25.cell (p := ⟨g, k * 4 + 2, none⟩) hg).trans x2
          have x3' := (hb25.cell (p := ⟨g, k * 4 + 3, none⟩) hg).trans x3
          have qg : g < w5.heap.size := by have := hb25.size; omega
          have q1 := B11'.lt
          have q2 := B13.lt
          clear x0 x2 x3 B11 B11' B13
          refine wp_region_below (by kernel_rfl) (by kernel_rfl) ?_
          repeat (first
            | go_big_quiet_skip
            | (go_big_quiet_want; go_big_quiet_op; first
                | go_big_quiet_on
                | (refine ⟨_, fun _ _ => rfl, ?_⟩; go_big_quiet_on)
                | (apply Exists.intro
                   refine ⟨fun w0 hC0 => ?_, ?_⟩
                   · (refine (HBy.out w0).mono ?_
                      rintro e w8 ⟨rfl, hb8⟩
                      exact ⟨rfl, hC0.trans (hb8.mono hC0.size)⟩)
                   go_big_quiet_on)
                | (apply Exists.intro
                   refine ⟨fun w0 hC0 => ?_, ?_⟩
                   · (have c0 := (hC0.cell (p := ⟨w3.heap.size, 0, none⟩) q1).trans a0
                      have c1 := (hC0.cell (p := ⟨w3.heap.size, 1, none⟩) q1).trans a1
                      have c2 := (hC0.cell (p := ⟨w4.heap.size, 0, none⟩) q2).trans d0
                      have c3 := (hC0.cell (p := ⟨w4.heap.size, 1, none⟩) q2).trans d1
                      have c4 := (hC0.cell (p := ⟨w4.heap.size, 2, none⟩) q2).trans d2
                      have c5 := (hC0.cell (p := ⟨g, k * 4, none⟩) qg).trans x0'
                      have c6 := (hC0.cell (p := ⟨g, k * 4 + 2, none⟩) qg).trans x2'
                      have c7 := (hC0.cell (p := ⟨g, k * 4 + 3, none⟩) qg).trans x3'
                      go_simp
                      rfl)
                   go_big_quiet_on)))
          refine wpQuiet_nil ?_
          intro w8 hb8
          have hb28 := hb25.trans (hb8.mono hb25.size)
          clear a0 a1 d0 d1 d2 x0' x2' x3' q1 q2 q11 qg hb8
          go_wp2_with fail
          refine (HO.out _ T gb cb gl cl (h2.out.below hb28)).mono ?_
          rintro e w9 ⟨rfl, hb9⟩
          go_wp2_with fail
          refine (HRO.out _).mono ?_
          rintro e w10 ⟨rfl, hb10⟩
          have B15 : Blk w10 w9.heap.size 82 #[.int .i64 p1, .int .i64 p2] := (Blk.new w9 _ _).below hb10
          have hb29 := hb28.trans (hb9.mono hb28.size)
          have hb210 : Below w2.heap.size w2 w10 := (hb29.alloc hb29.size _).trans (hb10.mono (by simp; have := hb29.size; omega))
          have hbw := hb12.trans (hb210.mono hb12.size)
          have z0 := B15.cell 0
          have z1 := B15.cell 1
          have q15 := B15.lt
          simp only [List.getElem?_toArray, List.getElem?_cons_succ, List.getElem?_cons_zero] at z0 z1
          clear hb9 hb10 hb28 hb29 B15
          rcases Hcb.out with ⟨rfl, hk0, rfl, HBy2⟩ | ⟨rfl, rfl, rfl, rfl⟩
          · have HBy2 := Lib.hid HBy2
            have t9 : decide (p2 < 0) = false := by rw [decide_eq_false_iff_not]; omega
            clear Hcb
            go_wp2_with fail
            refine wp_region_below (by kernel_rfl) (by kernel_rfl) ?_
            repeat (first
              | go_big_quiet_skip
              | (go_big_quiet_want; go_big_quiet_op; first
                  | go_big_quiet_on
                  | (refine ⟨_, fun _ _ => rfl, ?_⟩; go_big_quiet_on)
                  | (apply Exists.intro
                     refine ⟨fun w0 hC0 => ?_, ?_⟩
                     · (refine (HBy2.out w0).mono ?_
                        rintro e w8 ⟨rfl, hb8⟩
                        exact ⟨rfl, hC0.trans (hb8.mono hC0.size)⟩)
                     go_big_quiet_on)
                  | (apply Exists.intro
                     refine ⟨fun w0 hC0 => ?_, ?_⟩
                     · (have y0 := (hC0.cell (p := ⟨w9.heap.size, 0, none⟩) q15).trans z0
                        have y1 := (hC0.cell (p := ⟨w9.heap.size, 1, none⟩) q15).trans z1
                        go_simp
                        rfl)
                     go_big_quiet_on)))
            refine wpQuiet_nil ?_
            intro w11 hb11
            go_wp2_with fail
            go_ret
            exact ⟨by first | rfl | simp, hbw.trans (hb11.mono hbw.size)⟩
          · clear Hcb
            go_wp2_with fail
            go_ret
            exact ⟨by first | rfl | simp, hbw⟩
        · obtain rfl : k = nS s := by omega
          have HS := Lib.hid (fun w (h : TextIs w T s gb cb gl cl) => Spot_no h (nS s : Int) (by omega))
          refine HP.out.mono ?_
          rintro e w3 ⟨rfl, hb3⟩
          go_wp2_with fail
          refine (HS.out _ (h2.out.below (hb3.alloc hb3.size _))).mono ?_
          rintro e w4 ⟨rfl, hb4⟩
          have hb24 : Below w2.heap.size w2 w4 := (hb3.alloc hb3.size _).trans (hb4.mono (by simp; have := hb3.size; omega))
          have B11 : Blk w4 w3.heap.size 82 #[.int .i64 (bAt s (nS s) : Int), .int .i64 (nS s : Int)] := (Blk.new w3 _ _).below hb4
          have B11' := B11.alloc (.cells #[.int .i32 0, .int .i64 0, .bool false] 25)
          have hb25 := hb24.alloc hb24.size (.cells #[.int .i32 0, .int .i64 0, .bool false] 25)
          have q11 := B11.lt
          have i1 : (0 : Int) ≤ (nS s : Int) := by omega
          unfold noneV
          clear hb3 hb4
          go_wp2_with fail
          generalize w4.alloc (.cells #[.int .i32 0, .int .i64 0, .bool false] 25) = w5 at *
          have a0 := B11'.cell 0
          have a1 := B11'.cell 1
          simp only [List.getElem?_toArray, List.getElem?_cons_succ, List.getElem?_cons_zero] at a0 a1
          have q1 := B11'.lt
          clear B11 B11'
          refine wp_region_below (by kernel_rfl) (by kernel_rfl) ?_
          repeat (first
            | go_big_quiet_skip
            | (go_big_quiet_want; go_big_quiet_op; first
                | go_big_quiet_on
                | (refine ⟨_, fun _ _ => rfl, ?_⟩; go_big_quiet_on)
                | (apply Exists.intro
                   refine ⟨fun w0 hC0 => ?_, ?_⟩
                   · (refine (HBy.out w0).mono ?_
                      rintro e w8 ⟨rfl, hb8⟩
                      exact ⟨rfl, hC0.trans (hb8.mono hC0.size)⟩)
                   go_big_quiet_on)
                | (apply Exists.intro
                   refine ⟨fun w0 hC0 => ?_, ?_⟩
                   · (have c0 := (hC0.cell (p := ⟨w3.heap.size, 0, none⟩) q1).trans a0
                      have c1 := (hC0.cell (p := ⟨w3.heap.size, 1, none⟩) q1).trans a1
                      go_simp
                      rfl)
                   go_big_quiet_on)))
          refine wpQuiet_nil ?_
          intro w8 hb8
          have hb28 := hb25.trans (hb8.mono hb25.size)
          clear a0 a1 q1 q11 hb8
          go_wp2_with fail
          refine (HO.out _ T gb cb gl cl (h2.out.below hb28)).mono ?_
          rintro e w9 ⟨rfl, hb9⟩
          go_wp2_with fail
          refine (HRO.out _).mono ?_
          rintro e w10 ⟨rfl, hb10⟩
          have B15 : Blk w10 w9.heap.size 82 #[.int .i64 p1, .int .i64 p2] := (Blk.new w9 _ _).below hb10
          have hb29 := hb28.trans (hb9.mono hb28.size)
          have hb210 : Below w2.heap.size w2 w10 := (hb29.alloc hb29.size _).trans (hb10.mono (by simp; have := hb29.size; omega))
          have hbw := hb12.trans (hb210.mono hb12.size)
          have z0 := B15.cell 0
          have z1 := B15.cell 1
          have q15 := B15.lt
          simp only [List.getElem?_toArray, List.getElem?_cons_succ, List.getElem?_cons_zero] at z0 z1
          clear hb9 hb10 hb28 hb29 B15
          rcases Hcb.out with ⟨rfl, hk0, rfl, HBy2⟩ | ⟨rfl, rfl, rfl, rfl⟩
          · have HBy2 := Lib.hid HBy2
            have t9 : decide (p2 < 0) = false := by rw [decide_eq_false_iff_not]; omega
            clear Hcb
            go_wp2_with fail
            refine wp_region_below (by kernel_rfl) (by kernel_rfl) ?_
            repeat (first
              | go_big_quiet_skip
              | (go_big_quiet_want; go_big_quiet_op; first
                  | go_big_quiet_on
                  | (refine ⟨_, fun _ _ => rfl, ?_⟩; go_big_quiet_on)
                  | (apply Exists.intro
                     refine ⟨fun w0 hC0 => ?_, ?_⟩
                     · (refine (HBy2.out w0).mono ?_
                        rintro e w8 ⟨rfl, hb8⟩
                        exact ⟨rfl, hC0.trans (hb8.mono hC0.size)⟩)
                     go_big_quiet_on)
                  | (apply Exists.intro
                     refine ⟨fun w0 hC0 => ?_, ?_⟩
                     · (have y0 := (hC0.cell (p := ⟨w9.heap.size, 0, none⟩) q15).trans z0
                        have y1 := (hC0.cell (p := ⟨w9.heap.size, 1, none⟩) q15).trans z1
                        go_simp
                        rfl)
                     go_big_quiet_on)))
            refine wpQuiet_nil ?_
            intro w11 hb11
            go_wp2_with fail
            go_ret
            exact ⟨by first | rfl | simp, hbw.trans (hb11.mono hbw.size)⟩
          · clear Hcb
            go_wp2_with fail
            go_ret
            exact ⟨by first | rfl | simp, hbw⟩
    · go_enter Tryd.func11, Tryd.ntmps11
      go_wp2_with fail
      refine (begun_ok s _ hm).mono ?_
      rintro e w1 ⟨⟨T, gb, cb, gl, cl, rfl, ht⟩, hb1⟩
      go_wp2_with (first
        | (go_at_call 54; refine (few_no s _ (by omega)).mono ?_; rintro e w' ⟨rfl, rfl⟩))
      go_ret
      exact ⟨rfl, hb1⟩
  · go_enter Tryd.func11, Tryd.ntmps11
    go_wp2_with fail
    refine (begun_long s _ (by omega) hx).mono ?_
    rintro e w1 ⟨rfl, hb1⟩
    go_wp2_with fail
    go_ret
    exact ⟨rfl, hb1⟩
end Go.Proofs.YtkenffbonnbflaaDoor
