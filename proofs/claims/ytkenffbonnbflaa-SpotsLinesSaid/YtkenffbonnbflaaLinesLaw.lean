/- Walk: guiselaw2.SpotsLines. -/
import Derived.Test.YtkenffbonnbflaaNum
import Derived.Test.YtkenffbonnbflaaRef2b
import Derived.Test.YtkenffbonnbflaaWhole
namespace Go.Proofs.Ytkenffbonnbflaa
open Go.RowKit
set_option linter.unusedVariables false

theorem few_yes (s : ByteArray) (w : World) (h : s.size ≤ 400) : Calls Try.prog 13 #[.string s] w fun e w' => e = .returned (.bool true) ∧ w = w' := by
  go_enter Try.func13, Try.ntmps13
  go_wp2
  go_ret
  exact ⟨by simp; omega, rfl⟩
theorem few_no (s : ByteArray) (w : World) (h : 400 < s.size) : Calls Try.prog 13 #[.string s] w fun e w' => e = .returned (.bool false) ∧ w = w' := by
  go_enter Try.func13, Try.ntmps13
  go_wp2
  go_ret
  exact ⟨by simp; omega, rfl⟩

/-- a region that draws its order, whose operations read old memory only and whose callees write new memory only: one walk of the text's order serves every order -/
theorem wp_region_below {P : Program} {id : Nat} {Q : Exit → Act → World → Prop} {a : Act} {w : World} {l : List Oper} (hm : P.follows .mixedOrders = true) (hB : Region.lexB .any l.toArray = true)
    (h : wpQuiet P l.toArray (fun w' => Below w.heap.size w w') (fun a' => ∀ w', Below w.heap.size w w' → Q .normal a' w') l a) : (Code.region id l.toArray true).wp P Q a w :=
  wp_region_quiet (C := fun w' => Below w.heap.size w w') hm hB ⟨rfl, rfl, rfl, Nat.le_refl _, fun _ _ => rfl⟩ (by simpa using h)
/-- what Where and the reference say of a byte -/
theorem where_both (s : ByteArray) (b : Int) (hm : s.size ≤ 65536) : ∃ (x1 x2 x3 kk : Int) (inb : Bool), (-9223372036854775808 ≤ kk ∧ kk ≤ 9223372036854775807) ∧
    (∀ (w : World) (T gb cb gl cl : Nat), TextIs w T s gb cb gl cl → Calls Try.prog 29 #[.pointer (some ⟨T, 0, none⟩), .int .i64 b] w fun e w' => e = .returned (.tuple #[.agg #[.int .i64 x1, .int .i64 x2, .int .i64 x3], .bool inb]) ∧ Below w.heap.size w w') ∧
    (∀ w : World, Calls Try.prog 30 #[.string s, .int .i64 b] w fun e w' => e = .returned (.int .i64 kk) ∧ Below w.heap.size w w') ∧
    ((inb = true ∧ 0 ≤ kk ∧ x1 = b ∧ ∀ w : World, Calls Try.prog 31 #[.string s, .int .i64 kk] w fun e w' => e = .returned (.tuple #[.int .i64 x2, .int .i64 x3]) ∧ Below w.heap.size w w') ∨ (inb = false ∧ kk = -1 ∧ x1 = 0 ∧ x2 = 0 ∧ x3 = 0)) := by
  have hns := nS_le s
  by_cases h : b < 0 ∨ (s.size : Int) < b
  · refine ⟨0, 0, 0, -1, false, by omega, fun w T gb cb gl cl ht => Where_no ht b h, fun w => (refOf_no s w b h).mono ?_, .inr ⟨rfl, rfl, rfl, rfl, rfl⟩⟩
    rintro e w' ⟨rfl, rfl⟩
    exact ⟨rfl, Below.refl _ _⟩
  · obtain ⟨k, rfl⟩ : ∃ k : Nat, b = (k : Int) := ⟨b.toNat, by omega⟩
    obtain ⟨n, hn⟩ := num_is s k
    have hnn := hn.1
    exact ⟨(k : Int), (lnOf s n : Int) + 1, (n : Int) - (lAt s (lnOf s n) : Int) + 1, (n : Int), true, by omega, fun w T gb cb gl cl ht => Where_yes ht k n hn (by omega), fun w => refOf_yes s w k n hn (by omega) (by omega),
      .inl ⟨rfl, by omega, rfl, fun w => refWhere s w n hn.1 (by omega)⟩⟩
/-- what Find and the reference say of a line and a column -/
theorem find_both (s : ByteArray) (l c : Int) (hl : -9223372036854775808 ≤ l ∧ l ≤ 9223372036854775807) (hc : -9223372036854775808 ≤ c ∧ c ≤ 9223372036854775807) (hm : s.size ≤ 65536) : ∃ (p1 p2 m : Int) (fnd : Bool), (-9223372036854775808 ≤ m ∧ m ≤ 9223372036854775807) ∧
    (∀ (w : World) (T gb cb gl cl : Nat), TextIs w T s gb cb gl cl → Calls Try.prog 32 #[.pointer (some ⟨T, 0, none⟩), .int .i64 l, .int .i64 c] w fun e w' => e = .returned (.tuple #[.agg #[.int .i64 p1, .int .i64 p2], .bool fnd]) ∧ Below w.heap.size w w') ∧
    (∀ w : World, Calls Try.prog 33 #[.string s, .int .i64 l, .int .i64 c] w fun e w' => e = .returned (.int .i64 m) ∧ Below w.heap.size w w') ∧
    ((fnd = true ∧ 0 ≤ m ∧ p2 = m ∧ ∀ w : World, Calls Try.prog 34 #[.string s, .int .i64 m] w fun e w' => e = .returned (.int .i64 p1) ∧ Below w.heap.size w w') ∨ (fnd = false ∧ m = -1 ∧ p1 = 0 ∧ p2 = 0)) := by
  have hns := nS_le s
  have hnl := nL_le s
  by_cases hno : l < 1 ∨ (nL s : Int) < l ∨ ∃ k : Nat, k < nL s ∧ l = (k : Int) + 1 ∧ (c < 1 ∨ (eAt s k : Int) - (lAt s k : Int) < c - 1)
  · exact ⟨0, 0, -1, false, by omega, fun w T gb cb gl cl ht => Find_no ht l c hl hc hno, fun w => refFind s w l c hl hc (by omega) (-1) (.inr ⟨AtLC.no s l c hno, rfl⟩), .inr ⟨rfl, rfl, rfl, rfl⟩⟩
  · obtain ⟨k, rfl⟩ : ∃ k : Nat, l = (k : Int) + 1 := ⟨(l - 1).toNat, by omega⟩
    have hk : k < nL s := by omega
    have h2 : ¬ (c < 1 ∨ (eAt s k : Int) - (lAt s k : Int) < c - 1) := fun h => hno (.inr (.inr ⟨k, hk, rfl, h⟩))
    obtain ⟨d, rfl⟩ : ∃ d : Nat, c = (d : Int) + 1 := ⟨(c - 1).toNat, by omega⟩
    obtain ⟨e1, e2⟩ := eAt_ge s k hk
    have hd : lAt s k + d ≤ eAt s k := by omega
    exact ⟨(bAt s (lAt s k + d) : Int), ((lAt s k + d : Nat) : Int), ((lAt s k + d : Nat) : Int), true, by omega, fun w T gb cb gl cl ht => Find_yes ht k d hk hd, fun w => refFind s w _ _ hl hc (by omega) _ (.inl ⟨_, by omega, AtLC.yes s k d hk hd, rfl⟩),
      .inl ⟨rfl, by omega, rfl, fun w => refByte s w (lAt s k + d) (by omega) (by omega)⟩⟩
/-- what Line says -/
theorem line_both (s : ByteArray) (l : Int) : ∃ (x : ByteArray) (fine : Bool),
    (∀ (w : World) (T gb cb gl cl : Nat), TextIs w T s gb cb gl cl → Calls Try.prog 26 #[.pointer (some ⟨T, 0, none⟩), .int .i64 l] w fun e w' => e = .returned (.tuple #[.string x, .bool fine]) ∧ ∃ n, w.drewN n = w') ∧
    ((fine = true ∧ ∃ i : Nat, i < nL s ∧ l = (i : Int) + 1 ∧ x = lineS s i) ∨ (fine = false ∧ x = ⟨#[]⟩ ∧ (l < 1 ∨ (nL s : Int) < l))) := by
  by_cases hno : l < 1 ∨ (nL s : Int) < l
  · refine ⟨⟨#[]⟩, false, fun w T gb cb gl cl ht => (Line_no ht l hno).mono ?_, .inr ⟨rfl, rfl, hno⟩⟩
    rintro e w' ⟨rfl, rfl⟩
    exact ⟨rfl, 0, rfl⟩
  · obtain ⟨k, rfl⟩ : ∃ k : Nat, l = (k : Int) + 1 := ⟨(l - 1).toNat, by omega⟩
    refine ⟨lineS s k, true, fun w T gb cb gl cl ht => (Line_yes ht k (by omega)).mono ?_, .inl ⟨rfl, k, by omega, rfl, rfl⟩⟩
    rintro e w' ⟨rfl, n, rfl⟩
    exact ⟨rfl, n, rfl⟩

set_option maxRecDepth 100000 in
set_option maxHeartbeats 4000000 in
theorem lines_walk (s : ByteArray) (b l c : Int) (w : World) (hx : s.size ≤ 9223372036854775807) (hb : -9223372036854775808 ≤ b ∧ b ≤ 9223372036854775807) (hl : -9223372036854775808 ≤ l ∧ l ≤ 9223372036854775807) (hc : -9223372036854775808 ≤ c ∧ c ≤ 9223372036854775807) :
    Calls Try.prog 7 #[.string s, .int .i64 b, .int .i64 l, .int .i64 c] w fun e w' => e = .returned (.bool true) ∧ Below w.heap.size w w' := by
  by_cases hm : s.size ≤ 65536
  · by_cases hf : s.size ≤ 400
    · have hns := nS_le s
      have hnl := nL_le s
      obtain ⟨x1, x2, x3, kk, inb, hkk, hW, hO, hcb⟩ := where_both s b hm
      obtain ⟨p1, p2, m, fnd, hmm, hF, hrF, hcf⟩ := find_both s l c hl hc hm
      obtain ⟨x, fine, hL, hcl⟩ := line_both s l
      have HW := Lib.hid hW
      have HO := Lib.hid hO
      have HF := Lib.hid hF
      have HRF := Lib.hid hrF
      have HL := Lib.hid hL
      clear hW hO hF hrF hL
      have Hcf := Lib.hid hcf
      have Hcb := Lib.hid hcb
      clear hcb
      have Hcl := Lib.hid hcl
      clear hcf hcl
      go_enter Try.func7, Try.ntmps7
      go_wp2_with fail
      refine (begun_ok s _ hm).mono ?_
      rintro e w1 ⟨⟨T, gb, cb, gl, cl, rfl, ht⟩, hb1⟩
      have hs1 := hb1.size
      have HT := Lib.hid ht
      clear ht
      go_wp2_with (first
        | (go_at_call 13; refine (few_yes s _ hf).mono ?_; rintro e w' ⟨rfl, rfl⟩)
        | (go_at_call 28; refine (refLines s _ (by omega)).mono ?_; rintro e w2 ⟨v, rfl, hown, hb2⟩))
      have hs2 := hb2.size
      have h2 := HT.out.below hb2
      obtain ⟨g2, cap2, rfl, hge2, hlt2⟩ := hown.form (by have := nL_pos s; omega)
      have hC2 : ∀ j, j < nL s → w2.cell? ⟨g2, j, none⟩ = some (.string (lineS s j)) := fun j hj => by
        rw [hown.cellAt j (by omega)]
        unfold lineVals
        rw [List.getElem?_map, List.getElem?_range hj]
        rfl
      clear hown
      refine (HW.out _ T gb cb gl cl h2).mono ?_
      rintro e w3 ⟨rfl, hb3⟩
      have hs3 := hb3.size
      have h3 := Lib.hid (h2.below hb3)
      have hC3 := Lib.hid (fun j hj => (hb3.cell (p := ⟨g2, j, none⟩) hlt2).trans (hC2 j hj))
      clear hC2 h2 HT
      go_wp2_with fail
      refine (HO.out _).mono ?_
      rintro e w4 ⟨rfl, hb4⟩
      have hb34 : Below w3.heap.size w3 w4 := ((Below.refl _ w3).alloc (Nat.le_refl _) _).trans (hb4.mono (by simp))
      have hs4 : w3.heap.size + 1 ≤ w4.heap.size := by have := hb4.size; simpa using this
      have h4 := Lib.hid (h3.out.below hb34)
      have B13 : Blk w4 w3.heap.size 60 #[.int .i64 x1, .int .i64 x2, .int .i64 x3] := (Blk.new w3 _ _).below hb4
      have HLn := Lib.hid (Lines_any h4.out)
      clear hb4
      rcases Hcb.out with ⟨rfl, hk0, hx1, HrW⟩ | ⟨rfl, rfl, hx1, hx2, hx3⟩
      have t1 : decide (0 ≤ kk) = true := by rw [decide_eq_true_iff]; omega
      have HrW := Lib.hid HrW
      clear Hcb
      go_wp2_with (go_at_call 25; refine HLn.out.mono ?_; rintro e w' ⟨rfl, rfl⟩)
      refine (HrW.out _).mono ?_
      rintro e w5 ⟨rfl, hb5⟩
      have hb35 : Below w3.heap.size w3 w5 := (hb34.alloc (by omega) _).trans (hb5.mono (by simp; omega))
      have hs5 : w4.heap.size + 1 ≤ w5.heap.size := by have := hb5.size; simpa using this
      have B16 : Blk w5 w4.heap.size 60 #[.int .i64 0, .int .i64 0, .int .i64 0] := (Blk.new w4 _ _).below hb5
      have B13' := (B13.alloc _).below hb5
      have d0 := B16.cell 0
      have d1 := B16.cell 1
      have d2 := B16.cell 2
      have f0 := B16.frozen 0
      have f1 := B16.frozen 1
      have f2 := B16.frozen 2
      simp only [List.getElem?_toArray, List.getElem?_cons_succ, List.getElem?_cons_zero] at d0 d1 d2
      go_wp2_with fail
      refine (HF.out _ T gb cb gl cl (h3.out.below (((hb35.setCell (by simp; omega) _).setCell (by simp; omega) _).setCell (by simp; omega) _))).mono ?_
      rintro e w6 ⟨rfl, hb6⟩
      have B16' : Blk w6 w4.heap.size 60 #[.int .i64 x1, .int .i64 x2, .int .i64 x3] := by
        rw [hx1]
        exact (((B16.set_ 0 _).set_ 1 _).set_ 2 _).below hb6
      have B13'' : Blk w6 w3.heap.size 60 #[.int .i64 x1, .int .i64 x2, .int .i64 x3] := (((B13'.of (Below.heap_setCell _ _ _ _ (by simp; omega))).of (Below.heap_setCell _ _ _ _ (by simp; omega))).of (Below.heap_setCell _ _ _ _ (by simp; omega))).below hb6
      have hb36 : Below w3.heap.size w3 w6 := (((hb35.setCell (by simp; omega) _).setCell (by simp; omega) _).setCell (by simp; omega) _).trans (hb6.mono (by simp; omega))
      have hs6 : w4.heap.size + 1 ≤ w6.heap.size := by have := hb6.size; simp at this; omega
      clear B16 B13' d0 d1 d2 f0 f1 f2 hb5 hb6 hb35 hx1
      rotate_left
      clear Hcb
      go_wp2_with (go_at_call 25; refine HLn.out.mono ?_; rintro e w' ⟨rfl, rfl⟩)
      refine (HF.out _ T gb cb gl cl (h3.out.below (hb34.alloc (by omega) _))).mono ?_
      rintro e w6 ⟨rfl, hb6⟩
      have B16' : Blk w6 w4.heap.size 60 #[.int .i64 x1, .int .i64 x2, .int .i64 x3] := by
        rw [hx1, hx2, hx3]
        exact (Blk.new w4 _ _).below hb6
      clear hx1 hx2 hx3
      have B13'' : Blk w6 w3.heap.size 60 #[.int .i64 x1, .int .i64 x2, .int .i64 x3] := (B13.alloc _).below hb6
      have hb36 : Below w3.heap.size w3 w6 := (hb34.alloc (by omega) _).trans (hb6.mono (by simp; omega))
      have hs6 : w4.heap.size + 1 ≤ w6.heap.size := by have := hb6.size; simpa using this
      clear hb6
      all_goals
        clear B13 HLn
        go_wp2_with fail
        refine (HRF.out _).mono ?_
        rintro e w7 ⟨rfl, hb7⟩
        have B19 : Blk w7 w6.heap.size 28 #[.int .i64 p1, .int .i64 p2] := (Blk.new w6 _ _).below hb7
        have B16 := (B16'.alloc _).below hb7
        have B13 := (B13''.alloc _).below hb7
        have hb37 : Below w3.heap.size w3 w7 := (hb36.alloc (by omega) _).trans (hb7.mono (by simp; omega))
        have hs7 : w6.heap.size + 1 ≤ w7.heap.size := by have := hb7.size; simpa using this
        have a0 := B13.cell 0
        have a1 := B13.cell 1
        have a2 := B13.cell 2
        have d0 := B16.cell 0
        have d1 := B16.cell 1
        have d2 := B16.cell 2
        have g0 := B19.cell 0
        have g1 := B19.cell 1
        simp only [List.getElem?_toArray, List.getElem?_cons_succ, List.getElem?_cons_zero] at a0 a1 a2 d0 d1 d2 g0 g1
        clear B13 B16 B19 B13'' B16' hb7
        rcases Hcf.out with ⟨rfl, hm0, rfl, HBy⟩ | ⟨rfl, rfl, rfl, rfl⟩
        · have t2 : decide (0 ≤ p2) = true := by rw [decide_eq_true_iff]; omega
          have HBy := Lib.hid HBy
          have q3 : w3.heap.size < w7.heap.size := by omega
          have q4 : w4.heap.size < w7.heap.size := by omega
          have q6 : w6.heap.size < w7.heap.size := by omega
          clear Hcf
          go_wp2_with fail
          refine wp_region_below (by kernel_rfl) (by kernel_rfl) ?_
          repeat (first
            | go_big_quiet_skip
            | (go_big_quiet_want; go_big_quiet_op; first
                | go_big_quiet_on
                | (refine ⟨_, fun _ _ => rfl, ?_⟩; go_big_quiet_on)
                | (apply Exists.intro
                   refine ⟨fun w0 hC0 => ?_, ?_⟩
                   · (refine (HBy.out w0).mono ?_
                      rintro e w8 ⟨rfl, hb8⟩
                      exact ⟨rfl, hC0.trans (hb8.mono hC0.size)⟩)
                   go_big_quiet_on)
                | (apply Exists.intro
                   refine ⟨fun w0 hC0 => ?_, ?_⟩
                   · (have c0 := (hC0.cell (p := ⟨w3.heap.size, 0, none⟩) q3).trans a0
                      have c1 := (hC0.cell (p := ⟨w3.heap.size, 1, none⟩) q3).trans a1
                      have c2 := (hC0.cell (p := ⟨w3.heap.size, 2, none⟩) q3).trans a2
                      have c3 := (hC0.cell (p := ⟨w4.heap.size, 0, none⟩) q4).trans d0
                      have c4 := (hC0.cell (p := ⟨w4.heap.size, 1, none⟩) q4).trans d1
                      have c5 := (hC0.cell (p := ⟨w4.heap.size, 2, none⟩) q4).trans d2
                      have c6 := (hC0.cell (p := ⟨w6.heap.size, 0, none⟩) q6).trans g0
                      have c7 := (hC0.cell (p := ⟨w6.heap.size, 1, none⟩) q6).trans g1
                      go_simp
                      rfl)
                   go_big_quiet_on)))
          refine wpQuiet_nil ?_
          intro w8 hb8
          have hb38 : Below w3.heap.size w3 w8 := hb37.trans (hb8.mono (by omega))
          clear a0 a1 a2 d0 d1 d2 g0 g1
          go_wp2_with fail
          refine (HL.out _ T gb cb gl cl (h3.out.below hb38)).mono ?_
          rintro e w9 ⟨rfl, n9, rfl⟩
          have hb39 : Below w.heap.size w (w8.drewN n9) := (hb1.trans ((hb2.trans ((hb3.trans (hb38.mono hs3)).mono hs2)).mono hs1)).trans ⟨rfl, rfl, rfl, Nat.le_refl _, fun _ _ => rfl⟩
          rcases Hcl.out with ⟨rfl, i, hi, hli, rfl⟩ | ⟨rfl, rfl, hno⟩
          · have hg := (hb38.cell (p := ⟨g2, i, none⟩) (by show g2 < _; omega)).trans (hC3.out i hi)
            have hidx : l - 1 = (i : Int) := by omega
            have hl1 : 1 ≤ l := by omega
            have hl2 : l ≤ (nL s : Int) := by omega
            have t5 : decide (l < 1) = false := by rw [decide_eq_false_iff_not]; omega
            have t6 : decide ((nL s : Int) < l) = false := by rw [decide_eq_false_iff_not]; omega
            clear hli hC3
            go_wp2_with fail
            go_ret
            exact ⟨by first | rfl | simp, hb39⟩
          · rcases Int.lt_or_le l 1 with hl1 | hl1
            · have t5 : decide (l < 1) = true := by rw [decide_eq_true_iff]; omega
              clear hno
              go_wp2_with fail
              go_ret
              exact ⟨by first | rfl | simp, hb39⟩
            · have t5 : decide (l < 1) = false := by rw [decide_eq_false_iff_not]; omega
              have t6 : decide ((nL s : Int) < l) = true := by rw [decide_eq_true_iff]; omega
              clear hno
              go_wp2_with fail
              go_ret
              exact ⟨by first | rfl | simp, hb39⟩
        · clear Hcf
          go_wp2_with fail
          go_quiet (fail)
          have hb38 : Below w3.heap.size w3 (w7.drewN nq) := hb37.trans ⟨rfl, rfl, rfl, Nat.le_refl _, fun _ _ => rfl⟩
          generalize w7.drewN nq = w8 at hb38 ⊢
          clear a0 a1 a2 d0 d1 d2 g0 g1
          go_wp2_with fail
          refine (HL.out _ T gb cb gl cl (h3.out.below hb38)).mono ?_
          rintro e w9 ⟨rfl, n9, rfl⟩
          have hb39 : Below w.heap.size w (w8.drewN n9) := (hb1.trans ((hb2.trans ((hb3.trans (hb38.mono hs3)).mono hs2)).mono hs1)).trans ⟨rfl, rfl, rfl, Nat.le_refl _, fun _ _ => rfl⟩
          rcases Hcl.out with ⟨rfl, i, hi, hli, rfl⟩ | ⟨rfl, rfl, hno⟩
          · have hg := (hb38.cell (p := ⟨g2, i, none⟩) (by show g2 < _; omega)).trans (hC3.out i hi)
            have hidx : l - 1 = (i : Int) := by omega
            have hl1 : 1 ≤ l := by omega
            have hl2 : l ≤ (nL s : Int) := by omega
            have t5 : decide (l < 1) = false := by rw [decide_eq_false_iff_not]; omega
            have t6 : decide ((nL s : Int) < l) = false := by rw [decide_eq_false_iff_not]; omega
            clear hli hC3
            go_wp2_with fail
            go_ret
            exact ⟨by first | rfl | simp, hb39⟩
          · rcases Int.lt_or_le l 1 with hl1 | hl1
            · have t5 : decide (l < 1) = true := by rw [decide_eq_true_iff]; omega
              clear hno
              go_wp2_with fail
              go_ret
              exact ⟨by first | rfl | simp, hb39⟩
            · have t5 : decide (l < 1) = false := by rw [decide_eq_false_iff_not]; omega
              have t6 : decide ((nL s : Int) < l) = true := by rw [decide_eq_true_iff]; omega
              clear hno
              go_wp2_with fail
              go_ret
              exact ⟨by first | rfl | simp, hb39⟩
    · go_enter Try.func7, Try.ntmps7
      go_wp2_with fail
      refine (begun_ok s _ hm).mono ?_
      rintro e w1 ⟨⟨T, gb, cb, gl, cl, rfl, ht⟩, hb1⟩
      go_wp2_with (first
        | (go_at_call 13; refine (few_no s _ (by omega)).mono ?_; rintro e w' ⟨rfl, rfl⟩))
      go_ret
      exact ⟨rfl, hb1⟩
  · go_enter Try.func7, Try.ntmps7
    go_wp2_with fail
    refine (begun_long s _ (by omega) hx).mono ?_
    rintro e w1 ⟨rfl, hb1⟩
    go_wp2_with fail
    go_ret
    exact ⟨rfl, hb1⟩
end Go.Proofs.Ytkenffbonnbflaa
