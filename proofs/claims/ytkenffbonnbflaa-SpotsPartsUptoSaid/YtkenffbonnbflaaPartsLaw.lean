/- Walk: guiselaw2.SpotsParts. -/
import Derived.Test.YtkenffbonnbflaaParts
import Derived.Test.YtkenffbonnbflaaWhole
import Derived.Test.YtkenffbonnbflaaCount
namespace Go.Proofs.Ytkenffbonnbflaa
open Go.RowKit
set_option linter.unusedVariables false

theorem ext_join (s : ByteArray) (a b : Nat) (h : a ≤ b) : s.extract 0 a ++ s.extract a b = s.extract 0 b := by
  apply ByteArray.ext
  apply Array.ext'
  rw [ByteArray.data_append, Array.toList_append, ext_list, ext_list, ext_list]
  simp only [List.drop_zero, Nat.sub_zero]
  have e : b = a + (b - a) := by omega
  conv => rhs; rw [e, List.take_add]
theorem ext_none (s : ByteArray) : s.extract 0 0 = { data := #[] } := by
  apply ByteArray.ext
  simp
theorem cAt_lt (s : ByteArray) (cs : List Int) (k : Nat) (h : k < cs.length) : cs[k]? = some (cAt s cs k) := by
  unfold cAt
  rw [List.getD_eq_getElem?_getD, List.getElem?_append_left h, List.getElem?_eq_getElem h]
  rfl
theorem cAt_last (s : ByteArray) (cs : List Int) : cAt s cs cs.length = (nS s : Int) := by
  unfold cAt
  rw [List.getD_eq_getElem?_getD, List.getElem?_append_right (Nat.le_refl _)]
  simp
theorem pieces_at (s : ByteArray) (cs : List Int) (k pos : Nat) (hk : k < cs.length + 1) (h : (pieces s 0 (cs ++ [(nS s : Int)])).drop k = pieces s pos ((cs ++ [(nS s : Int)]).drop k)) :
    (pieces s 0 (cs ++ [(nS s : Int)]))[k]? = some (s.extract (bAt s pos) (bAt s (stepTo (nS s) pos (cAt s cs k)))) ∧
    (pieces s 0 (cs ++ [(nS s : Int)])).drop (k + 1) = pieces s (stepTo (nS s) pos (cAt s cs k)) ((cs ++ [(nS s : Int)]).drop (k + 1)) := by
  rw [cAt_drop s cs k hk, pieces] at h
  constructor
  · have h2 := congrArg (fun l => l[0]?) h
    simpa using h2
  · have h2 := congrArg (fun l => l.drop 1) h
    simp only [List.drop_drop, List.drop_succ_cons, List.drop_zero] at h2
    exact h2

def PartsRel (s : ByteArray) (cs : List Int) (n : Nat) (w2 : World) (a m i : Value) (wr : World) : Prop := ∃ (k pos : Nat), k ≤ n + 1 ∧ pos ≤ nS s ∧ (k = n + 1 → pos = nS s) ∧ a = .string (s.extract 0 (bAt s pos)) ∧ m = .int .i64 (pos : Int) ∧ i = .int .i64 (k : Int) ∧
      (pieces s 0 (cs ++ [(nS s : Int)])).drop k = pieces s pos ((cs ++ [(nS s : Int)]).drop k) ∧ Below w2.heap.size w2 wr

set_option maxRecDepth 100000 in
set_option maxHeartbeats 2000000 in
theorem parts_walk (s : ByteArray) (w : World) (hx : s.size ≤ 9223372036854775807) (ao : Option Addr) (n cap : Nat) (cs : List Int) (hn : cs.length = n) (hnone : ao = none → n = 0 ∧ cap = 0)
    (hcells : ∀ b, ao = some b → ∀ j u, (cs.map (Value.int .i64))[j]? = some u → w.cell? (b.add j) = some u) (hcap : n ≤ cap) (hcap2 : cap ≤ maxLen) (hcs : ∀ c ∈ cs, -9223372036854775808 ≤ c ∧ c ≤ 9223372036854775807) (hsmall : n ≤ 2097152) :
    Calls Try.prog 6 #[.string s, .slice ao n cap] w fun e w' => e = .returned (.bool true) ∧ Below w.heap.size w w' := by
  by_cases hm : s.size ≤ 65536
  · have hns := nS_le s
    go_enter Try.func6, Try.ntmps6
    go_wp2_with fail
    refine (begun_ok s _ hm).mono ?_
    rintro e w1 ⟨⟨T, gb, cb, gl, cl, rfl, ht⟩, hb1⟩
    have hs1 := hb1.size
    go_wp2_with fail
    refine (Parts_any ht ao n cap cs hn hnone (fun b hb j u hu => (hb1.cell (World.block_lt_of_cell? w _ (hcells b hb j u hu))).trans (hcells b hb j u hu)) hcap hcap2 hcs hsmall).mono ?_
    rintro e w2 ⟨v, rfl, hown, hb2⟩
    have hs2 := hb2.size
    have hb12 := hb1.trans (hb2.mono hs1)
    have hC : ∀ b, ao = some b → ∀ j, j < n → w2.cell? (b.add j) = some (.int .i64 (cAt s cs j)) ∧ (b.add j).block < w2.heap.size := fun b hb j hj => by
      have h1 := hcells b hb j (.int .i64 (cAt s cs j)) (by rw [List.getElem?_map, cAt_lt s cs j (by omega)]; rfl)
      have h2 := World.block_lt_of_cell? w _ h1
      exact ⟨(hb12.cell h2).trans h1, by have := hb12.size; omega⟩
    have hbd := cAt_bd s cs (by omega) hcs
    have ht2 := ht.below hb2
    obtain ⟨g, cap2, rfl, hge, hlt1⟩ := hown.form (by omega)
    have hP : ∀ j X, j < n + 1 → (pieces s 0 (cs ++ [(nS s : Int)]))[j]? = some X → w2.cell? ⟨g, j, none⟩ = some (.string X) := fun j X hj h => by
      rw [hown.cellAt j (by omega), List.getElem?_map, h]
      rfl
    have Hcn := Lib.hid hnone
    have HC := Lib.hid hC
    have Hbd := Lib.hid hbd
    have HP := Lib.hid hP
    have HT := Lib.hid ht2
    have Hcap := Lib.hid hcap2
    have Hcs := Lib.hid hcs
    clear hcells hC hbd hP ht2 hown hcap2 hcs hnone
    unfold maxLen at Hcap
    have Hl := Lib.hid hn
    clear hn
    go_wp2_with fail
    go_loopw [9, 10, 11] (fun a m i wr => PartsRel s cs n w2 a m i wr) (fun _ _ i _ => n + 1 - (intOf i).toNat)
    case atStart =>
      refine ⟨0, 0, Nat.zero_le _, Nat.zero_le _, fun h => by omega, ?_, rfl, rfl, by simp, Below.refl _ _⟩
      rw [bAt_zero, ext_none]
    case round =>
      obtain ⟨k, pos, hk, hpos, hend, rfl, rfl, rfl, hd, hb3⟩ := hrel
      have hs3 := hb3.size
      have H3 := Lib.hid (HT.out.below hb3)
      have HCt := Lib.hid (Count_any H3.out)
      by_cases hlt : k < n + 1
      · obtain ⟨hX, hd2⟩ := pieces_at s cs k pos (by have := Hl.out; omega) hd
        have hcell := (hb3.cell (p := ⟨g, k, none⟩) hlt1).trans (HP.out k _ hlt hX)
        have t1 := stepTo_ge (nS s) pos (cAt s cs k)
        have t2 := stepTo_le (nS s) pos (cAt s cs k) hpos
        have hto : stepTo (nS s) pos (cAt s cs k) = pos + min (cAt s cs k).toNat (nS s - pos) := rfl
        have hlast : k = n → cAt s cs k = (nS s : Int) := fun e => by rw [e, ← Hl.out]; exact cAt_last s cs
        obtain ⟨d1, d2⟩ := Hbd.out k
        have Hd := Lib.hid hd2
        have m1 := bAt_mono s pos _ t1 t2
        have m2 := bAt_le s (stepTo (nS s) pos (cAt s cs k))
        have hXs : (s.extract (bAt s pos) (bAt s (stepTo (nS s) pos (cAt s cs k)))).size ≤ 65536 := by rw [ext_size s _ _ m1 m2]; omega
        have hXn := nS_piece s pos _ t1 t2
        have hU : ∀ w0, Calls Try.prog 27 #[.string (s.extract (bAt s pos) (bAt s (stepTo (nS s) pos (cAt s cs k))))] w0 fun e w' => e = .returned (.int .i64 ((stepTo (nS s) pos (cAt s cs k) - pos : Nat) : Int)) ∧ Below w0.heap.size w0 w' := fun w0 => by
          have h := utfCount (s.extract (bAt s pos) (bAt s (stepTo (nS s) pos (cAt s cs k)))) w0 (by omega)
          rw [hXn] at h
          exact h
        have hj := ext_join s _ _ m1
        have hjs : (s.extract 0 (bAt s (stepTo (nS s) pos (cAt s cs k)))).size = bAt s (stepTo (nS s) pos (cAt s cs k)) := by rw [ext_size s _ _ (Nat.zero_le _) m2]; omega
        have hcA : ∀ b, ao = some b → k < n → wr.cell? (b.add k) = some (.int .i64 (cAt s cs k)) := fun b hb hk2 => (hb3.cell (HC.out b hb k hk2).2).trans (HC.out b hb k hk2).1
        have HcA := Lib.hid hcA
        have hAX : (s.extract 0 (bAt s pos)).size + (s.extract (bAt s pos) (bAt s (stepTo (nS s) pos (cAt s cs k)))).size ≤ s.size := by rw [ext_size s _ _ (Nat.zero_le _) (bAt_le s pos), ext_size s _ _ m1 m2]; omega
        have Hj := Lib.hid hj
        have HU := Lib.hid hU
        clear hU hcA hj hjs hd hd2 hX hXn m1 m2
        generalize cAt s cs k = c at *
        generalize stepTo (nS s) pos c = to at *
        obtain ⟨d, rfl⟩ : ∃ d, to = pos + d := ⟨to - pos, by omega⟩
        rw [Nat.add_sub_cancel_left] at HU
        generalize s.extract (bAt s pos) (bAt s (pos + d)) = X at *
        generalize s.extract 0 (bAt s pos) = A at *
        have f1 : decide ((s.size : Int) < (A.size : Int) + (X.size : Int)) = false := by rw [decide_eq_false_iff_not]; omega
        have f0 : ¬ 9223372036854775807 < A.size + X.size := by omega
        clear hAX
        by_cases hkn : k < n
        · obtain ⟨b, rfl⟩ : ∃ b, ao = some b := by
            cases ao with
            | none => have := (Hcn.out rfl).1; omega
            | some b => exact ⟨b, rfl⟩
          have hcA := HcA.out b rfl hkn
          have t1 : decide ((k : Int) < (n : Int)) = true := by rw [decide_eq_true_iff]; omega
          have hleaf : d = 0 ∨ (d ≠ 0 ∧ ¬ c < (d : Int) ∧ ¬ (d : Int) < c) ∨ (d ≠ 0 ∧ ¬ c < (d : Int) ∧ (d : Int) < c ∧ (pos : Int) + (d : Int) = (nS s : Int)) := by omega
          rcases hleaf with rfl | ⟨g1, g2, g3⟩ | ⟨g1, g2, g3, g4⟩
          · have Hto := Lib.hid hto
            clear hto
            go_wp2_with (first
              | (go_at_call 27; refine (HU.out _).mono ?_; rintro e w4 ⟨rfl, hb4⟩; have hg4 := (hb4.cell (p := ⟨g, k, none⟩) (Nat.lt_of_lt_of_le hlt1 hs3)).trans hcell))
            go_roundw
            case rel =>
              have hN : PartsRel s cs n w2 (.string (A ++ X)) (.int .i64 (pos : Int)) (.int .i64 ((k : Int) + 1)) w4 := ⟨k + 1, pos, by omega, hpos, fun h => by omega, congrArg Value.string Hj.out, by go_num, by go_num, Hd.out, hb3.trans (hb4.mono hs3)⟩
              first | exact hN | ((repeat apply Exists.intro); exact ⟨hN, rfl⟩)
            case measure => first | (simp [intOf]; done) | (simp [intOf]; omega)
          · have e1 : ((d : Int) == 0) = false := by rw [beq_eq_false_iff_ne]; omega
            have e2 : decide (c < (d : Int)) = false := by rw [decide_eq_false_iff_not]; omega
            have e3 : decide ((d : Int) < c) = false := by rw [decide_eq_false_iff_not]; omega
            have Hto := Lib.hid hto
            clear hto
            go_wp2_with (first
              | (go_at_call 27; refine (HU.out _).mono ?_; rintro e w4 ⟨rfl, hb4⟩; have hg4 := (hb4.cell (p := ⟨g, k, none⟩) (Nat.lt_of_lt_of_le hlt1 hs3)).trans hcell; have hc4 := (hb4.cell (World.block_lt_of_cell? wr _ hcA)).trans hcA; have HC4 := Lib.hid (Count_any (H3.out.below hb4)))
              | (go_at_call 11; refine HC4.out.mono ?_; rintro e w' ⟨rfl, rfl⟩))
            go_roundw
            case rel =>
              have hN : PartsRel s cs n w2 (.string (A ++ X)) (.int .i64 ((pos : Int) + (d : Int))) (.int .i64 ((k : Int) + 1)) w4 := ⟨k + 1, pos + d, by omega, t2, fun h => by omega, congrArg Value.string Hj.out, by go_num, by go_num, Hd.out, hb3.trans (hb4.mono hs3)⟩
              first | exact hN | ((repeat apply Exists.intro); exact ⟨hN, rfl⟩)
            case measure => first | (simp [intOf]; done) | (simp [intOf]; omega)
          · have e1 : ((d : Int) == 0) = false := by rw [beq_eq_false_iff_ne]; omega
            have e2 : decide (c < (d : Int)) = false := by rw [decide_eq_false_iff_not]; omega
            have e3 : decide ((d : Int) < c) = true := by rw [decide_eq_true_iff]; omega
            have e4 : ((pos : Int) + (d : Int) == (nS s : Int)) = true := by rw [beq_iff_eq]; omega
            have Hto := Lib.hid hto
            clear hto
            go_wp2_with (first
              | (go_at_call 27; refine (HU.out _).mono ?_; rintro e w4 ⟨rfl, hb4⟩; have hg4 := (hb4.cell (p := ⟨g, k, none⟩) (Nat.lt_of_lt_of_le hlt1 hs3)).trans hcell; have hc4 := (hb4.cell (World.block_lt_of_cell? wr _ hcA)).trans hcA; have HC4 := Lib.hid (Count_any (H3.out.below hb4)))
              | (go_at_call 11; refine HC4.out.mono ?_; rintro e w' ⟨rfl, rfl⟩))
            go_roundw
            case rel =>
              have hN : PartsRel s cs n w2 (.string (A ++ X)) (.int .i64 (nS s : Int)) (.int .i64 ((k : Int) + 1)) w4 := ⟨k + 1, pos + d, by omega, t2, fun h => by omega, congrArg Value.string Hj.out, congrArg (Value.int .i64) (by omega), by go_num, Hd.out, hb3.trans (hb4.mono hs3)⟩
              first | exact hN | ((repeat apply Exists.intro); exact ⟨hN, rfl⟩)
            case measure => first | (simp [intOf]; done) | (simp [intOf]; omega)
        · obtain rfl : k = n := by omega
          have hc := hlast rfl
          have hN : pos + d = nS s := by omega
          have t1 : decide ((k : Int) < (k : Int)) = false := by rw [decide_eq_false_iff_not]; omega
          have Hto := Lib.hid hto
          clear hto
          go_wp2_with (first
            | (go_at_call 27; refine (HU.out _).mono ?_; rintro e w4 ⟨rfl, hb4⟩; have hg4 := (hb4.cell (p := ⟨g, k, none⟩) (Nat.lt_of_lt_of_le hlt1 hs3)).trans hcell))
          go_roundw
          case rel =>
            have hN : PartsRel s cs k w2 (.string (A ++ X)) (.int .i64 ((pos : Int) + (d : Int))) (.int .i64 ((k : Int) + 1)) w4 := ⟨k + 1, pos + d, by omega, t2, fun h => hN, congrArg Value.string Hj.out, by go_num, by go_num, Hd.out, hb3.trans (hb4.mono hs3)⟩
            first | exact hN | ((repeat apply Exists.intro); exact ⟨hN, rfl⟩)
          case measure => first | (simp [intOf]; done) | (simp [intOf]; omega)
      · obtain rfl : k = n + 1 := by omega
        obtain rfl : pos = nS s := hend rfl
        have Ha := Lib.hid (show s.extract 0 (bAt s (nS s)) = s by rw [bAt_end, ext_all])
        rw [Ha.out]
        clear hd
        go_wp2_with (go_at_call 11; refine HCt.out.mono ?_; rintro e w' ⟨rfl, rfl⟩)
        go_ret
        exact ⟨rfl, hb12.trans (hb3.mono (by omega))⟩
  · go_enter Try.func6, Try.ntmps6
    go_wp2_with fail
    refine (begun_long s _ (by omega) hx).mono ?_
    rintro e w1 ⟨rfl, hb1⟩
    go_wp2_with fail
    go_ret
    exact ⟨rfl, hb1⟩
end Go.Proofs.Ytkenffbonnbflaa
