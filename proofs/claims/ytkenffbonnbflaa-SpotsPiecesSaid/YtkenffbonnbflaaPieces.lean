/- Walks: guiseref2.Slice, Parts; guiselaw2.few; a text's piece by both. -/
import Derived.Test.YtkenffbonnbflaaRef2
import Derived.Test.YtkenffbonnbflaaBookSS
namespace Go.Proofs.Ytkenffbonnbflaa
open Go.RowKit
set_option linter.unusedVariables false

theorem cAt_get (s : ByteArray) (cs : List Int) (k : Nat) (h : k < cs.length) : cs[k]? = some (cAt s cs k) := by
  unfold cAt
  rw [List.getD_eq_getElem?_getD, List.getElem?_append_left h, List.getElem?_eq_getElem h]
  rfl
theorem fewP_yes (s : ByteArray) (w : World) (h : s.size ≤ 400) : Calls Try.prog 13 #[.string s] w fun e w' => e = .returned (.bool true) ∧ w = w' := by
  go_enter Try.func13, Try.ntmps13
  go_wp2
  go_ret
  exact ⟨by simp; omega, rfl⟩
theorem fewP_no (s : ByteArray) (w : World) (h : 400 < s.size) : Calls Try.prog 13 #[.string s] w fun e w' => e = .returned (.bool false) ∧ w = w' := by
  go_enter Try.func13, Try.ntmps13
  go_wp2
  go_ret
  exact ⟨by simp; omega, rfl⟩

set_option maxHeartbeats 1000000 in
theorem refSlice_no (s : ByteArray) (w : World) (a b : Int) (hn : a < 0 ∨ b < a ∨ (nS s : Int) < b) (hm : s.size ≤ 1048576) :
    Calls Try.prog 15 #[.string s, .int .i64 a, .int .i64 b] w fun e w' => e = .returned (.tuple #[.string ⟨#[]⟩, .bool false]) ∧ Below w.heap.size w w' := by
  have HS := Lib.hid (Spots_is s w hm)
  rcases Int.lt_or_le a 0 with h0 | h0
  · clear hn
    go_enter Try.func15, Try.ntmps15
    go_wp2_with fail
    refine HS.out.mono ?_
    rintro e w1 ⟨⟨A, c, rfl, hA⟩, hb⟩
    clear hA
    go_wp2_with fail
    go_ret2
    exact ⟨rfl, hb⟩
  · rcases Int.lt_or_le b a with h2 | h2
    · clear hn
      go_enter Try.func15, Try.ntmps15
      go_wp2_with fail
      refine HS.out.mono ?_
      rintro e w1 ⟨⟨A, c, rfl, hA⟩, hb⟩
      clear hA
      go_wp2_with fail
      go_ret2
      exact ⟨rfl, hb⟩
    · have hn' : (nS s : Int) < b := by omega
      clear hn
      go_enter Try.func15, Try.ntmps15
      go_wp2_with fail
      refine HS.out.mono ?_
      rintro e w1 ⟨⟨A, c, rfl, hA⟩, hb⟩
      clear hA
      go_wp2_with fail
      go_ret2
      exact ⟨rfl, hb⟩
set_option maxHeartbeats 1000000 in
theorem refSlice_yes (s : ByteArray) (w : World) (a b : Nat) (hab : a ≤ b) (hb : b ≤ nS s) (hm : s.size ≤ 1048576) :
    Calls Try.prog 15 #[.string s, .int .i64 (a : Int), .int .i64 (b : Int)] w fun e w' => e = .returned (.tuple #[.string (s.extract (bAt s a) (bAt s b)), .bool true]) ∧ Below w.heap.size w w' := by
  have HS := Lib.hid (Spots_is s w hm)
  have HA := Lib.hid (fun w => refByte s w a (by omega) hm)
  have HB := Lib.hid (fun w => refByte s w b hb hm)
  have hle := bAt_le s b
  have hmo := bAt_mono s a b hab hb
  have j1 : (bAt s a : Int) ≤ (bAt s b : Int) := by omega
  have j2 : (bAt s b : Int) ≤ (s.size : Int) := by omega
  go_enter Try.func15, Try.ntmps15
  go_wp2_with fail
  refine HS.out.mono ?_
  rintro e w1 ⟨⟨A, c, rfl, hA⟩, hb1⟩
  clear hA
  go_wp2_with fail
  refine (HA.out _).mono ?_
  rintro e w2 ⟨rfl, hb2⟩
  go_wp2_with fail
  refine (HB.out _).mono ?_
  rintro e w3 ⟨rfl, hb3⟩
  go_wp2_with fail
  go_ret2
  exact ⟨rfl, (hb1.trans (hb2.mono hb1.size)).trans (hb3.mono (by have := hb1.size; have := hb2.size; omega))⟩
theorem refSlice_int (s : ByteArray) (w : World) (a b : Int) (ha : 0 ≤ a) (hab : a ≤ b) (hb : b ≤ (nS s : Int)) (hm : s.size ≤ 1048576) :
    Calls Try.prog 15 #[.string s, .int .i64 a, .int .i64 b] w fun e w' => e = .returned (.tuple #[.string (s.extract (bAt s a.toNat) (bAt s b.toNat)), .bool true]) ∧ Below w.heap.size w w' := by
  obtain ⟨m, rfl⟩ : ∃ m : Nat, a = (m : Int) := ⟨a.toNat, by omega⟩
  obtain ⟨k, rfl⟩ : ∃ k : Nat, b = (k : Int) := ⟨b.toNat, by omega⟩
  exact refSlice_yes s w m k (by omega) (by omega) hm

/-- a piece, by the program and by the reference -/
theorem slice_both (s : ByteArray) (a b : Int) (hm : s.size ≤ 1048576) : ∃ (x : ByteArray) (ok : Bool),
    (∀ (w : World) (T gb cb gl cl : Nat), TextIs w T s gb cb gl cl → Calls Try.prog 14 #[.pointer (some ⟨T, 0, none⟩), .int .i64 a, .int .i64 b] w fun e w' => e = .returned (.tuple #[.string x, .bool ok]) ∧ Below w.heap.size w w') ∧
    (∀ w : World, Calls Try.prog 15 #[.string s, .int .i64 a, .int .i64 b] w fun e w' => e = .returned (.tuple #[.string x, .bool ok]) ∧ Below w.heap.size w w') := by
  by_cases hn : a < 0 ∨ b < a ∨ (nS s : Int) < b
  · exact ⟨⟨#[]⟩, false, fun w T gb cb gl cl h => (Slice_no h a b hn).mono (by rintro e w' ⟨rfl, rfl⟩; exact ⟨rfl, Below.refl _ _⟩), fun w => refSlice_no s w a b hn hm⟩
  · obtain ⟨m, rfl⟩ : ∃ m : Nat, a = (m : Int) := ⟨a.toNat, by omega⟩
    obtain ⟨k, rfl⟩ : ∃ k : Nat, b = (k : Int) := ⟨b.toNat, by omega⟩
    exact ⟨s.extract (bAt s m) (bAt s k), true, fun w T gb cb gl cl h => (Slice_yes h m k (by omega) (by omega) (bAt_mono s _ _ (by omega) (by omega))).mono (by rintro e w' ⟨rfl, n, rfl⟩; exact ⟨rfl, below_drewN (Below.refl _ _) n⟩), fun w => refSlice_yes s w m k (by omega) (by omega) hm⟩

set_option maxRecDepth 100000 in
set_option maxHeartbeats 4000000 in
theorem refParts (s : ByteArray) (w : World) (hm : s.size ≤ 1048576) (A : Option Addr) (c : Nat) (cs : List Int) (h : RunesAtI w A cs) (hl : cs.length ≤ 1000) (hcs : ∀ c ∈ cs, -9223372036854775808 ≤ c ∧ c ≤ 9223372036854775807) :
    Calls Try.prog 19 #[.string s, .slice A cs.length c] w fun e w' => (∃ v, e = .returned v ∧
      w'.ownsRow w.heap.size 9 1 v (cs.length + 1) ((pieces s 0 (cs ++ [(nS s : Int)])).map Value.string)) ∧ Below w.heap.size w w' := by
  obtain ⟨j0, hj, hy0, hy1, hy2⟩ := info_parts infoStr
  have HS := Lib.hid (Spots_is s w hm)
  have hns := nS_le s
  have H := Lib.hid h
  have HSl := Lib.hid (fun w a b h1 h2 h3 => refSlice_int s w a b h1 h2 h3 hm)
  obtain ⟨n, hn⟩ : ∃ n, cs.length = n := ⟨_, rfl⟩
  have Hn := Lib.hid hn
  have Hcs : Hid (∀ k, k < n → cs.getD k 0 = cAt s cs k ∧ -9223372036854775808 ≤ cAt s cs k ∧ cAt s cs k ≤ 9223372036854775807) := Lib.hid (fun k hk => by
    have h1 := cAt_get s cs k (by omega)
    have h2 := hcs _ (List.mem_of_getElem? h1)
    exact ⟨by rw [List.getD_eq_getElem?_getD, h1]; rfl, h2⟩)
  rw [hn] at hl
  rw [hn]
  clear h hn hcs
  go_enter Try.func19, Try.ntmps19
  go_wp2_with fail
  refine HS.out.mono ?_
  rintro e w1 ⟨⟨A2, c2, rfl, hA⟩, hb1⟩
  have Hb1 := Lib.hid hb1
  have H1 := Lib.hid (H.out.below hb1)
  have hs1 := hb1.size
  clear hA H hb1
  go_wp2_with fail
  go_loopw [6, 7, 8] (fun a v i wr => ∃ (k pos : Nat) (acc : List ByteArray), k ≤ n ∧ i = .int .i64 (k : Int) ∧ a = .int .i64 (pos : Int) ∧ pos ≤ nS s ∧ Hid (acc.length = k) ∧
      wr.ownsRow w1.heap.size 9 1 v k (acc.map Value.string) ∧ Hid (acc ++ pieces s pos ((cs ++ [(nS s : Int)]).drop k) = pieces s 0 (cs ++ [(nS s : Int)])) ∧ Below w1.heap.size w1 wr) (fun _ _ i _ => n - (intOf i).toNat)
  case atStart =>
    exact ⟨0, 0, [], Nat.zero_le _, rfl, rfl, Nat.zero_le _, Lib.hid rfl, World.ownsRow_nil _ _ _ _, Lib.hid (by simp), Below.refl _ _⟩
  case round =>
    obtain ⟨k, pos, acc, hk, rfl, rfl, hpos, Hacc, hown, Hp, hb2⟩ := hrel
    have hs2 := hb2.size
    have hlt5 := hown.lt
    by_cases hlt : k < n
    · obtain ⟨a, rfl, hg, hc⟩ := (H1.out.below hb2) (by rw [Hn.out]; omega)
      have hck := hc k (by rw [Hn.out]; exact hlt)
      obtain ⟨e1, d1, d2⟩ := Hcs.out k hlt
      rw [e1] at hck
      have Hd := Lib.hid (cAt_drop s cs k (by rw [Hn.out]; omega))
      have hst : ((stepTo (nS s) pos (cAt s cs k) : Nat) : Int) = (pos : Int) + min (max (cAt s cs k) 0) ((nS s : Int) - (pos : Int)) := (stepTo_int (nS s) pos _ hpos).symm
      have t1 := stepTo_ge (nS s) pos (cAt s cs k)
      have t2 := stepTo_le (nS s) pos (cAt s cs k) hpos
      clear hc e1
      generalize cAt s cs k = c at *
      generalize hto : stepTo (nS s) pos c = to at *
      have Hto := Lib.hid hto
      clear hto
      have hcase : (c < 0 ∧ to ≤ pos) ∨ (0 ≤ c ∧ c ≤ (nS s : Int) - (pos : Int) ∧ (to : Int) ≤ (pos : Int) + c ∧ (pos : Int) + c ≤ (to : Int)) ∨ (0 ≤ c ∧ (nS s : Int) - (pos : Int) < c ∧ nS s ≤ to) := by omega
      have Hst := Lib.hid hst
      clear hst
      have htn : ((pos : Int)).toNat = pos := by omega
      have HSt := Lib.hid (fun w (b : Int) (hb : b = (to : Int)) => show Calls Try.prog 15 #[.string s, .int .i64 (pos : Int), .int .i64 b] w fun e w' => e = .returned (.tuple #[.string (s.extract (bAt s pos) (bAt s to)), .bool true]) ∧ Below w.heap.size w w' by rw [hb]; exact refSlice_yes s w pos to t1 t2 hm)
      clear HSl
      rcases hcase with ⟨g1, g2⟩ | ⟨g1, g2, g3, g4⟩ | ⟨g1, g2, g3⟩
      all_goals
        go_wp2_with fail
        refine (HSt.out _ _ (by omega)).mono ?_
        rintro e w2 ⟨rfl, hb3⟩
        have hown2 := own_below hown hb3
        have hs3 := hb3.size
        have hlt6 := hown2.lt
        have hb23 := hb2.trans (hb3.mono hs2)
        clear hb2 hb3 hown
        go_wp2_with (at_builtin; go_must (refine wpList_append_own _ rfl _ _ 45 rfl w1.heap.size 9 j0 _ 1 16 Try.underlying45 hj hy0 hy1 hy2 rfl (by decide) u7 k _ rfl (World.ownsRow.alloc hown2 _) ⟨w2.heap.size, 0, none⟩ 1 1 [.string (s.extract (bAt s pos) (bAt s to))] rfl rfl (cells_new _ [_] _ _ rfl) (by simp [Value.oneCell']) (by unfold maxLen; omega) (by omega) (by simp; omega) ?_); intro v' w3 hown' hgrow _)
        have hb4 : Below w1.heap.size w1 w3 := (hb23.alloc (by omega) _).grown hgrow (by simp; omega) (fun k e => (hlt6 k e).1)
        have hfin : Hid ((acc ++ [s.extract (bAt s pos) (bAt s to)]) ++ pieces s to ((cs ++ [(nS s : Int)]).drop (k + 1)) = pieces s 0 (cs ++ [(nS s : Int)])) := Lib.hid (by
          rw [← Hp.out, Hd.out]
          simp only [pieces, Hto.out, List.append_assoc, List.singleton_append])
        have hown3 : w3.ownsRow w1.heap.size 9 1 v' (k + 1) ((acc ++ [s.extract (bAt s pos) (bAt s to)]).map Value.string) := by
          rw [List.map_append]
          exact hown'
        go_roundw
        case rel => exact ⟨k + 1, to, acc ++ [s.extract (bAt s pos) (bAt s to)], by omega, by go_num, by first | (congr 1; omega) | (simp; omega) | rfl, t2, Lib.hid (by rw [List.length_append, Hacc.out]; rfl), hown3, hfin, hb4⟩
        case measure => simp [intOf]; omega
    · obtain rfl : k = n := by omega
      have Hd := Lib.hid (cAt_drop s cs k (by rw [Hn.out]; omega))
      have hlast : cAt s cs k = (nS s : Int) := by
        have h1 := Hn.out
        unfold cAt
        rw [← h1, List.getD_eq_getElem?_getD, List.getElem?_append_right (Nat.le_refl _)]
        simp
      have hto : stepTo (nS s) pos (nS s : Int) = nS s := by unfold stepTo; omega
      have HSt := Lib.hid (fun w => refSlice_yes s w pos (nS s) hpos (Nat.le_refl _) hm)
      have hfin : Hid ((acc ++ [s.extract (bAt s pos) (bAt s (nS s))]) = pieces s 0 (cs ++ [(nS s : Int)])) := Lib.hid (by
        rw [← Hp.out, Hd.out, hlast, List.drop_eq_nil_of_le (by simp; rw [Hn.out]; omega)]
        simp only [pieces, hto])
      clear hlast hto HSl
      go_wp2_with fail
      refine (HSt.out _).mono ?_
      rintro e w2 ⟨rfl, hb3⟩
      have hown2 := own_below hown hb3
      have hs3 := hb3.size
      have hlt6 := hown2.lt
      have hb23 := hb2.trans (hb3.mono hs2)
      clear hb2 hb3 hown
      go_wp2_with (at_builtin; go_must (refine wpList_append_own _ rfl _ _ 45 rfl w1.heap.size 9 j0 _ 1 16 Try.underlying45 hj hy0 hy1 hy2 rfl (by decide) u7 k _ rfl (World.ownsRow.alloc hown2 _) ⟨w2.heap.size, 0, none⟩ 1 1 [.string (s.extract (bAt s pos) (bAt s (nS s)))] rfl rfl (cells_new _ [_] _ _ rfl) (by simp [Value.oneCell']) (by unfold maxLen; omega) (by omega) (by simp; omega) ?_); intro v' w3 hown' hgrow _)
      have hb4 : Below w1.heap.size w1 w3 := (hb23.alloc (by omega) _).grown hgrow (by simp; omega) (fun k e => (hlt6 k e).1)
      go_ret
      refine ⟨⟨_, rfl, ?_⟩, Hb1.out.trans (hb4.mono hs1)⟩
      rw [← hfin.out, List.map_append]
      exact own_mono hown' hs1
end Go.Proofs.Ytkenffbonnbflaa
