/- Walks: guiseref1.Joins, guiselaw1.UtfJoins: texts of at most 1048576 bytes together, under the two tables of unicode/utf8. -/
import Derived.Test.YtkenffbonnbflaaDoorBound
namespace Go.Proofs.YtkenffbonnbflaaDoor
open Go.RowKit
set_option linter.unusedVariables false

/-- what the joined text's spots should be -/
def joinL (s t : ByteArray) : List Spt := sp s ++ (sp t).map (Spt.move s.size)
theorem joinL_iff (s t : ByteArray) : IsB (s.data.toList ++ t.data.toList) s.size ↔ sp (s ++ t) = joinL s t := by
  have h := joins_iff s.data.toList t.data.toList
  rw [toList_len] at h
  unfold joinL sp
  rw [app_list]
  exact h
theorem joinL_length (s t : ByteArray) : (joinL s t).length = nS s + nS t := by unfold joinL nS; simp
theorem joinL_left (s t : ByteArray) (k : Nat) (y : Spt) (h : (sp s)[k]? = some y) : (joinL s t)[k]? = some y := by
  unfold joinL
  rw [List.getElem?_append_left (List.getElem?_eq_some_iff.1 h).1, h]
theorem joinL_right (s t : ByteArray) (k : Nat) (y : Spt) (hk : nS s ≤ k) (h : (sp t)[k - nS s]? = some y) : (joinL s t)[k]? = some ⟨y.r, y.pos + s.size, y.n, y.bad⟩ := by
  unfold joinL
  unfold nS at hk h
  rw [List.getElem?_append_right hk, List.getElem?_map, h]
  rfl
theorem spt_ext {x y : Spt} (h1 : x.r = y.r) (h2 : x.pos = y.pos) (h3 : x.n = y.n) (h4 : x.bad = y.bad) : x = y := by
  cases x; cases y; simp_all

theorem below_dn {B : Nat} {a w : World} (h : Below B a w) (n : Nat) : Below B a (w.drewN n) := h.trans ⟨rfl, rfl, rfl, Nat.le_refl _, fun _ _ => rfl⟩
def JoinsRel (s t : ByteArray) (k : Nat) : Prop := ∀ j, j < k → (sp (s ++ t))[j]? = (joinL s t)[j]?
theorem JoinsRel.yes {s t : ByteArray} (hl : nS (s ++ t) = nS s + nS t) (h : JoinsRel s t (nS (s ++ t))) : isBb (s.data.toList ++ t.data.toList) s.size = true := by
  refine isBb_yes ((joinL_iff s t).2 ?_)
  apply List.ext_getElem?
  intro i
  rcases Nat.lt_or_ge i (nS (s ++ t)) with c | c
  · exact h i c
  · rw [List.getElem?_eq_none (by exact c), List.getElem?_eq_none (by rw [joinL_length]; omega)]
theorem JoinsRel.no {s t : ByteArray} (k : Nat) (h : (sp (s ++ t))[k]? ≠ (joinL s t)[k]?) : isBb (s.data.toList ++ t.data.toList) s.size = false :=
  isBb_no (fun c => h (by rw [(joinL_iff s t).1 c]))

set_option maxRecDepth 100000 in
set_option maxHeartbeats 4000000 in
theorem refJoins (s t : ByteArray) (w : World) (hs : s.size + t.size ≤ 1048576) :
    Calls Tryd.prog 41 #[.string s, .string t] w fun e w' => e = .returned (.bool (isBb (s.data.toList ++ t.data.toList) s.size)) ∧ Below w.heap.size w w' := by
  have hst : (s ++ t).size ≤ 1048576 := by rw [ByteArray.size_append]; omega
  have n1 := nS_le s
  have n2 := nS_le t
  have n3 := nS_le (s ++ t)
  have HC := Lib.hid (fun w => Spots_is (s ++ t) w hst)
  obtain ⟨u, hu⟩ : ∃ u, s ++ t = u := ⟨_, rfl⟩
  have Hu := Lib.hid hu
  go_enter Tryd.func41, Tryd.ntmps41
  go_wp2_with fail
  refine (Spots_is s _ (by omega)).mono ?_
  rintro e w1 ⟨⟨A1, c1, rfl, hA1⟩, hb1⟩
  go_wp2_with fail
  refine (Spots_is t _ (by omega)).mono ?_
  rintro e w2 ⟨⟨A2, c2, rfl, hA2⟩, hb2⟩
  have hb12 := hb1.trans (hb2.mono hb1.size)
  rw [hu] at HC n3
  go_wp2_with fail
  refine (HC.out _).mono ?_
  rintro e w3 ⟨⟨A3, c3, rfl, hA3⟩, hb3⟩
  have hb13 := hb12.trans (hb3.mono hb12.size)
  have H1 := Lib.hid ((hA1.below hb2).below hb3)
  have H2 := Lib.hid (hA2.below hb3)
  have H3 := Lib.hid hA3
  clear hA1 hA2 hA3 hb1 hb2 hb3 hb12
  by_cases hl : nS u = nS s + nS t
  · have t1 : ((nS u : Int) == (nS s : Int) + (nS t : Int)) = true := by rw [beq_iff_eq]; omega
    have Hl := Lib.hid hl
    clear hl hu
    go_wp2_with fail
    go_loopw [8] (fun i wr => ∃ k : Nat, k ≤ nS u ∧ i = .int .i64 (k : Int) ∧ Hid (JoinsRel s t k) ∧ Below w3.heap.size w3 wr) (fun i _ => nS u - (intOf i).toNat)
    case atStart => exact ⟨0, Nat.zero_le _, rfl, Lib.hid (fun j h => by omega), Below.refl _ _⟩
    case round =>
      obtain ⟨k, hk, rfl, hrl, hbk⟩ := hrel
      by_cases hlt : k < nS u
      · obtain ⟨g3, x, rfl, hg3, hx, hp, hpn, x0, x1, x2, x3⟩ := (H3.out.below hbk).at k hlt
        have hxr := sp_range u x (List.mem_of_getElem? hx)
        have Hx := Lib.hid hx
        clear hp hpn hx
        by_cases hks : k < nS s
        · obtain ⟨g1, y, rfl, hg1, hy, hp, hpn, y0, y1, y2, y3⟩ := (H1.out.below hbk).at k hks
          have hyr := sp_range s y (List.mem_of_getElem? hy)
          have Hy := Lib.hid (joinL_left s t k y hy)
          clear hp hpn hy
          have hlen : k < (sp u).length := hlt
          by_cases e1 : x.r = y.r
          · by_cases e2 : x.pos = y.pos
            · by_cases e3 : x.n = y.n
              · by_cases e4 : x.bad = y.bad
                · have HR : Hid (JoinsRel s t (k + 1)) := Lib.hid (fun j hj => by
                    rcases Nat.lt_or_eq_of_le (Nat.lt_succ_iff.1 hj) with h | rfl
                    · exact hrl.out j h
                    · rw [Hy.out, Hu.out, Hx.out]
                      exact congrArg some (spt_ext e1 e2 e3 e4))
                  have f1 : ((x.r : Int) == (y.r : Int)) = true := by rw [beq_iff_eq]; omega
                  have f2 : ((x.pos : Int) == (y.pos : Int)) = true := by rw [beq_iff_eq]; omega
                  have f3 : ((x.n : Int) == (y.n : Int)) = true := by rw [beq_iff_eq]; omega
                  have f4 : (x.bad == y.bad) = true := by rw [beq_iff_eq]; exact e4
                  clear e1 e2 e3 e4 hlen
                  go_wp2_with fail
                  go_quiet (fail)
                  go_wp2_with fail
                  go_roundw
                  case rel => exact ⟨k + 1, by omega, by go_num, HR, below_dn (hbk.alloc hbk.size _) _⟩
                  case measure => simp [intOf]; omega
                · have HB := Lib.hid (JoinsRel.no (s := s) (t := t) k (by rw [Hy.out, Hu.out, Hx.out]; intro c; have c2 := Option.some.inj c; exact e4 (by rw [c2])))
                  have f1 : (x.bad == y.bad) = false := by rw [beq_eq_false_iff_ne]; exact e4
                  clear hlen e1 e2 e3 e4
                  go_wp2_with fail
                  go_quiet (fail)
                  go_wp2_with fail
                  go_ret
                  rw [HB.out]
                  exact ⟨rfl, hb13.trans ((below_dn (hbk.alloc hbk.size _) _).mono hb13.size)⟩
              · have HB := Lib.hid (JoinsRel.no (s := s) (t := t) k (by rw [Hy.out, Hu.out, Hx.out]; intro c; have c2 := Option.some.inj c; exact e3 (by rw [c2])))
                have f1 : ((x.n : Int) == (y.n : Int)) = false := by rw [beq_eq_false_iff_ne]; omega
                clear hlen e1 e2 e3
                go_wp2_with fail
                go_quiet (fail)
                go_wp2_with fail
                go_ret
                rw [HB.out]
                exact ⟨rfl, hb13.trans ((below_dn (hbk.alloc hbk.size _) _).mono hb13.size)⟩
            · have HB := Lib.hid (JoinsRel.no (s := s) (t := t) k (by rw [Hy.out, Hu.out, Hx.out]; intro c; have c2 := Option.some.inj c; exact e2 (by rw [c2])))
              have f1 : ((x.pos : Int) == (y.pos : Int)) = false := by rw [beq_eq_false_iff_ne]; omega
              clear hlen e1 e2
              go_wp2_with fail
              go_quiet (fail)
              go_wp2_with fail
              go_ret
              rw [HB.out]
              exact ⟨rfl, hb13.trans ((below_dn (hbk.alloc hbk.size _) _).mono hb13.size)⟩
          · have HB := Lib.hid (JoinsRel.no (s := s) (t := t) k (by rw [Hy.out, Hu.out, Hx.out]; intro c; have c2 := Option.some.inj c; exact e1 (by rw [c2])))
            have f1 : ((x.r : Int) == (y.r : Int)) = false := by rw [beq_eq_false_iff_ne]; omega
            clear hlen e1
            go_wp2_with fail
            go_quiet (fail)
            go_wp2_with fail
            go_ret
            rw [HB.out]
            exact ⟨rfl, hb13.trans ((below_dn (hbk.alloc hbk.size _) _).mono hb13.size)⟩
        · obtain ⟨j, hj⟩ : ∃ j, k = nS s + j := ⟨k - nS s, by omega⟩
          obtain ⟨g2, y, rfl, hg2, hy, hp, hpn, y0, y1, y2, y3⟩ := (H2.out.below hbk).at j (by have := Hl.out; omega)
          have hyr := sp_range t y (List.mem_of_getElem? hy)
          have Hy := Lib.hid (joinL_right s t k y (by omega) (by rw [show k - nS s = j by omega]; exact hy))
          have i1 : (nS s : Int) ≤ (k : Int) := by omega
          have i2 : (k : Int) - (nS s : Int) = (j : Int) := by omega
          have i3 : (j : Int) < (nS t : Int) := by have := Hl.out; omega
          have i4 : j < nS t := by have := Hl.out; omega
          have i5 : nS s ≤ k := by omega
          clear hp hpn hy hj hks
          have g2n : g2 ≠ wr.heap.size := by omega
          have hlen : k < (sp u).length := hlt
          by_cases e1 : x.r = y.r
          · by_cases e2 : x.pos = y.pos + s.size
            · by_cases e3 : x.n = y.n
              · by_cases e4 : x.bad = y.bad
                · have HR : Hid (JoinsRel s t (k + 1)) := Lib.hid (fun j hj => by
                    rcases Nat.lt_or_eq_of_le (Nat.lt_succ_iff.1 hj) with h | rfl
                    · exact hrl.out j h
                    · rw [Hy.out, Hu.out, Hx.out]
                      exact congrArg some (spt_ext e1 e2 e3 e4))
                  have f1 : ((x.r : Int) == (y.r : Int)) = true := by rw [beq_iff_eq]; omega
                  have f2 : ((x.pos : Int) == (y.pos : Int) + (s.size : Int)) = true := by rw [beq_iff_eq]; omega
                  have f3 : ((x.n : Int) == (y.n : Int)) = true := by rw [beq_iff_eq]; omega
                  have f4 : (x.bad == y.bad) = true := by rw [beq_iff_eq]; exact e4
                  clear e1 e2 e3 e4 hlen
                  go_wp2_with fail
                  go_quiet (fail)
                  go_wp2_with fail
                  go_roundw
                  case rel => exact ⟨k + 1, by omega, by go_num, HR, below_dn (hbk.alloc hbk.size _) _⟩
                  case measure => simp [intOf]; omega
                · have HB := Lib.hid (JoinsRel.no (s := s) (t := t) k (by rw [Hy.out, Hu.out, Hx.out]; intro c; have c2 := Option.some.inj c; exact e4 (by rw [c2])))
                  have f1 : (x.bad == y.bad) = false := by rw [beq_eq_false_iff_ne]; exact e4
                  clear hlen e1 e2 e3 e4
                  go_wp2_with fail
                  go_quiet (fail)
                  go_wp2_with fail
                  go_ret
                  rw [HB.out]
                  exact ⟨rfl, hb13.trans ((below_dn (hbk.alloc hbk.size _) _).mono hb13.size)⟩
              · have HB := Lib.hid (JoinsRel.no (s := s) (t := t) k (by rw [Hy.out, Hu.out, Hx.out]; intro c; have c2 := Option.some.inj c; exact e3 (by rw [c2])))
                have f1 : ((x.n : Int) == (y.n : Int)) = false := by rw [beq_eq_false_iff_ne]; omega
                clear hlen e1 e2 e3
                go_wp2_with fail
                go_quiet (fail)
                go_wp2_with fail
                go_ret
                rw [HB.out]
                exact ⟨rfl, hb13.trans ((below_dn (hbk.alloc hbk.size _) _).mono hb13.size)⟩
            · have HB := Lib.hid (JoinsRel.no (s := s) (t := t) k (by rw [Hy.out, Hu.out, Hx.out]; intro c; have c2 := Option.some.inj c; exact e2 (by rw [c2])))
              have f1 : ((x.pos : Int) == (y.pos : Int) + (s.size : Int)) = false := by rw [beq_eq_false_iff_ne]; omega
              clear hlen e1 e2
              go_wp2_with fail
              go_quiet (fail)
              go_wp2_with fail
              go_ret
              rw [HB.out]
              exact ⟨rfl, hb13.trans ((below_dn (hbk.alloc hbk.size _) _).mono hb13.size)⟩
          · have HB := Lib.hid (JoinsRel.no (s := s) (t := t) k (by rw [Hy.out, Hu.out, Hx.out]; intro c; have c2 := Option.some.inj c; exact e1 (by rw [c2])))
            have f1 : ((x.r : Int) == (y.r : Int)) = false := by rw [beq_eq_false_iff_ne]; omega
            clear hlen e1
            go_wp2_with fail
            go_quiet (fail)
            go_wp2_with fail
            go_ret
            rw [HB.out]
            exact ⟨rfl, hb13.trans ((below_dn (hbk.alloc hbk.size _) _).mono hb13.size)⟩
      · obtain rfl : k = nS u := by omega
        have HB : isBb (s.data.toList ++ t.data.toList) s.size = true := JoinsRel.yes (by rw [Hu.out]; exact Hl.out) (by rw [Hu.out]; exact hrl.out)
        have HB := Lib.hid HB
        go_wp2_with fail
        go_ret
        rw [HB.out]
        exact ⟨rfl, hb13.trans (hbk.mono hb13.size)⟩
  · have t1 : ((nS u : Int) == (nS s : Int) + (nS t : Int)) = false := by rw [beq_eq_false_iff_ne]; omega
    have HB := isBb_no (l := s.data.toList ++ t.data.toList) (q := s.size) (fun c => hl (by
      have h := congrArg List.length ((joinL_iff s t).1 c)
      rw [joinL_length, hu] at h
      exact h))
    have HB := Lib.hid HB
    clear hl hu
    go_wp2_with fail
    go_ret
    rw [HB.out]
    exact ⟨rfl, hb13⟩

set_option maxHeartbeats 1000000 in
theorem joinsU_walk (s t : ByteArray) (w : World) (hs : s.size + t.size ≤ 1048576) (hT : Lib.Utf8Tabs 0 1 w) :
    Calls Tryd.prog 7 #[.string s, .string t] w fun e w' => e = .returned (.bool true) ∧ Below w.heap.size w w' := by
  have HJ := (fun w hT => Joins_any s t w (by omega) (by omega) hT)
  have HR := (fun w => refJoins s t w hs)
  generalize isBb (s.data.toList ++ t.data.toList) s.size = b at HJ HR
  have HJ := Lib.hid HJ
  have HR := Lib.hid HR
  have HT := Lib.hid hT
  have HF := Lib.hid (fun w hT => alive_yes w hT)
  clear hT
  go_enter Tryd.func7, Tryd.ntmps7
  go_wp2_with fail
  refine (HF.out _ HT.out).mono ?_
  rintro e w1 ⟨rfl, hb1⟩
  go_wp2_with fail
  refine (HJ.out _ (Utf8Tabs_below HT.out hb1)).mono ?_
  rintro e w2 ⟨rfl, hb2⟩
  have hb12 := hb1.trans (hb2.mono hb1.size)
  go_wp2_with fail
  refine (HR.out _).mono ?_
  rintro e w3 ⟨rfl, hb3⟩
  go_wp2_with fail
  go_ret
  exact ⟨by first | rfl | simp, hb12.trans (hb3.mono hb12.size)⟩
end Go.Proofs.YtkenffbonnbflaaDoor
