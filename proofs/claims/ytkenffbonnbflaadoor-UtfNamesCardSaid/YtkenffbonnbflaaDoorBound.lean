/- Walks: utf.Bound, utf.Joins; guiseref1.Bound, guiseref1.Cut. -/
import Derived.Test.YtkenffbonnbflaaDoorCut
namespace Go.Proofs.YtkenffbonnbflaaDoor
open Go.RowKit
set_option linter.unusedVariables false

open Classical in
/-- whether a place is a bound -/
noncomputable def isBb (l : List UInt8) (q : Nat) : Bool := decide (IsB l q)
open Classical in
theorem isBb_yes {l : List UInt8} {q : Nat} (h : IsB l q) : isBb l q = true := by unfold isBb; exact decide_eq_true h
open Classical in
theorem isBb_no {l : List UInt8} {q : Nat} (h : ¬ IsB l q) : isBb l q = false := by unfold isBb; exact decide_eq_false h
open Classical in
theorem isBb_iff {l : List UInt8} {q : Nat} : isBb l q = true ↔ IsB l q := by unfold isBb; exact decide_eq_true_iff
theorem isBb_congr {l l' : List UInt8} {q q' : Nat} (h : IsB l q ↔ IsB l' q') : isBb l q = isBb l' q' := by
  by_cases k : IsB l q
  · rw [isBb_yes k, isBb_yes (h.1 k)]
  · rw [isBb_no k, isBb_no (fun c => k (h.2 c))]
theorem isB_num (s : ByteArray) (q n : Nat) (hn : IsNum s q n) : IsB s.data.toList q ↔ bAt s n = q := by
  constructor
  · rintro ⟨i, hi, hp⟩
    rw [← bAt_pos] at hp
    have h : IsNum s q i := ⟨hi, by omega, fun h => by have := bAt_lt s i (i + 1) (by omega) (by omega); omega⟩
    rw [hn.one h, hp]
  · intro h
    exact ⟨n, hn.1, by rw [← bAt_pos]; exact h⟩

set_option maxHeartbeats 1000000 in
theorem Bound_out (s : ByteArray) (a : Int) (w : World) (h : a < 0 ∨ (s.size : Int) < a) :
    Calls Tryd.prog 35 #[.string s, .int .i64 a] w fun e w' => e = .returned (.bool false) ∧ w = w' := by
  rcases Int.lt_or_le a 0 with h0 | h0
  · clear h
    go_enter Tryd.func35, Tryd.ntmps35
    go_wp2_with fail
    go_ret
    exact ⟨rfl, rfl⟩
  · have h1 : (s.size : Int) < a := by omega
    clear h
    go_enter Tryd.func35, Tryd.ntmps35
    go_wp2_with fail
    go_ret
    exact ⟨rfl, rfl⟩
set_option maxHeartbeats 1000000 in
theorem Bound_in (s : ByteArray) (q : Nat) (w : World) (hs : s.size ≤ 9223372036854775807) (hq : q ≤ s.size) (hT : Lib.Utf8Tabs 0 1 w) :
    Calls Tryd.prog 35 #[.string s, .int .i64 (q : Int)] w fun e w' => e = .returned (.bool (isBb s.data.toList q)) ∧ Below w.heap.size w w' := by
  obtain ⟨n, hn⟩ := num_is s q
  have hle := hn.2.1
  have HC := cut_from s (q : Int) q n w hs (by omega) (by omega) hn hT
  obtain ⟨head, hh⟩ : ∃ head, s.extract 0 (bAt s n) = head := ⟨_, rfl⟩
  have hsz : head.size = bAt s n := by rw [← hh, ext_size s 0 _ (by omega) (by omega)]; omega
  rw [hh] at HC
  have HC := Lib.hid HC
  have h1 : (q : Int) ≤ (s.size : Int) := by omega
  clear hT hh
  by_cases he : bAt s n = q
  · have HB := Lib.hid (isBb_yes ((isB_num s q n hn).2 he))
    have t1 : ((head.size : Int) == (q : Int)) = true := by rw [beq_iff_eq]; omega
    clear hsz he hn
    go_enter Tryd.func35, Tryd.ntmps35
    go_wp2_with (go_at_call 34; refine HC.out.mono ?_; rintro e w' ⟨rfl, hb⟩)
    go_ret
    rw [HB.out]
    exact ⟨rfl, hb⟩
  · have HB := Lib.hid (isBb_no (fun c => he ((isB_num s q n hn).1 c)))
    have t1 : ((head.size : Int) == (q : Int)) = false := by rw [beq_eq_false_iff_ne]; omega
    clear hsz he hn
    go_enter Tryd.func35, Tryd.ntmps35
    go_wp2_with (go_at_call 34; refine HC.out.mono ?_; rintro e w' ⟨rfl, hb⟩)
    go_ret
    rw [HB.out]
    exact ⟨rfl, hb⟩

theorem app_list (a b : ByteArray) : (a ++ b).data.toList = a.data.toList ++ b.data.toList := by rw [ByteArray.data_append, Array.toList_append]
/-- what Joins looks at -/
theorem joins_near (s t : ByteArray) : isBb (s.extract (s.size - 3) s.size ++ t.extract 0 (min t.size 3)).data.toList (s.extract (s.size - 3) s.size).size = isBb (s.data.toList ++ t.data.toList) s.size := by
  have h := isB_near s.data.toList t.data.toList
  rw [toList_len] at h
  have e1 : (s.extract (s.size - 3) s.size).data.toList = s.data.toList.drop (s.size - 3) := by
    rw [ext_list, List.take_of_length_le (by rw [List.length_drop, toList_len]; omega)]
  have e2 : (t.extract 0 (min t.size 3)).data.toList = t.data.toList.take 3 := by
    rw [ext_list, List.drop_zero, Nat.sub_zero]
    rcases Nat.lt_or_ge t.size 3 with c | c
    · rw [Nat.min_eq_left (by omega), List.take_of_length_le (by rw [toList_len]; omega), List.take_of_length_le (by rw [toList_len]; omega)]
    · rw [Nat.min_eq_right c]
  rw [app_list, e1, e2]
  refine isBb_congr ?_
  rw [show (s.extract (s.size - 3) s.size).size = (s.data.toList.drop (s.size - 3)).length by rw [← e1, toList_len]]
  exact h.symm
set_option maxHeartbeats 2000000 in
theorem Joins_any (s t : ByteArray) (w : World) (hs : s.size ≤ 9223372036854775807) (ht : t.size ≤ 9223372036854775807) (hT : Lib.Utf8Tabs 0 1 w) :
    Calls Tryd.prog 40 #[.string s, .string t] w fun e w' => e = .returned (.bool (isBb (s.data.toList ++ t.data.toList) s.size)) ∧ Below w.heap.size w w' := by
  have hj := joins_near s t
  have hsz1 : (s.extract (s.size - 3) s.size).size ≤ 3 := by rw [ByteArray.size_extract]; omega
  have hsz2 : (t.extract 0 (min t.size 3)).size ≤ 3 := by rw [ByteArray.size_extract]; omega
  have HB := Bound_in (s.extract (s.size - 3) s.size ++ t.extract 0 (min t.size 3)) (s.extract (s.size - 3) s.size).size w (by rw [ByteArray.size_append]; omega) (by rw [ByteArray.size_append]; omega) hT
  have hsz : (s.extract (s.size - 3) s.size).size = s.size - (s.size - 3) := by rw [ByteArray.size_extract]; omega
  rw [hj, hsz] at HB
  have HB := Lib.hid HB
  clear hsz
  have e1 : max ((s.size : Int) - 4 + 1) 0 = ((s.size - 3 : Nat) : Int) := by omega
  have e2 : min (t.size : Int) 3 = ((min t.size 3 : Nat) : Int) := by omega
  have i1 : ((s.size - 3 : Nat) : Int) ≤ (s.size : Int) := by omega
  have i2 : ((min t.size 3 : Nat) : Int) ≤ (t.size : Int) := by omega
  clear hj hT
  go_enter Tryd.func40, Tryd.ntmps40
  go_wp2_with fail
  refine HB.out.mono ?_
  rintro e w' ⟨rfl, hb⟩
  go_wp2_with fail
  go_ret
  exact ⟨rfl, hb⟩

set_option maxHeartbeats 1000000 in
theorem refBound (s : ByteArray) (q : Nat) (w : World) (hs : s.size ≤ 1048576) (hq : q ≤ s.size) :
    Calls Tryd.prog 32 #[.string s, .int .i64 (q : Int)] w fun e w' => e = .returned (.bool (isBb s.data.toList q)) ∧ Below w.heap.size w w' := by
  have hns := nS_le s
  by_cases he : q = s.size
  · subst he
    have HB := Lib.hid (isBb_yes (l := s.data.toList) (q := s.size) ⟨nS s, Nat.le_refl _, by rw [← bAt_pos, bAt_end]⟩)
    go_enter Tryd.func32, Tryd.ntmps32
    go_wp2_with fail
    go_ret
    rw [HB.out]
    exact ⟨rfl, Below.refl _ _⟩
  · have t0 : ((q : Int) == (s.size : Int)) = false := by rw [beq_eq_false_iff_ne]; omega
    clear he
    go_enter Tryd.func32, Tryd.ntmps32
    go_wp2_with fail
    refine (Spots_is s _ hs).mono ?_
    rintro e w1 ⟨⟨A, c, rfl, hA⟩, hb1⟩
    go_wp2_with fail
    go_loop [6] (fun i => ∃ k : Nat, k ≤ nS s ∧ i = .int .i64 (k : Int) ∧ ∀ j, j < k → bAt s j ≠ q) (fun i => nS s - (intOf i).toNat)
    case atStart => exact ⟨0, Nat.zero_le _, rfl, fun j h => by omega⟩
    case round =>
      obtain ⟨k, hk, rfl, hkb⟩ := hrel
      have Hkb := Lib.hid hkb
      clear hkb
      by_cases hlt : k < nS s
      · obtain ⟨g, x, rfl, hg, hx, hp, hpn, c0, c1, c2, c3⟩ := hA.at k hlt
        have hx2 := (sp_range s x (List.mem_of_getElem? hx))
        have hle := bAt_le s k
        by_cases hend : bAt s k = q
        · have t1 : ((x.pos : Int) == (q : Int)) = true := by rw [beq_iff_eq]; omega
          have HB := Lib.hid (isBb_yes (l := s.data.toList) (q := q) ⟨k, hk, by rw [← bAt_pos]; exact hend⟩)
          clear hp hpn hend
          go_wp2_with fail
          go_ret
          rw [HB.out]
          exact ⟨rfl, hb1⟩
        · have t1 : ((x.pos : Int) == (q : Int)) = false := by rw [beq_eq_false_iff_ne]; omega
          have He := Lib.hid hend
          clear hp hpn hend
          go_wp2_with fail
          go_round
          case rel => exact ⟨k + 1, by omega, by go_num, fun j hj => by rcases Nat.lt_or_eq_of_le (Nat.lt_succ_iff.1 hj) with h | rfl; exact Hkb.out j h; exact He.out⟩
          case measure => simp [intOf]; omega
      · obtain rfl : k = nS s := by omega
        have HB := Lib.hid (isBb_no (l := s.data.toList) (q := q) (fun hc => by
          obtain ⟨i, hi, hp⟩ := hc
          rw [← bAt_pos] at hp
          rcases Nat.lt_or_ge i (nS s) with h | h
          · exact Hkb.out i h hp
          · have e : i = nS s := by unfold nS sp at h ⊢; omega
            rw [e, bAt_end] at hp
            rw [beq_eq_false_iff_ne] at t0
            omega))
        go_wp2_with fail
        go_ret
        rw [HB.out]
        exact ⟨rfl, hb1⟩
set_option maxHeartbeats 1000000 in
theorem refCut (s : ByteArray) (a : Int) (q n : Nat) (w : World) (hs : s.size ≤ 1048576) (ha : 0 < a) (hqe : min a (s.size : Int) = (q : Int)) (hn : IsNum s q n) :
    Calls Tryd.prog 33 #[.string s, .int .i64 a] w fun e w' => e = .returned (.int .i64 (bAt s n : Int)) ∧ Below w.heap.size w w' := by
  have hns := nS_le s
  by_cases he : (s.size : Int) ≤ a
  · have hq : q = s.size := by omega
    have h2 : bAt s n = s.size := by
      have h1 : IsNum s q (nS s) := ⟨Nat.le_refl _, by rw [bAt_end]; omega, fun h => by omega⟩
      rw [hn.one h1, bAt_end]
    have HE := Lib.hid h2
    clear h2 hq hqe hn
    go_enter Tryd.func33, Tryd.ntmps33
    go_wp2_with fail
    go_ret
    rw [HE.out]
    exact ⟨rfl, Below.refl _ _⟩
  · have hlt : a < (s.size : Int) := by omega
    obtain rfl : a = (q : Int) := by omega
    obtain ⟨n1, n2, n3⟩ := hn
    have hnlt : n < nS s := by
      rcases Nat.lt_or_ge n (nS s) with h | h
      · exact h
      · have e : n = nS s := by omega
        rw [e, bAt_end] at n2
        omega
    have N3 := Lib.hid (n3 hnlt)
    clear he hqe n3
    go_enter Tryd.func33, Tryd.ntmps33
    go_wp2_with fail
    refine (Spots_is s _ hs).mono ?_
    rintro e w1 ⟨⟨A, c, rfl, hA⟩, hb1⟩
    go_wp2_with fail
    go_loop [5, 7] (fun b i => ∃ k : Nat, k ≤ nS s ∧ i = .int .i64 (k : Int) ∧ b = .int .i64 (bAt s (min (k - 1) n) : Int)) (fun _ i => nS s - (intOf i).toNat)
    case atStart => exact ⟨0, Nat.zero_le _, rfl, by rw [show min (0 - 1) n = 0 by omega, bAt_nil]; rfl⟩
    case round =>
      obtain ⟨k, hk, rfl, rfl⟩ := hrel
      by_cases hlt : k < nS s
      · obtain ⟨g, x, rfl, hg, hx, hp, hpn, c0, c1, c2, c3⟩ := hA.at k hlt
        have hx2 := (sp_range s x (List.mem_of_getElem? hx))
        by_cases hend : k ≤ n
        · have := bAt_mono s k n hend n1
          have t1 : decide (x.pos ≤ q) = true := by rw [decide_eq_true_iff]; omega
          have He : Hid (x.pos = bAt s (min (k + 1 - 1) n)) := Lib.hid (by rw [show min (k + 1 - 1) n = k by omega]; exact hp)
          clear hp hpn
          go_wp2_with fail
          go_round
          case rel => exact ⟨k + 1, by omega, by go_num, by rw [He.out]⟩
          case measure => simp [intOf]; omega
        · have := bAt_mono s (n + 1) k (by omega) (by omega)
          have t1 : decide (x.pos ≤ q) = false := by rw [decide_eq_false_iff_not]; have := N3.out; omega
          have He : Hid (min (k + 1 - 1) n = min (k - 1) n) := Lib.hid (by omega)
          clear hp hpn
          go_wp2_with fail
          go_round
          case rel => exact ⟨k + 1, by omega, by go_num, by rw [He.out]⟩
          case measure => simp [intOf]; omega
      · obtain rfl : k = nS s := by omega
        have He : Hid (min (nS s - 1) n = n) := Lib.hid (by omega)
        go_wp2_with fail
        go_ret
        rw [He.out]
        exact ⟨rfl, hb1⟩
end Go.Proofs.YtkenffbonnbflaaDoor
