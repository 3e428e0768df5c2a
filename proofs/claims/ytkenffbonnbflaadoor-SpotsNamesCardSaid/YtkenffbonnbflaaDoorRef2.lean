/- Walks: the reference of chapter 2: Of, Where, Byte. -/
import Derived.Test.YtkenffbonnbflaaDoorText2
import Derived.Test.YtkenffbonnbflaaDoorPld
import Derived.Deep.Draws
import Derived.Deep.QuietTactic
import Derived.BigQuiet
namespace Go.Proofs.YtkenffbonnbflaaDoor
open Go.RowKit
set_option linter.unusedVariables false

theorem sptsCells_get : ∀ (L : List Spt) (i j : Nat) (x : Spt), L[i]? = some x → j < 4 → (sptsCells L)[i * 4 + j]? = (sptCells x)[j]?
  | [], i, j, x, h, hj => by simp at h
  | y :: r, 0, j, x, h, hj => by
    simp only [List.getElem?_cons_zero, Option.some.injEq] at h
    subst h
    show (sptCells y ++ sptsCells r)[0 * 4 + j]? = _
    rw [List.getElem?_append_left (by simp [sptCells]; omega)]
    congr 1; omega
  | y :: r, i + 1, j, x, h, hj => by
    rw [List.getElem?_cons_succ] at h
    have ih := sptsCells_get r i j x h hj
    show (sptCells y ++ sptsCells r)[(i + 1) * 4 + j]? = _
    rw [List.getElem?_append_right (by simp [sptCells]; omega), ← ih]
    congr 1; simp [sptCells]; omega
/-- a spot's cells -/
theorem SpotsAre.at {w : World} {A : Option Addr} {s : ByteArray} (h : SpotsAre w A s) (i : Nat) (hi : i < nS s) :
    ∃ g x, A = some ⟨g, 0, none⟩ ∧ g < w.heap.size ∧ (sp s)[i]? = some x ∧ x.pos = bAt s i ∧ x.pos + x.n = bAt s (i + 1) ∧ w.cell? ⟨g, i * 4, none⟩ = some (.int .i32 x.r) ∧ w.cell? ⟨g, i * 4 + 1, none⟩ = some (.int .i64 x.pos) ∧ w.cell? ⟨g, i * 4 + 2, none⟩ = some (.int .i64 x.n) ∧ w.cell? ⟨g, i * 4 + 3, none⟩ = some (.bool x.bad) := by
  obtain ⟨g, hg, hl, hc⟩ := h (by omega)
  obtain ⟨x, hx⟩ : ∃ x, (sp s)[i]? = some x := ⟨_, List.getElem?_eq_getElem hi⟩
  have hp : x.pos = bAt s i := by rw [bAt_pos, posL_at s.data.toList i x hx]
  refine ⟨g, x, hg, hl, hx, hp, ?_, ?_, ?_, ?_, ?_⟩
  · rw [hp, bAt_pos, bAt_pos, posL_succ s.data.toList i x hx]
  · rw [hc _ (by omega)]; exact sptsCells_get _ i 0 x hx (by omega)
  · rw [hc _ (by omega)]; exact sptsCells_get _ i 1 x hx (by omega)
  · rw [hc _ (by omega)]; exact sptsCells_get _ i 2 x hx (by omega)
  · rw [hc _ (by omega)]; exact sptsCells_get _ i 3 x hx (by omega)

set_option maxHeartbeats 1000000 in
theorem refByte (s : ByteArray) (w : World) (n : Nat) (hn : n ≤ nS s) (hm : s.size ≤ 1048576) :
    Calls Tryd.prog 59 #[.string s, .int .i64 (n : Int)] w fun e w' => e = .returned (.int .i64 (bAt s n : Int)) ∧ Below w.heap.size w w' := by
  have hns := nS_le s
  by_cases hlt : n < nS s
  · have t1 : ((n : Int) == (nS s : Int)) = false := by rw [beq_eq_false_iff_ne]; omega
    go_enter Tryd.func59, Tryd.ntmps59
    go_wp2_with fail
    refine (Spots_is s _ hm).mono ?_
    rintro e w1 ⟨⟨A, c, rfl, hA⟩, hb⟩
    obtain ⟨g, x, rfl, hg, hx, hp, hpn, c0, c1, c2, c3⟩ := hA.at n hlt
    rw [hp] at c1
    clear hp hpn hA
    go_wp2_with fail
    go_ret
    exact ⟨rfl, hb⟩
  · obtain rfl : n = nS s := by omega
    have t1 : ((nS s : Int) == (nS s : Int)) = true := by rw [beq_iff_eq]
    have HE := Lib.hid (bAt_end s)
    go_enter Tryd.func59, Tryd.ntmps59
    go_wp2_with fail
    refine (Spots_is s _ hm).mono ?_
    rintro e w1 ⟨⟨A, c, rfl, hA⟩, hb⟩
    clear hA
    go_wp2_with fail
    go_ret
    refine ⟨?_, hb⟩
    rw [HE.out]
    rfl

set_option maxHeartbeats 1000000 in
theorem refOf_no (s : ByteArray) (w : World) (b : Int) (hb : b < 0 ∨ (s.size : Int) < b) :
    Calls Tryd.prog 61 #[.string s, .int .i64 b] w fun e w' => e = .returned (.int .i64 (-1)) ∧ w = w' := by
  rcases Int.lt_or_le b 0 with h0 | h0
  · clear hb
    go_enter Tryd.func61, Tryd.ntmps61
    go_wp2_with fail
    go_ret
    exact ⟨rfl, rfl⟩
  · have hb' : (s.size : Int) < b := by omega
    clear hb
    go_enter Tryd.func61, Tryd.ntmps61
    go_wp2_with fail
    go_ret
    exact ⟨rfl, rfl⟩
set_option maxHeartbeats 1000000 in
theorem refOf_yes (s : ByteArray) (w : World) (b n : Nat) (hn : IsNum s b n) (hb : b ≤ s.size) (hm : s.size ≤ 1048576) :
    Calls Tryd.prog 61 #[.string s, .int .i64 (b : Int)] w fun e w' => e = .returned (.int .i64 (n : Int)) ∧ Below w.heap.size w w' := by
  have hns := nS_le s
  go_enter Tryd.func61, Tryd.ntmps61
  go_wp2_with fail
  refine (Spots_is s _ hm).mono ?_
  rintro e w1 ⟨⟨A, c, rfl, hA⟩, hb1⟩
  have HN := Lib.hid hn
  clear hn
  go_wp2_with fail
  go_loopw [6] (fun i wr => ∃ k q : Nat, k ≤ nS s ∧ i = .int .i64 (k : Int) ∧ wr = w1.drewN q ∧ bAt s k ≤ b) (fun i _ => nS s - (intOf i).toNat)
  case atStart => exact ⟨0, 0, Nat.zero_le _, rfl, rfl, by rw [bAt_nil]; omega⟩
  case round =>
    obtain ⟨k, q, hk, rfl, rfl, hkb⟩ := hrel
    by_cases hlt : k < nS s
    · obtain ⟨g, x, rfl, hg, hx, hp, hpn, c0, c1, c2, c3⟩ := hA.at k hlt
      have hx2 := (sp_range s x (List.mem_of_getElem? hx))
      by_cases hend : b < bAt s (k + 1)
      · have t1 : decide ((b : Int) < (x.pos : Int) + (x.n : Int)) = true := by rw [decide_eq_true_iff]; omega
        have He : k = n := (show IsNum s b k from ⟨hk, hkb, fun _ => hend⟩).one HN.out
        have HE := Lib.hid He
        clear He hp hpn
        go_wp2_with fail
        go_quiet (fail)
        go_wp2_with fail
        go_ret
        rw [HE.out]
        exact ⟨rfl, hb1.trans ⟨rfl, rfl, rfl, Nat.le_refl _, fun _ _ => rfl⟩⟩
      · have t1 : decide ((b : Int) < (x.pos : Int) + (x.n : Int)) = false := by rw [decide_eq_false_iff_not]; omega
        have Hp := Lib.hid hpn
        clear hp hpn
        go_wp2_with fail
        go_quiet (fail)
        go_wp2_with fail
        go_roundw
        case rel => exact ⟨k + 1, _, by omega, by go_num, rfl, by omega⟩
        case measure => simp [intOf]; omega
    · obtain rfl : k = nS s := by omega
      have He : nS s = n := (show IsNum s b (nS s) from ⟨hk, hkb, fun h => by omega⟩).one HN.out
      have HE := Lib.hid He
      clear He
      go_wp2_with fail
      go_ret
      rw [← HE.out]
      exact ⟨rfl, hb1.trans ⟨rfl, rfl, rfl, Nat.le_refl _, fun _ _ => rfl⟩⟩

end Go.Proofs.YtkenffbonnbflaaDoor
