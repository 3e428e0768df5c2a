/- Walks: the reference of chapter 2: Find, Lines. -/
import Derived.Test.YtkenffbonnbflaaRef2
import Derived.Test.YtkenffbonnbflaaParts
namespace Go.Proofs.Ytkenffbonnbflaa
open Go.RowKit
set_option linter.unusedVariables false

/-- a spot stands at a line and a column -/
def AtLC (s : ByteArray) (l c : Int) (i : Nat) : Prop := (lnOf s i : Int) + 1 = l ∧ (i : Int) - (lAt s (lnOf s i) : Int) + 1 = c
theorem AtLC.one {s : ByteArray} {l c : Int} {i j : Nat} (h : AtLC s l c i) (k : AtLC s l c j) : i = j := by
  obtain ⟨h1, h2⟩ := h
  obtain ⟨k1, k2⟩ := k
  have e : lnOf s i = lnOf s j := by omega
  rw [e] at h2
  omega
theorem AtLC.yes (s : ByteArray) (k d : Nat) (hk : k < nL s) (hd : lAt s k + d ≤ eAt s k) : AtLC s ((k : Int) + 1) ((d : Int) + 1) (lAt s k + d) := by
  obtain ⟨_, e2⟩ := eAt_ge s k hk
  have h := (line_of s (lAt s k + d) k (by omega) hk).2 ⟨by omega, hd⟩
  unfold AtLC
  rw [h]
  omega
theorem AtLC.no (s : ByteArray) (l c : Int) (hno : l < 1 ∨ (nL s : Int) < l ∨ ∃ k : Nat, k < nL s ∧ l = (k : Int) + 1 ∧ (c < 1 ∨ (eAt s k : Int) - (lAt s k : Int) < c - 1)) : ∀ j, j ≤ nS s → ¬ AtLC s l c j := by
  rintro j hj ⟨h1, h2⟩
  have hl := lnOf_lt s j hj
  have hle := lAt_lnOf s j hj
  rcases hno with h | h | ⟨k, hk, rfl, h⟩
  · omega
  · omega
  · obtain rfl : lnOf s j = k := by omega
    have h3 := (line_of s j _ hj hk).1 rfl
    omega
theorem AtLC.dec (s : ByteArray) (l c : Int) (i : Nat) : AtLC s l c i ∨ ¬ AtLC s l c i := Classical.em _

set_option maxHeartbeats 1000000 in
theorem refFind (s : ByteArray) (w : World) (l c : Int) (hl : -9223372036854775808 ≤ l ∧ l ≤ 9223372036854775807) (hc : -9223372036854775808 ≤ c ∧ c ≤ 9223372036854775807) (hm : s.size ≤ 1048576) (r : Int)
    (hr : (∃ m : Nat, m ≤ nS s ∧ AtLC s l c m ∧ r = (m : Int)) ∨ ((∀ j, j ≤ nS s → ¬ AtLC s l c j) ∧ r = -1)) :
    Calls Try.prog 33 #[.string s, .int .i64 l, .int .i64 c] w fun e w' => e = .returned (.int .i64 r) ∧ Below w.heap.size w w' := by
  have hns := nS_le s
  have hnl := nL_le s
  have HR := Lib.hid hr
  clear hr
  go_enter Try.func33, Try.ntmps33
  go_wp2_with fail
  refine (Spots_is s _ hm).mono ?_
  rintro e w1 ⟨⟨A, cc, rfl, hA⟩, hb1⟩
  clear hA
  have hs1 := hb1.size
  go_wp2_with fail
  go_loopw [8] (fun i wr => ∃ k : Nat, k ≤ nS s + 1 ∧ i = .int .i64 (k : Int) ∧ (∀ j, j < k → ¬ AtLC s l c j) ∧ Below w1.heap.size w1 wr) (fun i _ => nS s + 1 - (intOf i).toNat)
  case atStart => exact ⟨0, Nat.zero_le _, rfl, fun j hj => by omega, Below.refl _ _⟩
  case round =>
    obtain ⟨k, hk, rfl, hno, hb2⟩ := hrel
    have Hno := Lib.hid hno
    clear hno
    have hs2 := hb2.size
    by_cases hlt : k ≤ nS s
    · have HW := Lib.hid (refWhere s wr k hlt hm)
      have l1 := lnOf_lt s k hlt
      have l2 := lAt_lnOf s k hlt
      by_cases hat : AtLC s l c k
      · have t1 : ((lnOf s k : Int) + 1 == l) = true := by rw [beq_iff_eq]; exact hat.1
        have t2 : ((k : Int) - (lAt s (lnOf s k) : Int) + 1 == c) = true := by rw [beq_iff_eq]; exact hat.2
        have HA := Lib.hid hat
        clear hat
        go_wp2_with (go_at_call 31; refine HW.out.mono ?_; rintro e w3 ⟨rfl, hb3⟩)
        go_ret
        refine ⟨?_, hb1.trans ((hb2.trans (hb3.mono hs2)).mono hs1)⟩
        rcases HR.out with ⟨m, hm1, hm2, rfl⟩ | ⟨h1, rfl⟩
        · rw [hm2.one HA.out]
          rfl
        · exact absurd HA.out (h1 k hlt)
      · have Hn := Lib.hid hat
        by_cases h1 : (lnOf s k : Int) + 1 = l
        · have h2 : ¬ (k : Int) - (lAt s (lnOf s k) : Int) + 1 = c := fun h => hat ⟨h1, h⟩
          have t1 : ((lnOf s k : Int) + 1 == l) = true := by rw [beq_iff_eq]; exact h1
          have t2 : ((k : Int) - (lAt s (lnOf s k) : Int) + 1 == c) = false := by rw [beq_eq_false_iff_ne]; exact h2
          clear hat h1 h2
          go_wp2_with (go_at_call 31; refine HW.out.mono ?_; rintro e w3 ⟨rfl, hb3⟩)
          go_roundw
          case rel =>
            refine ⟨k + 1, by omega, by go_num, fun j hj => ?_, hb2.trans (hb3.mono hs2)⟩
            rcases Nat.lt_or_ge j k with h | h
            · exact Hno.out j h
            · rw [show j = k by omega]; exact Hn.out
          case measure => first | (simp [intOf]; done) | (simp [intOf]; omega)
        · have t1 : ((lnOf s k : Int) + 1 == l) = false := by rw [beq_eq_false_iff_ne]; exact h1
          clear hat h1
          go_wp2_with (go_at_call 31; refine HW.out.mono ?_; rintro e w3 ⟨rfl, hb3⟩)
          go_roundw
          case rel =>
            refine ⟨k + 1, by omega, by go_num, fun j hj => ?_, hb2.trans (hb3.mono hs2)⟩
            rcases Nat.lt_or_ge j k with h | h
            · exact Hno.out j h
            · rw [show j = k by omega]; exact Hn.out
          case measure => first | (simp [intOf]; done) | (simp [intOf]; omega)
    · obtain rfl : k = nS s + 1 := by omega
      go_wp2_with fail
      go_ret
      refine ⟨?_, hb1.trans (hb2.mono hs1)⟩
      rcases HR.out with ⟨m, hm1, hm2, rfl⟩ | ⟨h1, rfl⟩
      · exact absurd hm2 (Hno.out m (by omega))
      · rfl

def lineVals (s : ByteArray) (k : Nat) : List Value := (List.range k).map fun i => Value.string (lineS s i)
theorem lineVals_succ (s : ByteArray) (k : Nat) : lineVals s k ++ [.string (lineS s k)] = lineVals s (k + 1) := by
  unfold lineVals
  rw [List.range_succ, List.map_append]
  rfl
theorem byte_at (s : ByteArray) (i : Nat) (hi : i < s.size) : s.data.toList[i]? = some (s.get! i) := by
  have h := Lib.getD_get!' s i
  rw [List.getD_eq_getElem?_getD, List.getElem?_eq_getElem (by rw [toList_len]; exact hi)] at h
  rw [List.getElem?_eq_getElem (by rw [toList_len]; exact hi), ← h]
  rfl
theorem ten_iff (s : ByteArray) (i : Nat) (hi : i < s.size) : (s.get! i).toNat = 10 ↔ s.data.toList[i]? = some 10 := by
  rw [byte_at s i hi]
  constructor
  · intro h
    rw [UInt8.toNat_inj.1 (show (s.get! i).toNat = (10 : UInt8).toNat from h)]
  · intro h
    rw [Option.some.inj h]
    rfl

set_option maxHeartbeats 1000000 in
theorem refLines (s : ByteArray) (w : World) (hm : s.size ≤ 1048576) :
    Calls Try.prog 28 #[.string s] w fun e w' => ∃ v, e = .returned v ∧ w'.ownsRow w.heap.size 9 1 v (nL s) (lineVals s (nL s)) ∧ Below w.heap.size w w' := by
  obtain ⟨j0, hj, hy0, hy1, hy2⟩ := info_parts infoStr
  have hns := nS_le s
  have hnl := nL_le s
  have hnp := nL_pos s
  go_enter Try.func28, Try.ntmps28
  go_wp2_with fail
  go_loopw [3, 4, 5] (fun v f i wr => ∃ (k p : Nat), k < nL s ∧ p ≤ s.size ∧ bAt s (lAt s k) ≤ p ∧ p ≤ bAt s (eAt s k) ∧ f = .int .i64 (bAt s (lAt s k) : Int) ∧ i = .int .i64 (p : Int) ∧ wr.ownsRow w.heap.size 9 1 v k (lineVals s k) ∧ Below w.heap.size w wr) (fun _ _ i _ => s.size - (intOf i).toNat)
  case atStart =>
    refine ⟨0, 0, hnp, Nat.zero_le _, ?_, Nat.zero_le _, ?_, rfl, World.ownsRow_nil _ _ _ _, Below.refl _ _⟩
    · rw [lAt_zero, bAt_nil]; omega
    · rw [lAt_zero, bAt_nil]; rfl
  case round =>
    obtain ⟨k, p, hk, hp, h1, h2, rfl, rfl, hown, hb⟩ := hrel
    have hlt6 := hown.lt
    have hsz := hb.size
    obtain ⟨e1, e2⟩ := eAt_ge s k hk
    have hle := bAt_le s (lAt s k)
    by_cases hlt : p < s.size
    · by_cases h10 : (s.get! p).toNat = 10
      · have h10' := (ten_iff s p hlt).1 h10
        have hpe : p = bAt s (eAt s k) := by
          rcases Nat.lt_or_ge p (bAt s (eAt s k)) with h | h
          · exact absurd h10' (no_ten s k p hk h1 h)
          · omega
        have hk2 : k + 1 < nL s := by
          rcases Nat.lt_or_ge (k + 1) (nL s) with h | h
          · exact h
          · rw [eAt_last s k (by omega), bAt_end] at hpe; omega
        obtain ⟨y1, y2⟩ := yes_ten s k hk2
        have hln : s.extract (bAt s (lAt s k)) p = lineS s k := by rw [hpe]; rfl
        have Hln := Lib.hid hln
        have Hy2 := Lib.hid (show bAt s (lAt s (k + 1)) = p + 1 by omega)
        obtain ⟨f1, f2⟩ := eAt_ge s (k + 1) hk2
        have Hm := Lib.hid (bAt_mono s _ _ f1 f2)
        have hbl := bAt_le s (lAt s (k + 1))
        have t1 : (((s[p]'hlt).toNat : Int) == 10) = true := by rw [beq_iff_eq, ← getL s p hlt]; omega
        clear hpe y1 y2 h10' hln h2
        go_wp2_with (first
          | (at_builtin; go_must (refine wpList_append_own _ rfl _ _ 45 rfl w.heap.size 9 j0 _ 1 16 Try.underlying45 hj hy0 hy1 hy2 rfl (by decide) u3 k _ rfl (hown.alloc _) ⟨wr.heap.size, 0, none⟩ 1 1 [.string (s.extract (bAt s (lAt s k)) p)] rfl rfl (cells_new wr [_] _ _ rfl) (by simp [Value.oneCell']) (by unfold maxLen; omega) (by omega) (by simp; omega) ?_); intro v' w2 hown' hgrow _))
        go_roundw
        case rel =>
          rw [Hln.out, lineVals_succ] at hown'
          refine ⟨k + 1, p + 1, hk2, by omega, by rw [Hy2.out]; omega, by rw [← Hy2.out]; exact Hm.out, by rw [Hy2.out]; go_num, by go_num, hown', (hb.alloc hsz _).grown hgrow (by simp; omega) (fun k e => (hlt6 k e).1)⟩
        case measure => first | (simp [intOf]; done) | (simp [intOf]; omega)
      · have hn10 : ¬ s.data.toList[p]? = some 10 := fun h => h10 ((ten_iff s p hlt).2 h)
        have hp2 : p + 1 ≤ bAt s (eAt s k) := by
          rcases Nat.lt_or_ge (k + 1) (nL s) with h | h
          · obtain ⟨y1, y2⟩ := yes_ten s k h
            rcases Nat.lt_or_ge p (bAt s (eAt s k)) with c | c
            · exact c
            · rw [show bAt s (eAt s k) = p by omega] at y1; exact absurd y1 hn10
          · rw [eAt_last s k (by omega), bAt_end]; omega
        have t1 : (((s[p]'hlt).toNat : Int) == 10) = false := by rw [beq_eq_false_iff_ne, ← getL s p hlt]; omega
        clear hn10
        go_wp2_with fail
        go_roundw
        case rel => exact ⟨k, p + 1, hk, by omega, by omega, hp2, rfl, by go_num, hown, hb⟩
        case measure => first | (simp [intOf]; done) | (simp [intOf]; omega)
    · obtain rfl : p = s.size := by omega
      have hkl : k + 1 = nL s := by
        rcases Nat.lt_or_ge (k + 1) (nL s) with h | h
        · obtain ⟨y1, y2⟩ := yes_ten s k h
          have := bAt_le s (lAt s (k + 1))
          omega
        · omega
      have hln : s.extract (bAt s (lAt s k)) s.size = lineS s k := by
        unfold lineS
        rw [eAt_last s k (by omega), bAt_end]
      have Hln := Lib.hid hln
      clear hln h2
      go_wp2_with (first
        | (at_builtin; go_must (refine wpList_append_own _ rfl _ _ 45 rfl w.heap.size 9 j0 _ 1 16 Try.underlying45 hj hy0 hy1 hy2 rfl (by decide) u3 k _ rfl (hown.alloc _) ⟨wr.heap.size, 0, none⟩ 1 1 [.string (s.extract (bAt s (lAt s k)) s.size)] rfl rfl (cells_new wr [_] _ _ rfl) (by simp [Value.oneCell']) (by unfold maxLen; omega) (by omega) (by simp; omega) ?_); intro v' w2 hown' hgrow _))
      go_ret
      rw [Hln.out, lineVals_succ, hkl] at hown'
      exact ⟨_, rfl, hown', (hb.alloc hsz _).grown hgrow (by simp; omega) (fun k e => (hlt6 k e).1)⟩
end Go.Proofs.Ytkenffbonnbflaa
