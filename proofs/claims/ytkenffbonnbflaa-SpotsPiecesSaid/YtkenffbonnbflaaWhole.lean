/- Walk: guiselaw2.SpotsWhole. -/
import Derived.Test.YtkenffbonnbflaaBytes
namespace Go.Proofs.Ytkenffbonnbflaa
open Go.RowKit
set_option linter.unusedVariables false

/-- how many bytes the first k lines have, with a byte 10 between each two -/
def upto (s : ByteArray) (k : Nat) : Nat := if k = 0 then 0 else bAt s (eAt s (k - 1))
theorem lAt_zero (s : ByteArray) : lAt s 0 = 0 := rfl
theorem bAt_zero (s : ByteArray) : bAt s 0 = 0 := by rw [bAt_pos]; exact posL_zero _
theorem upto_one (s : ByteArray) : lineS s 0 = s.extract 0 (upto s 1) := by
  unfold lineS upto
  rw [lAt_zero, bAt_zero, if_neg (by omega)]
theorem upto_next (s : ByteArray) (k : Nat) (h : k + 1 < nL s) : s.data.toList[upto s (k + 1)]? = some 10 ∧ lineS s (k + 1) = s.extract (upto s (k + 1) + 1) (upto s (k + 2)) ∧ upto s (k + 1) + 1 ≤ upto s (k + 2) ∧ upto s (k + 1) < s.size := by
  obtain ⟨h1, h2⟩ := line_next s.data.toList k h
  have e1 : upto s (k + 1) = posL s.data.toList (endL s.data.toList k) := by unfold upto; rw [if_neg (by omega), bAt_pos]; rfl
  have e2 : bAt s (lAt s (k + 1)) = posL s.data.toList (endL s.data.toList k) + 1 := by rw [bAt_pos]; exact h2
  have g := eAt_ge s (k + 1) h
  refine ⟨by rw [e1]; exact h1, ?_, ?_, ?_⟩
  · unfold lineS
    rw [e2, e1]
    rfl
  · have := bAt_mono s _ _ g.1 g.2
    rw [e2] at this
    rw [e1]
    exact this
  · have := (List.getElem?_eq_some_iff.1 h1).1
    rw [toList_len] at this
    omega
theorem upto_end (s : ByteArray) : upto s (nL s) = s.size := by
  have hp := nL_pos s
  unfold upto
  rw [if_neg (by omega), eAt_last s _ (by omega), bAt_end]
theorem upto_le (s : ByteArray) (k : Nat) : upto s k ≤ s.size := by
  unfold upto; split
  · omega
  · exact bAt_le s _

def WholeRel (s : ByteArray) (T gb cb gl cl : Nat) (w wr : World) (k : Nat) (v : Value) : Prop :=
  wr.ownsRow w.heap.size 5 1 v (upto s k) (Lib.strCells (s.extract 0 (upto s k))) ∧ TextIs wr T s gb cb gl cl ∧ Below w.heap.size w wr

set_option maxRecDepth 100000 in
set_option maxHeartbeats 2000000 in
theorem whole_walk (s : ByteArray) (w : World) (hx : s.size ≤ 9223372036854775807) :
    Calls Try.prog 5 #[.string s] w fun e w' => e = .returned (.bool true) ∧ Below w.heap.size w w' := by
  obtain ⟨i0, hi, hz0, hz1, hz2⟩ := info_parts infoU8
  by_cases hm : s.size ≤ 65536
  · have hns := nS_le s
    have hnl := nL_le s
    have hnp := nL_pos s
    go_enter Try.func5, Try.ntmps5
    go_wp2_with fail
    refine (begun_ok s _ hm).mono ?_
    rintro e w1 ⟨⟨T, gb, cb, gl, cl, rfl, ht⟩, hb1⟩
    have hs1 := hb1.size
    go_wp2_with fail
    go_loopw [6, 7] (fun v i wr => ∃ k : Nat, k ≤ nL s ∧ i = .int .i64 ((k : Int) + 1) ∧ WholeRel s T gb cb gl cl w1 wr k v) (fun _ i _ => nL s + 1 - (intOf i).toNat)
    case atStart =>
      refine ⟨0, Nat.zero_le _, rfl, ?_, ht, Below.refl _ _⟩
      have e : upto s 0 = 0 := rfl
      rw [e, ext_zero]
      exact World.ownsRow_nil _ _ _ _
    case round =>
      obtain ⟨k, hk, rfl, hr⟩ := hrel
      have HL := Lib.hid (Lines_any hr.2.1)
      have hsz := hr.2.2.size
      have hul := upto_le s k
      by_cases hlt : k < nL s
      · have HLn := Lib.hid (Line_yes hr.2.1 k hlt)
        have hown := hr.1
        have hlt6 := hown.lt
        have HR := Lib.hid hr
        clear hr
        rcases Nat.eq_zero_or_pos k with rfl | hk0
        · have hu1 := upto_le s 1
          have HU := Lib.hid (upto_one s)
          have hsz1 : (lineS s 0).size = upto s 1 := by rw [HU.out, ext_size s 0 _ (Nat.zero_le _) hu1]; rfl
          have Hsz1 := Lib.hid hsz1
          have hle : (lineS s 0).size ≤ 65536 := by omega
          clear hsz1
          go_wp2_with (first
            | (go_at_call 25; refine HL.out.mono ?_; rintro e w' ⟨rfl, rfl⟩)
            | (go_at_call 26; refine HLn.out.mono ?_; rintro e w' ⟨rfl, nd, rfl⟩)
            | (at_builtin; go_must (refine Lib.wpList_append_own_string _ rfl _ _ 22 9 rfl w1.heap.size 5 i0 Try.underlying22 Try.underlying9 hi hz0 hz1 hz2 u6 (upto s 0) _ rfl hown (lineS s 0) rfl (by unfold maxLen; omega) (by omega) (by simp; omega) ?_); intro v' w2 hown' hgrow _))
          go_roundw
          case rel =>
            refine ⟨1, by omega, by go_num, ?_, ?_, ?_⟩
            · have e : upto s 0 = 0 := rfl
              rw [e, Nat.zero_add, Hsz1.out, ext_zero, List.nil_append, HU.out] at hown'
              exact hown'
            · exact ht.below ((HR.out.2.2.trans ⟨rfl, rfl, rfl, Nat.le_refl _, fun _ _ => rfl⟩ : Below w1.heap.size w1 (wr.drewN nd)).grown hgrow (by simp; omega) (fun k e => (hlt6 k e).1))
            · exact (HR.out.2.2.trans ⟨rfl, rfl, rfl, Nat.le_refl _, fun _ _ => rfl⟩ : Below w1.heap.size w1 (wr.drewN nd)).grown hgrow (by simp; omega) (fun k e => (hlt6 k e).1)
          case measure => simp [intOf]; omega
        · obtain ⟨k, rfl⟩ : ∃ j, k = j + 1 := ⟨k - 1, by omega⟩
          obtain ⟨q1, q2, q3, q4⟩ := upto_next s k hlt
          have hu2 := upto_le s (k + 2)
          have HU := Lib.hid q2
          have HQ := Lib.hid q1
          have hsz1 : (lineS s (k + 1)).size = upto s (k + 2) - (upto s (k + 1) + 1) := by rw [HU.out, ext_size s _ _ q3 hu2]
          have Hsz1 := Lib.hid hsz1
          have hle : (lineS s (k + 1)).size ≤ 65536 := by omega
          clear hsz1 q1 q2
          go_wp2_with (first
            | (go_at_call 25; refine HL.out.mono ?_; rintro e w' ⟨rfl, rfl⟩)
            | (go_at_call 26; refine HLn.out.mono ?_; rintro e w' ⟨rfl, nd, rfl⟩)
            | (at_builtin; refine wpList_append_own _ rfl _ _ 22 rfl w1.heap.size 5 i0 _ 1 1 Try.underlying22 hi hz0 hz1 hz2 rfl (by decide) u6 (upto s (k + 1)) _ rfl (World.ownsRow.alloc (w := wr.drewN nd) hown _) ⟨wr.heap.size, 0, none⟩ 1 1 [.int .u8 10] rfl rfl (cells_new (wr.drewN nd) [_] _ _ rfl) (by simp [Value.oneCell']) (by unfold maxLen; omega) (by omega) (by simp; omega) ?_; intro v' w2 hown' hgrow _; have hlt7 := hown'.lt; have hsw2 := hgrow.size; simp at hsw2)
            | (at_builtin; go_must (refine Lib.wpList_append_own_string _ rfl _ _ 22 9 rfl w1.heap.size 5 i0 Try.underlying22 Try.underlying9 hi hz0 hz1 hz2 v' (upto s (k + 1) + 1) _ rfl hown' (lineS s (k + 1)) rfl (by unfold maxLen; omega) (by omega) (by omega) ?_); intro v2 w3 hown2 hgrow2 _))
          have hb2 : Below w1.heap.size w1 w2 := (((HR.out.2.2.trans ⟨rfl, rfl, rfl, Nat.le_refl _, fun _ _ => rfl⟩ : Below w1.heap.size w1 (wr.drewN nd)).alloc (by simp; omega) _).grown hgrow (by simp; omega) (fun k e => (hlt6 k e).1))
          have hb3 : Below w1.heap.size w1 w3 := hb2.grown hgrow2 (by omega) (fun k e => (hlt7 k e).1)
          go_roundw
          case rel =>
            refine ⟨k + 2, by omega, by go_num, ?_, ht.below hb3, hb3⟩
            rw [show (10 : Int) = ((10 : UInt8).toNat : Int) from rfl, strCells_one s _ 10 HQ.out, Hsz1.out, HU.out, strCells_ext s _ _ q3] at hown2
            have e : upto s (k + 1) + 1 + (upto s (k + 2) - (upto s (k + 1) + 1)) = upto s (k + 2) := by omega
            rw [e] at hown2
            exact hown2
          case measure => simp [intOf]; omega
      · obtain rfl : k = nL s := by omega
        have hown := hr.1
        rw [upto_end, ext_all] at hown
        have hcv := conv_own hown
        have HN0 := Lib.hid (Line_no hr.2.1 0 (by omega))
        have HN1 := Lib.hid (Line_no hr.2.1 ((nL s : Int) + 1) (by omega))
        have HR := Lib.hid hr
        clear hr hown
        go_wp2_with (first
          | (go_at_call 25; refine HL.out.mono ?_; rintro e w' ⟨rfl, rfl⟩)
          | (go_at_call 26; refine HN0.out.mono ?_; clear HN0; rintro e w' ⟨rfl, rfl⟩)
          | (go_at_call 26; refine HN1.out.mono ?_; rintro e w' ⟨rfl, rfl⟩))
        go_ret
        exact ⟨by simp; omega, hb1.trans (HR.out.2.2.mono hs1)⟩
  · go_enter Try.func5, Try.ntmps5
    go_wp2_with fail
    refine (begun_long s _ (by omega) hx).mono ?_
    rintro e w1 ⟨rfl, hb1⟩
    go_wp2_with fail
    go_ret
    exact ⟨rfl, hb1⟩
end Go.Proofs.Ytkenffbonnbflaa
