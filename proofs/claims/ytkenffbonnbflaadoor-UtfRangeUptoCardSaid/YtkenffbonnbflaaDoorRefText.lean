/- Walks: guiseref1.Width, Bytes, Runes, Text, Clean, Valid. -/
import Derived.Test.YtkenffbonnbflaaDoorThere
import Derived.Laws.BitsLemmas
import Derived.Test.YtkenffbonnbflaaDoorRef2
namespace Go.Proofs.YtkenffbonnbflaaDoor
open Go.RowKit
set_option linter.unusedVariables false

theorem widI_neg {r : Int} (h : r < 0) : widI r = 0 := by unfold widI Lib.runeLen; rw [if_pos h]; rfl
set_option maxHeartbeats 1000000 in
theorem refWidth (r : Int) (w : World) (hr : -2147483648 ≤ r ∧ r ≤ 2147483647) : Calls Tryd.prog 43 #[.int .i32 r] w fun e w' => e = .returned (.int .i64 (widI r)) ∧ w = w' := by
  obtain ⟨hr1, hr2⟩ := hr
  have fin : ∀ x : Int, x = widI r → Ending.returned (.int .i64 x) = .returned (.int .i64 (widI r)) := fun x h => by rw [h]
  have Fin := Lib.hid fin
  clear fin
  by_cases c0 : r < 0
  · go_enter Tryd.func43, Tryd.ntmps43
    go_wp2
    go_ret
    exact ⟨Fin.out _ (by unfold widI Lib.runeLen; repeat' split; all_goals omega), rfl⟩
  · by_cases c1 : 1114111 < r
    · go_enter Tryd.func43, Tryd.ntmps43
      go_wp2
      go_ret
      exact ⟨Fin.out _ (by unfold widI Lib.runeLen; repeat' split; all_goals omega), rfl⟩
    · by_cases c2 : 55296 ≤ r
      · by_cases c3 : r ≤ 57343
        · go_enter Tryd.func43, Tryd.ntmps43
          go_wp2
          go_ret
          exact ⟨Fin.out _ (by unfold widI Lib.runeLen; repeat' split; all_goals omega), rfl⟩
        · by_cases c4 : r < 65536
          · go_enter Tryd.func43, Tryd.ntmps43
            go_wp2
            go_ret
            exact ⟨Fin.out _ (by unfold widI Lib.runeLen; repeat' split; all_goals omega), rfl⟩
          · go_enter Tryd.func43, Tryd.ntmps43
            go_wp2
            go_ret
            exact ⟨Fin.out _ (by unfold widI Lib.runeLen; repeat' split; all_goals omega), rfl⟩
      · by_cases c4 : r < 128
        · go_enter Tryd.func43, Tryd.ntmps43
          go_wp2
          go_ret
          exact ⟨Fin.out _ (by unfold widI Lib.runeLen; repeat' split; all_goals omega), rfl⟩
        · by_cases c5 : r < 2048
          · go_enter Tryd.func43, Tryd.ntmps43
            go_wp2
            go_ret
            exact ⟨Fin.out _ (by unfold widI Lib.runeLen; repeat' split; all_goals omega), rfl⟩
          · go_enter Tryd.func43, Tryd.ntmps43
            go_wp2
            go_ret
            exact ⟨Fin.out _ (by unfold widI Lib.runeLen; repeat' split; all_goals omega), rfl⟩

theorem and63 (x : Int) (h0 : 0 ≤ x) (h1 : x < 2147483648) : bits BinOp.and IntKind.i32 x 63 = x % 64 := bits_mask .i32 31 (by decide) wraps_i32 6 (by decide) x h0 h1
theorem or128 (y : Int) (h0 : 0 ≤ y) (h1 : y < 64) : bits BinOp.or IntKind.i32 128 y = 128 + y := i32_or6 128 y (by decide) (by decide) (by decide) h0 h1
theorem or224 (y : Int) (h0 : 0 ≤ y) (h1 : y < 16) : bits BinOp.or IntKind.i32 224 y = 224 + y := bits_join .i32 31 (by decide) wraps_i32 4 224 y (by decide) (by decide) (by decide) h0 h1 (by omega)
theorem or240 (y : Int) (h0 : 0 ≤ y) (h1 : y < 8) : bits BinOp.or IntKind.i32 240 y = 240 + y := bits_join .i32 31 (by decide) wraps_i32 3 240 y (by decide) (by decide) (by decide) h0 h1 (by omega)
/-- what Bytes hands back for a rune that may be encoded -/
def BytesEnd (r : Int) (w : World) (e : Ending) (w' : World) : Prop := (∃ g c, e = .returned (.slice (some ⟨g, 0, none⟩) (Lib.runeCells r).length c) ∧ w.heap.size ≤ g ∧ g < w'.heap.size ∧ ∀ j u, (Lib.runeCells r)[j]? = some u → w'.cell? ((⟨g, 0, none⟩ : Addr).add j) = some u) ∧ Below w.heap.size w w'
set_option maxHeartbeats 2000000 in
theorem refBytes (r : Int) (w : World) (hv : Lib.validRune r = true) : Calls Tryd.prog 47 #[.int .i32 r] w (BytesEnd r w) := by
  have h2 := (validRune_iff r).1 hv
  have HW := fun w => refWidth r w (by omega)
  rw [widI_yes hv] at HW
  clear hv
  obtain ⟨n, rfl⟩ : ∃ n : Nat, r = (n : Int) := ⟨r.toNat, by omega⟩
  by_cases c1 : (n : Int) ≤ 127
  · have c0 : (0 : Int) ≤ (n : Int) := by omega
    have hz := Lib.encodeRuneZ_one c0 c1
    unfold Lib.encodeRune at HW
    rw [hz] at HW
    have HW := Lib.hid HW
    have hcs : Lib.runeCells (n : Int) = [.int .u8 (n : Int)] := by unfold Lib.runeCells; rw [hz]; rfl
    have Hcs := Lib.hid hcs
    clear hz h2 hcs
    go_enter Tryd.func47, Tryd.ntmps47
    go_wp2_with (go_at_call 43; refine (HW.out _).mono ?_; simp only [List.map_cons, List.map_nil, List.length_cons, List.length_nil]; rintro e w' ⟨rfl, rfl⟩)
    go_ret
    unfold BytesEnd
    rw [Hcs.out]
    exact ⟨⟨w.heap.size, _, rfl, Nat.le_refl _, by simp, cells_new w _ _ _ rfl⟩, (Below.refl _ w).alloc (Nat.le_refl _) _⟩
  · by_cases c2 : (n : Int) ≤ 2047
    · have c0 : (128 : Int) ≤ (n : Int) := by omega
      have z1 := and63 (n : Int) (by omega) (by omega)
      have z2 := or128 ((n : Int) % 64) (by omega) (by omega)
      have hz := Lib.encodeRuneZ_two c0 c2
      unfold Lib.encodeRune at HW
      rw [hz] at HW
      have HW := Lib.hid HW
      have hcs : Lib.runeCells (n : Int) = [.int .u8 (192 + (n : Int) / 64), .int .u8 (128 + (n : Int) % 64)] := by unfold Lib.runeCells; rw [hz]; rfl
      have Hcs := Lib.hid hcs
      clear hz h2 hcs
      go_enter Tryd.func47, Tryd.ntmps47
      go_wp2_with (go_at_call 43; refine (HW.out _).mono ?_; simp only [List.map_cons, List.map_nil, List.length_cons, List.length_nil]; rintro e w' ⟨rfl, rfl⟩)
      go_ret
      unfold BytesEnd
      rw [Hcs.out]
      exact ⟨⟨w.heap.size, _, rfl, Nat.le_refl _, by simp, cells_new w _ _ _ rfl⟩, (Below.refl _ w).alloc (Nat.le_refl _) _⟩
    · by_cases c3 : (n : Int) ≤ 65535
      · have c0 : (2048 : Int) ≤ (n : Int) := by omega
        have z1 := and63 (n : Int) (by omega) (by omega)
        have z2 := or128 ((n : Int) % 64) (by omega) (by omega)
        have z3 := and63 ((n : Int) / 64) (by omega) (by omega)
        have z4 := or128 ((n : Int) / 64 % 64) (by omega) (by omega)
        have z5 := or224 ((n : Int) / 4096) (by omega) (by omega)
        have hz := Lib.encodeRuneZ_three (r := (n : Int)) (by omega)
        unfold Lib.encodeRune at HW
        rw [hz] at HW
        have HW := Lib.hid HW
        have hcs : Lib.runeCells (n : Int) = [.int .u8 (224 + (n : Int) / 4096), .int .u8 (128 + (n : Int) / 64 % 64), .int .u8 (128 + (n : Int) % 64)] := by unfold Lib.runeCells; rw [hz]; rfl
        have Hcs := Lib.hid hcs
        clear hz h2 hcs
        go_enter Tryd.func47, Tryd.ntmps47
        go_wp2_with (go_at_call 43; refine (HW.out _).mono ?_; simp only [List.map_cons, List.map_nil, List.length_cons, List.length_nil]; rintro e w' ⟨rfl, rfl⟩)
        go_ret
        unfold BytesEnd
        rw [Hcs.out]
        exact ⟨⟨w.heap.size, _, rfl, Nat.le_refl _, by simp, cells_new w _ _ _ rfl⟩, (Below.refl _ w).alloc (Nat.le_refl _) _⟩
      · have c0 : (65536 : Int) ≤ (n : Int) := by omega
        have c4 : (n : Int) ≤ 1114111 := by omega
        have z1 := and63 (n : Int) (by omega) (by omega)
        have z2 := or128 ((n : Int) % 64) (by omega) (by omega)
        have z3 := and63 ((n : Int) / 64) (by omega) (by omega)
        have z4 := or128 ((n : Int) / 64 % 64) (by omega) (by omega)
        have z5 := and63 ((n : Int) / 4096) (by omega) (by omega)
        have z6 := or128 ((n : Int) / 4096 % 64) (by omega) (by omega)
        have z7 := or240 ((n : Int) / 262144) (by omega) (by omega)
        have hz := Lib.encodeRuneZ_four c0 c4
        unfold Lib.encodeRune at HW
        rw [hz] at HW
        have HW := Lib.hid HW
        have hcs : Lib.runeCells (n : Int) = [.int .u8 (240 + (n : Int) / 262144), .int .u8 (128 + (n : Int) / 4096 % 64), .int .u8 (128 + (n : Int) / 64 % 64), .int .u8 (128 + (n : Int) % 64)] := by unfold Lib.runeCells; rw [hz]; rfl
        have Hcs := Lib.hid hcs
        clear hz h2 hcs
        go_enter Tryd.func47, Tryd.ntmps47
        go_wp2_with (go_at_call 43; refine (HW.out _).mono ?_; simp only [List.map_cons, List.map_nil, List.length_cons, List.length_nil]; rintro e w' ⟨rfl, rfl⟩)
        go_ret
        unfold BytesEnd
        rw [Hcs.out]
        exact ⟨⟨w.heap.size, _, rfl, Nat.le_refl _, by simp, cells_new w _ _ _ rfl⟩, (Below.refl _ w).alloc (Nat.le_refl _) _⟩

theorem infoI32 : (Tryd.prog.info? 21).map (fun i => (i.zero, i.size, i.bytes)) = some (some (.int .i32 0), 1, 4) := by kernel_rfl
/-- a row of runes of the call's own -/
theorem runes_own {w : World} {base n : Nat} {v : Value} {ns : List Int} (h : w.ownsRow base 21 1 v n (ns.map (Value.int .i32))) : ∃ A c, v = .slice A ns.length c ∧ RunesAt w A ns := by
  have hl : n = ns.length := by have := h.1; rw [List.length_map] at this; omega
  subst hl
  obtain ⟨A, c, rfl, hA⟩ := own_form h
  refine ⟨A, c, rfl, fun h0 => ?_⟩
  obtain ⟨g, rfl, _, hlt, hc⟩ := hA h0
  refine ⟨⟨g, 0, none⟩, rfl, hlt, fun j hj => ?_⟩
  rw [addr_add0, Nat.zero_add, hc j (by omega), List.getElem?_map, List.getElem?_eq_getElem hj, List.getD_eq_getElem?_getD, List.getElem?_eq_getElem hj]
  rfl
theorem runesI_take (s : ByteArray) (k : Nat) (x : Spt) (h : (sp s)[k]? = some x) : (runesI s.data.toList).take (k + 1) = (runesI s.data.toList).take k ++ [(x.r : Int)] := by
  have h2 : (spots s.data.toList)[k]? = some x := h
  have h4 : (runesI s.data.toList)[k]? = some (x.r : Int) := by unfold runesI runesN; rw [List.getElem?_map, List.getElem?_map, h2]; rfl
  rw [List.take_add_one, h4]
  rfl
set_option maxRecDepth 100000 in
set_option maxHeartbeats 2000000 in
theorem refRunes (s : ByteArray) (w : World) (hs : s.size ≤ 1048576) :
    Calls Tryd.prog 28 #[.string s] w fun e w' => (∃ A c, e = .returned (.slice A (nS s) c) ∧ RunesAt w' A (runesI s.data.toList)) ∧ Below w.heap.size w w' := by
  obtain ⟨i0, hi, hz0, hz1, hz2⟩ := info_parts infoI32
  have hns := nS_le s
  go_enter Tryd.func28, Tryd.ntmps28
  go_wp2_with fail
  refine (Spots_is s _ hs).mono ?_
  rintro e w1 ⟨⟨A, c, rfl, hA⟩, hb1⟩
  have HA := Lib.hid hA
  clear hA
  go_wp2_with fail
  go_loopw [3, 5] (fun v i wr => ∃ k : Nat, k ≤ nS s ∧ i = .int .i64 (k : Int) ∧ wr.ownsRow w1.heap.size 21 1 v k (((runesI s.data.toList).take k).map (Value.int .i32)) ∧ Below w1.heap.size w1 wr) (fun _ i _ => nS s - (intOf i).toNat)
  case atStart => exact ⟨0, Nat.zero_le _, rfl, World.ownsRow_nil _ _ _ _, Below.refl _ _⟩
  case round =>
    obtain ⟨k, hk, rfl, hown, hb⟩ := hrel
    by_cases hlt : k < nS s
    · obtain ⟨g, x, rfl, hg, hx, hp, hpn, x0, x1, x2, x3⟩ := (HA.out.below hb).at k hlt
      have hsz := hb.size
      have hlt3 := hown.lt
      have Ht := Lib.hid (runesI_take s k x hx)
      clear hx hp hpn x1 x2 x3
      go_wp2_with (at_builtin; go_must (refine wpList_append_own _ rfl _ _ 37 rfl w1.heap.size 21 i0 _ 1 4 Tryd.underlying37 hi hz0 hz1 hz2 rfl (by decide) u3 k _ rfl (hown.alloc _) ⟨wr.heap.size, 0, none⟩ 1 1 [.int .i32 (x.r : Int)] rfl rfl (cells_new _ _ _ _ rfl) (by simp [Value.oneCell']) (by unfold maxLen; omega) (by omega) (by simp; omega) ?_); intro v' w2 hown' hgrow _)
      go_roundw
      case rel =>
        refine ⟨k + 1, by omega, by go_num, ?_, (hb.alloc hsz _).grown hgrow (by simp; omega) (fun k e => (hlt3 k e).1)⟩
        rw [Ht.out, List.map_append]
        exact hown'
      case measure => simp [intOf]; omega
    · obtain rfl : k = nS s := by omega
      go_wp2_with fail
      go_ret
      rw [List.take_of_length_le (by rw [runesI_nS]; exact Nat.le_refl _)] at hown
      obtain ⟨A2, c2, rfl, hA2⟩ := runes_own hown
      rw [runesI_nS]
      exact ⟨⟨_, _, rfl, hA2⟩, hb1.trans (hb.mono hb1.size)⟩

theorem strCells_byte (l : List UInt8) : Lib.strCells ⟨l.toArray⟩ = Lib.byteCells l := by unfold Lib.strCells Lib.byteCells; simp
set_option maxRecDepth 100000 in
set_option maxHeartbeats 2000000 in
theorem refText (ns : List Int) (A : Option Addr) (c : Nat) (w : World) (h : RunesAt w A ns) (hl : ns.length ≤ 35184372088832) (hr : ∀ n ∈ ns, -2147483648 ≤ n ∧ n ≤ 2147483647) :
    Calls Tryd.prog 37 #[.slice A ns.length c] w fun e w' => e = .returned (.tuple #[.string (txtB ns), .int .i64 (txtE ns)]) ∧ Below w.heap.size w w' := by
  obtain ⟨i0, hi, hz0, hz1, hz2⟩ := info_parts infoU8
  have H := Lib.hid h
  have HRg := Lib.hid hr
  obtain ⟨n, hn⟩ : ∃ n, ns.length = n := ⟨_, rfl⟩
  have Hn := Lib.hid hn
  have hwk : Hid (∀ k, k ≤ n → (encL (ns.take k)).length ≤ 4 * k) := Lib.hid (fun k hk => by
    have h1 := encL_length (ns.take k)
    have h2 : (ns.take k).length = k := by rw [List.length_take]; omega
    omega)
  rw [hn] at hl
  rw [hn]
  clear h hn hr
  go_enter Tryd.func37, Tryd.ntmps37
  go_wp2_with fail
  go_loopw [4, 5] (fun v i wr => ∃ k : Nat, k ≤ n ∧ i = .int .i64 (k : Int) ∧ Hid (∀ j, j < k → Lib.validRune (ns.getD j 0) = true) ∧ wr.ownsRow w.heap.size 5 1 v (encL (ns.take k)).length (Lib.byteCells (encL (ns.take k))) ∧ Below w.heap.size w wr) (fun _ i _ => n - (intOf i).toNat)
  case atStart => exact ⟨0, Nat.zero_le _, rfl, Lib.hid (fun j h => by omega), World.ownsRow_nil _ _ _ _, Below.refl _ _⟩
  case round =>
    obtain ⟨k, hk, rfl, hkv, hown, hb⟩ := hrel
    by_cases hlt : k < n
    · obtain ⟨a, rfl, hg, hc⟩ := (H.out.below hb) (by rw [Hn.out]; omega)
      have hck := hc k (by rw [Hn.out]; exact hlt)
      have hrr : -2147483648 ≤ ns.getD k 0 ∧ ns.getD k 0 ≤ 2147483647 := HRg.out _ (by rw [List.getD_eq_getElem?_getD, List.getElem?_eq_getElem (by rw [Hn.out]; exact hlt)]; exact List.getElem_mem _)
      have hw := hwk.out k hk
      have HW := fun w => refWidth (ns.getD k 0) w hrr
      cases hv : Lib.validRune (ns.getD k 0) with
      | false =>
        rw [widI_no hv] at HW
        have HW := Lib.hid HW
        have HO := Lib.hid (okL_no (ns := ns) k (by rw [Hn.out]; exact hlt) hv)
        clear hc hv hrr
        generalize ns.getD k 0 = r at hck HW
        go_wp2_with (go_at_call 43; refine (HW.out _).mono ?_; rintro e w' ⟨rfl, rfl⟩)
        go_ret2
        unfold txtB txtE
        rw [HO.out]
        exact ⟨rfl, hb⟩
      | true =>
        rw [widI_yes hv] at HW
        have HW := Lib.hid HW
        have HB := Lib.hid (fun w => refBytes (ns.getD k 0) w hv)
        have hst := Lib.hid (encL_take ns k (by rw [Hn.out]; exact hlt))
        have hcl : Hid (Lib.byteCells (encL (ns.take (k + 1))) = Lib.byteCells (encL (ns.take k)) ++ Lib.runeCells (ns.getD k 0)) := Lib.hid (by
          have hk2 : k < ns.length := by rw [Hn.out]; exact hlt
          rw [List.take_succ_eq_append_getElem hk2, encL_append, List.getD_eq_getElem?_getD, List.getElem?_eq_getElem hk2]
          have e : encL [ns[k]] = Lib.encodeRune ns[k] := by rw [encL_cons]; simp [encL]
          rw [e, ← Lib.byteCells_encodeRune]
          unfold Lib.byteCells
          rw [List.map_append]
          rfl)
        have hp := encodeRune_pos (ns.getD k 0)
        have hcl2 := Lib.runeCells_length (ns.getD k 0)
        have hz : (((Lib.encodeRune (ns.getD k 0)).length : Int) == 0) = false := by rw [beq_eq_false_iff_ne]; omega
        have Hv := Lib.hid hv
        have h1c : ∀ u ∈ Lib.runeCells (ns.getD k 0), u.oneCell' = true := by
          intro u hu
          unfold Lib.runeCells at hu
          obtain ⟨z, _, rfl⟩ := List.mem_map.1 hu
          rfl
        have H1c := Lib.hid h1c
        have hsz := hb.size
        have hlt3 := hown.lt
        clear hc hv hrr h1c
        generalize hrr : ns.getD k 0 = r at *
        have Hrr := Lib.hid hrr
        clear hrr
        go_wp2_with (go_at_call 43; refine (HW.out _).mono ?_; rintro e w' ⟨rfl, rfl⟩)
        refine (HB.out _).mono ?_
        rintro e w2 ⟨⟨g, c2, rfl, hg1, hg2, hcs⟩, hb2⟩
        have hown2 := own_below hown hb2
        have hb3 := hb.trans (hb2.mono hsz)
        have hsz2 := hb3.size
        have HCS := Lib.hid hcs
        have HLL := Lib.hid hcl2
        have hle5 : (Lib.runeCells r).length ≤ 4 := by omega
        clear hcs hcl2
        go_wp2_with (at_builtin; go_must (refine wpList_append_own _ rfl _ _ 56 rfl w.heap.size 5 i0 _ 1 1 Tryd.underlying56 hi hz0 hz1 hz2 rfl (by decide) u4 (encL (ns.take k)).length _ rfl hown2 ⟨g, 0, none⟩ (Lib.runeCells r).length c2 (Lib.runeCells r) rfl (by omega) HCS.out H1c.out (by unfold maxLen; omega) (by omega) (by omega) ?_); intro v' w4 hown' hgrow _)
        go_roundw
        case rel =>
          refine ⟨k + 1, by omega, by go_num, Lib.hid (fun j hj => by rcases Nat.lt_or_eq_of_le (Nat.lt_succ_iff.1 hj) with h | rfl; exact hkv.out j h; rw [Hrr.out]; exact Hv.out), ?_, hb3.grown hgrow (by omega) (fun k e => (hlt3 k e).1)⟩
          rw [hcl.out, hst.out, ← HLL.out]
          exact hown'
        case measure => simp [intOf]; omega
    · obtain rfl : k = n := by omega
      have htk : ns.take k = ns := List.take_of_length_le (by rw [Hn.out]; exact Nat.le_refl _)
      rw [htk, ← strCells_byte] at hown
      have hcv := conv_own hown
      have HO := Lib.hid (okL_yes (ns := ns) (fun j hj => hkv.out j (by rw [Hn.out] at hj; exact hj)))
      clear htk
      go_wp2_with fail
      go_ret2
      unfold txtB txtE
      rw [HO.out]
      exact ⟨rfl, hb⟩
set_option maxHeartbeats 1000000 in
theorem refClean (s : ByteArray) (w : World) (hs : s.size ≤ 1048576) :
    Calls Tryd.prog 65 #[.string s] w fun e w' => e = .returned (.string (cleanS s)) ∧ Below w.heap.size w w' := by
  have hns := nS_le s
  have HT := fun A c w h => refText (runesI s.data.toList) A c w h (by rw [runesI_nS]; omega) (fun n hn => by
    obtain ⟨m, hm, rfl⟩ := List.mem_map.1 hn
    obtain ⟨y, hy, rfl⟩ := List.mem_map.1 hm
    have := spotsAt_rune_valid _ 0 y hy
    show -2147483648 ≤ (y.r : Int) ∧ (y.r : Int) ≤ 2147483647
    omega)
  rw [(txt_runes s).1, (txt_runes s).2, runesI_nS] at HT
  have HT := Lib.hid HT
  go_enter Tryd.func65, Tryd.ntmps65
  go_wp2_with fail
  refine (refRunes s _ hs).mono ?_
  rintro e w1 ⟨⟨A, c, rfl, hA⟩, hb1⟩
  go_wp2_with fail
  refine (HT.out _ _ _ hA).mono ?_
  rintro e w2 ⟨rfl, hb2⟩
  go_wp2_with fail
  go_ret
  exact ⟨rfl, hb1.trans (hb2.mono hb1.size)⟩
/-- what the reference says of the first bad place -/
def RefVEnd (s : ByteArray) (w : World) (e : Ending) (w' : World) : Prop := (∃ p1 p2 ok, ValidRes s p1 p2 ok ∧ e = .returned (.tuple #[.int .i64 p1, .int .i64 p2, .bool (!ok)])) ∧ Below w.heap.size w w'
set_option maxHeartbeats 1000000 in
theorem refValid (s : ByteArray) (w : World) (hs : s.size ≤ 1048576) : Calls Tryd.prog 63 #[.string s] w (RefVEnd s w) := by
  have hns := nS_le s
  go_enter Tryd.func63, Tryd.ntmps63
  go_wp2_with fail
  refine (Spots_is s _ hs).mono ?_
  rintro e w1 ⟨⟨A, c, rfl, hA⟩, hb1⟩
  have HA := Lib.hid hA
  clear hA
  go_wp2_with fail
  go_loop [6] (fun i => ∃ k : Nat, k ≤ nS s ∧ i = .int .i64 (k : Int) ∧ Hid (∀ j, j < k → (spA s j).bad = false)) (fun i => nS s - (intOf i).toNat)
  case atStart => exact ⟨0, Nat.zero_le _, rfl, Lib.hid (fun j h => by omega)⟩
  case round =>
    obtain ⟨k, hk, rfl, hkb⟩ := hrel
    by_cases hlt : k < nS s
    · obtain ⟨g, x, rfl, hg, hx, hp, hpn, x0, x1, x2, x3⟩ := HA.out.at k hlt
      have hsx := spA_eq hx
      have Hx := Lib.hid hsx
      have Hp := Lib.hid hp
      clear hp hpn hx hsx
      cases hb : x.bad with
      | true =>
        rw [hb] at x3
        have Hb := Lib.hid hb
        clear hb
        go_wp2_with fail
        go_ret3
        exact ⟨⟨_, _, false, .inr ⟨rfl, k, hlt, rfl, rfl, by rw [Hx.out]; exact Hb.out, hkb.out⟩, by rw [Hp.out]; rfl⟩, hb1⟩
      | false =>
        rw [hb] at x3
        have Hb := Lib.hid hb
        clear hb
        go_wp2_with fail
        go_round
        case rel => exact ⟨k + 1, by omega, by go_num, Lib.hid (fun j hj => by rcases Nat.lt_or_eq_of_le (Nat.lt_succ_iff.1 hj) with h | rfl; exact hkb.out j h; rw [Hx.out]; exact Hb.out)⟩
        case measure => simp [intOf]; omega
    · obtain rfl : k = nS s := by omega
      go_wp2_with fail
      go_ret3
      exact ⟨⟨0, 0, true, .inl ⟨rfl, rfl, rfl, hkb.out⟩, rfl⟩, hb1⟩
end Go.Proofs.YtkenffbonnbflaaDoor
