/- Walk: guiseref1.Spots: the spots of any text, in a row of the call's own. -/
import Derived.Test.YtkenffbonnbflaaDoorSeqd
import Derived.Test.YtkenffbonnbflaaDoorMem
import Derived.Laws.NewBlocks
import Derived.Deep.DeepFit
import Derived.WalkSpells
namespace Go.Proofs.YtkenffbonnbflaaDoor
open Go.RowKit
set_option linter.unusedVariables false

def sptCells (x : Spt) : List Value := [.int .i32 x.r, .int .i64 x.pos, .int .i64 x.n, .bool x.bad]
def sptsCells (L : List Spt) : List Value := L.flatMap sptCells
theorem sptsCells_append (L M : List Spt) : sptsCells (L ++ M) = sptsCells L ++ sptsCells M := by simp [sptsCells]

theorem infoSpot : (Tryd.prog.info? 31).map (fun i => (i.zero, i.size, i.bytes)) = some (some (.agg #[.int .i32 0, .int .i64 0, .int .i64 0, .bool false]), 4, 32) := by kernel_rfl

/-- the spot at a place, as Spots has it -/
theorem spt_seq (s : ByteArray) (p : Nat) (h : p < s.size) :
    sptOf p (s.data.toList.drop p) = if (seqD (s.extract p s.size)).1 = 0 then ⟨65533, p, 1, true⟩ else ⟨(seqD (s.extract p s.size)).2, p, (seqD (s.extract p s.size)).1, false⟩ := by
  have e1 : Utf8.decode (s.extract p s.size) 0 = Lib.decodeL (s.data.toList.drop p) := by
    rw [← Lib.decodeL_drop, Lib.extract_data]
    congr 1
    rw [List.drop_zero, List.take_of_length_le (by rw [List.length_drop, Array.length_toList]; exact Nat.le_refl _)]
  have e2 : ¬ (s.extract p s.size).size = 0 := by rw [ByteArray.size_extract]; omega
  have hw := Lib.decodeL_width (s.data.toList.drop p)
  unfold seqD sptOf
  rw [e1]
  by_cases hb : isBad (Lib.decodeL (s.data.toList.drop p)) = true
  · have h2 := hb
    unfold isBad at h2
    simp only [Bool.and_eq_true, beq_iff_eq] at h2
    rw [if_pos (Or.inr hb), if_pos rfl, h2.1, h2.2, hb]
  · rw [if_neg (show ¬ ((s.extract p s.size).size = 0 ∨ isBad (Lib.decodeL (s.data.toList.drop p)) = true) from fun h1 => h1.elim e2 hb), if_neg (by show ¬ (Lib.decodeL (s.data.toList.drop p)).2 = 0; omega)]
    simp only [Bool.not_eq_true] at hb
    rw [hb]

/-- what Sequence answers at a place -/
theorem seq_bad (s : ByteArray) (p : Nat) (h : p < s.size) (hb : (sptOf p (s.data.toList.drop p)).bad = true) : seqD (s.extract p s.size) = (0, 0) ∧ sptOf p (s.data.toList.drop p) = ⟨65533, p, 1, true⟩ := by
  have h1 := spt_seq s p h
  by_cases hz : (seqD (s.extract p s.size)).1 = 0
  · rw [if_pos hz] at h1
    refine ⟨?_, h1⟩
    unfold seqD at hz ⊢
    by_cases hn : (s.extract p s.size).size = 0 ∨ isBad (Utf8.decode (s.extract p s.size) 0) = true
    · rw [if_pos hn]
    · rw [if_neg hn] at hz
      have := Lib.width_pos (s.extract p s.size) 0
      simp only at hz
      omega
  · rw [if_neg hz] at h1
    rw [h1] at hb
    cases hb
theorem seq_good (s : ByteArray) (p : Nat) (h : p < s.size) (hb : (sptOf p (s.data.toList.drop p)).bad = false) :
    seqD (s.extract p s.size) = ((sptOf p (s.data.toList.drop p)).n, (sptOf p (s.data.toList.drop p)).r) ∧ (sptOf p (s.data.toList.drop p)).n ≠ 0 := by
  have h1 := spt_seq s p h
  by_cases hz : (seqD (s.extract p s.size)).1 = 0
  · rw [if_pos hz] at h1
    rw [h1] at hb
    cases hb
  · rw [if_neg hz] at h1
    rw [h1]
    exact ⟨rfl, hz⟩

theorem drop_cons_ne (s : ByteArray) (p : Nat) (h : p < s.size) : s.data.toList.drop p ≠ [] := by
  intro e
  have := congrArg List.length e
  rw [List.length_drop, Array.length_toList] at this
  have h2 : s.data.size = s.size := rfl
  simp at this
  omega
/-- one spot more -/
theorem spots_step (s : ByteArray) (p : Nat) (h : p < s.size) (acc : List Spt) (x : Spt) (hx : sptOf p (s.data.toList.drop p) = x) (ha : acc ++ spotsAt p (s.data.toList.drop p) = spots s.data.toList) :
    (acc ++ [x]) ++ spotsAt (p + x.n) (s.data.toList.drop (p + x.n)) = spots s.data.toList := by
  subst hx
  rw [← ha, spotsAt_cons p _ (drop_cons_ne s p h), List.append_assoc, List.singleton_append, List.drop_drop]
  rfl
theorem spots_end (s : ByteArray) (p : Nat) (h : ¬ p < s.size) (acc : List Spt) (ha : acc ++ spotsAt p (s.data.toList.drop p) = spots s.data.toList) : acc = spots s.data.toList := by
  rw [List.drop_eq_nil_of_le (by rw [Array.length_toList]; show s.size ≤ p; omega), spotsAt_nil, List.append_nil] at ha
  exact ha
theorem spt_width (s : ByteArray) (p : Nat) (h : p < s.size) : 1 ≤ (sptOf p (s.data.toList.drop p)).n ∧ p + (sptOf p (s.data.toList.drop p)).n ≤ s.size := by
  have h1 := Lib.decodeL_width (s.data.toList.drop p)
  have h2 := Lib.decodeL_le _ (drop_cons_ne s p h)
  rw [List.length_drop, Array.length_toList] at h2
  have h3 : s.data.size = s.size := rfl
  simp only [sptOf]
  omega

set_option maxRecDepth 100000 in
set_option maxHeartbeats 2000000 in
theorem Spots_any (s : ByteArray) (w : World) (hm : s.size ≤ 1048576) :
    Calls Tryd.prog 21 #[.string s] w fun e w' => ∃ v, e = .returned v ∧ w'.ownsRow w.heap.size 31 4 v (spots s.data.toList).length (sptsCells (spots s.data.toList)) ∧ Below w.heap.size w w' := by
  obtain ⟨i0, hi, hz0, hz1, hz2⟩ := info_parts infoSpot
  go_enter Tryd.func21, Tryd.ntmps21
  go_wp2
  go_loopw [3, 4] (fun l a wr => ∃ (p : Nat) (acc : List Spt), p ≤ s.size ∧ a = .int .i64 p ∧ acc.length ≤ p ∧ wr.ownsRow w.heap.size 31 4 l acc.length (sptsCells acc) ∧ acc ++ spotsAt p (s.data.toList.drop p) = spots s.data.toList ∧ Below w.heap.size w wr) (fun _ a _ => s.size - (intOf a).toNat)
  case atStart => exact ⟨0, [], Nat.zero_le _, rfl, Nat.zero_le _, World.ownsRow_nil _ _ _ _, by simp [spots], Below.refl _ _⟩
  case round =>
    obtain ⟨p, acc, hp, rfl, hal, hown, hspots, hb⟩ := hrel
    have Hsp := Lib.hid hspots
    clear hspots
    by_cases hlt : p < s.size
    · have hwd := spt_width s p hlt
      have hbs := hb.size
      have hlt2 := hown.lt
      cases hbad : (sptOf p (s.data.toList.drop p)).bad with
      | true =>
        obtain ⟨hq, hx⟩ := seq_bad s p hlt hbad
        have hc := fun w => seq_any (s.extract p s.size) w (by simp; omega)
        rw [hq] at hc
        have Hc := Lib.hid hc
        have Hx := Lib.hid hx
        clear hc hx hq hbad hwd
        go_wp2_with (first
          | (go_at_call 80; refine (Hc.out _).mono ?_; rintro e w' ⟨rfl, rfl⟩)
          | (at_builtin; go_must (refine wpList_append_own _ rfl _ _ 22 rfl w.heap.size 31 i0 _ 4 32 Tryd.underlying22 hi hz0 hz1 hz2 rfl (by decide) u3 acc.length _ rfl ((hown.alloc _).alloc _) ⟨wr.heap.size + 1, 0, none⟩ 1 1 [.int .i32 65533, .int .i64 p, .int .i64 1, .bool true] rfl rfl (cells_new _ _ _ _ (by simp)) (by simp [Value.oneCell']) (by unfold maxLen; omega) (by omega) (by simp; omega) ?_); intro v' w1 hown' hgrow _; have hcell : w1.cell? ⟨wr.heap.size, 2, none⟩ = some (.int .i64 1) := hgrow.cell (cell_new_lt _ _ _ _ _) (fun e => by have := (hlt2 _ e.symm).2; simp at this)))
        go_roundw
        case rel =>
          refine ⟨p + 1, acc ++ [⟨65533, p, 1, true⟩], by omega, by go_num, by simp; omega, ?_, spots_step s p hlt acc _ Hx.out Hsp.out, ?_⟩
          · rw [sptsCells_append, List.length_append]
            exact hown'
          · exact ((hb.alloc hbs _).alloc (by simp; omega) _).grown hgrow (by simp; omega) (fun k e => (hlt2 k e).1)
        case measure => simp [intOf]; omega
      | false =>
        obtain ⟨hq, hn0⟩ := seq_good s p hlt hbad
        generalize hx : sptOf p (s.data.toList.drop p) = x at *
        have hxp : x.pos = p := by rw [← hx]; rfl
        obtain ⟨r, q, n, b⟩ := x
        simp only at hbad hq hn0 hxp hwd
        subst hbad hxp
        have hc := fun w => seq_any (s.extract q s.size) w (by simp; omega)
        rw [hq] at hc
        have Hc := Lib.hid hc
        have Hx := Lib.hid hx
        have hnz : ((n : Int) == 0) = false := by rw [beq_eq_false_iff_ne]; omega
        clear hc hx hq
        go_wp2_with (first
          | (go_at_call 80; refine (Hc.out _).mono ?_; rintro e w' ⟨rfl, rfl⟩)
          | (at_builtin; go_must (refine wpList_append_own _ rfl _ _ 22 rfl w.heap.size 31 i0 _ 4 32 Tryd.underlying22 hi hz0 hz1 hz2 rfl (by decide) u3 acc.length _ rfl ((hown.alloc _).alloc _) ⟨wr.heap.size + 1, 0, none⟩ 1 1 [.int .i32 r, .int .i64 q, .int .i64 n, .bool false] rfl rfl (cells_new _ _ _ _ (by simp)) (by simp [Value.oneCell']) (by unfold maxLen; omega) (by omega) (by simp; omega) ?_); intro v' w1 hown' hgrow _; have hcell : w1.cell? ⟨wr.heap.size, 2, none⟩ = some (.int .i64 n) := hgrow.cell (cell_new_lt _ _ _ _ _) (fun e => by have := (hlt2 _ e.symm).2; simp at this)))
        go_roundw
        case rel =>
          refine ⟨q + n, acc ++ [⟨r, q, n, false⟩], by omega, by go_num, by simp; omega, ?_, spots_step s q hlt acc _ Hx.out Hsp.out, ?_⟩
          · rw [sptsCells_append, List.length_append]
            exact hown'
          · exact ((hb.alloc hbs _).alloc (by simp; omega) _).grown hgrow (by simp; omega) (fun k e => (hlt2 k e).1)
        case measure => simp [intOf]; omega
    · go_wp2
      go_ret
      refine ⟨_, rfl, ?_, hb⟩
      rw [← spots_end s p hlt acc Hsp.out]
      exact hown
end Go.Proofs.YtkenffbonnbflaaDoor
