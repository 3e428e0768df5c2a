/- Lists of strings, of numbers in memory; walks: guisebook.Same, Roomy, Intact (turned from the texts at runes by tostr.py). -/
import Derived.Test.YtkenffbonnbflaaParts
import Derived.Test.YtkenffbonnbflaaQuiet
import Derived.Laws.CopyOwn
import Derived.Laws.MakeOwn
import Derived.Laws.OwnMore
namespace Go.Proofs.Ytkenffbonnbflaa
open Go.RowKit
set_option linter.unusedVariables false

theorem addr_block (a : Addr) (j : Nat) : (a.add j).block = a.block := by unfold Addr.add; split <;> rfl
theorem addr_add0 (g o j : Nat) : (⟨g, o, none⟩ : Addr).add j = ⟨g, o + j, none⟩ := by unfold Addr.add; split <;> simp_all
/-- a slice that holds runes -/
def RunesAt (w : World) (A : Option Addr) (ns : List ByteArray) : Prop := 0 < ns.length → ∃ a : Addr, A = some a ∧ a.block < w.heap.size ∧ ∀ j, j < ns.length → w.cell? (a.add j) = some (.string (ns.getD j ⟨#[]⟩))
theorem RunesAt.below {w w' : World} {A : Option Addr} {ns : List ByteArray} (h : RunesAt w A ns) (hb : Below w.heap.size w w') : RunesAt w' A ns := fun hn => by
  obtain ⟨a, hg, hl, hc⟩ := h hn
  exact ⟨a, hg, Nat.lt_of_lt_of_le hl hb.size, fun j hj => (hb.cell (p := a.add j) (by rw [addr_block]; exact hl)).trans (hc j hj)⟩

set_option maxHeartbeats 1000000 in
theorem sameR (ns : List ByteArray) (A B : Option Addr) (c d : Nat) (w : World) (h1 : RunesAt w A ns) (h2 : RunesAt w B ns) (hl : ns.length ≤ 9223372036854775806) :
    Calls Try.prog 18 #[.slice A ns.length c, .slice B ns.length d] w fun e w' => e = .returned (.bool true) ∧ ∃ q, w.drewN q = w' := by
  have H1 := Lib.hid h1
  have H2 := Lib.hid h2
  obtain ⟨n, hn⟩ : ∃ n, ns.length = n := ⟨_, rfl⟩
  have Hn := Lib.hid hn
  rw [hn] at hl
  rw [hn]
  have t0 : ((n : Int) == (n : Int)) = true := by rw [beq_iff_eq]
  clear h1 h2 hn
  go_enter Try.func18, Try.ntmps18
  go_wp2_with fail
  go_loopw [5] (fun i wr => ∃ k q : Nat, k ≤ n ∧ i = .int .i64 (k : Int) ∧ wr = w.drewN q) (fun i _ => n - (intOf i).toNat)
  case atStart => exact ⟨0, 0, Nat.zero_le _, rfl, rfl⟩
  case round =>
    obtain ⟨k, q, hk, rfl, rfl⟩ := hrel
    by_cases hlt : k < n
    · obtain ⟨a, rfl, hg, hc⟩ := H1.out (by rw [Hn.out]; omega)
      obtain ⟨a', rfl, hg', hc'⟩ := H2.out (by rw [Hn.out]; omega)
      have c1 := hc k (by rw [Hn.out]; exact hlt)
      have c2 := hc' k (by rw [Hn.out]; exact hlt)
      clear hc hc'
      generalize ns.getD k ⟨#[]⟩ = r at c1 c2
      go_wp2_with fail
      go_quiet (fail)
      go_wp2_with fail
      go_roundw
      case rel => exact ⟨k + 1, _, by omega, by go_num, rfl⟩
      case measure => simp [intOf]; omega
    · obtain rfl : k = n := by omega
      go_wp2_with fail
      go_ret
      exact ⟨rfl, _, rfl⟩

/-- a slice that holds runes -/
def RunesAtI (w : World) (A : Option Addr) (ns : List Int) : Prop := 0 < ns.length → ∃ a : Addr, A = some a ∧ a.block < w.heap.size ∧ ∀ j, j < ns.length → w.cell? (a.add j) = some (.int .i64 (ns.getD j 0))
theorem RunesAtI.below {w w' : World} {A : Option Addr} {ns : List Int} (h : RunesAtI w A ns) (hb : Below w.heap.size w w') : RunesAtI w' A ns := fun hn => by
  obtain ⟨a, hg, hl, hc⟩ := h hn
  exact ⟨a, hg, Nat.lt_of_lt_of_le hl hb.size, fun j hj => (hb.cell (p := a.add j) (by rw [addr_block]; exact hl)).trans (hc j hj)⟩

set_option maxHeartbeats 1000000 in
theorem sameRI (ns : List Int) (A B : Option Addr) (c d : Nat) (w : World) (h1 : RunesAtI w A ns) (h2 : RunesAtI w B ns) (hl : ns.length ≤ 9223372036854775806) :
    Calls Try.prog 37 #[.slice A ns.length c, .slice B ns.length d] w fun e w' => e = .returned (.bool true) ∧ ∃ q, w.drewN q = w' := by
  have H1 := Lib.hid h1
  have H2 := Lib.hid h2
  obtain ⟨n, hn⟩ : ∃ n, ns.length = n := ⟨_, rfl⟩
  have Hn := Lib.hid hn
  rw [hn] at hl
  rw [hn]
  have t0 : ((n : Int) == (n : Int)) = true := by rw [beq_iff_eq]
  clear h1 h2 hn
  go_enter Try.func37, Try.ntmps37
  go_wp2_with fail
  go_loopw [5] (fun i wr => ∃ k q : Nat, k ≤ n ∧ i = .int .i64 (k : Int) ∧ wr = w.drewN q) (fun i _ => n - (intOf i).toNat)
  case atStart => exact ⟨0, 0, Nat.zero_le _, rfl, rfl⟩
  case round =>
    obtain ⟨k, q, hk, rfl, rfl⟩ := hrel
    by_cases hlt : k < n
    · obtain ⟨a, rfl, hg, hc⟩ := H1.out (by rw [Hn.out]; omega)
      obtain ⟨a', rfl, hg', hc'⟩ := H2.out (by rw [Hn.out]; omega)
      have c1 := hc k (by rw [Hn.out]; exact hlt)
      have c2 := hc' k (by rw [Hn.out]; exact hlt)
      clear hc hc'
      generalize ns.getD k 0 = r at c1 c2
      go_wp2_with fail
      go_quiet (fail)
      go_wp2_with fail
      go_roundw
      case rel => exact ⟨k + 1, _, by omega, by go_num, rfl⟩
      case measure => simp [intOf]; omega
    · obtain rfl : k = n := by omega
      go_wp2_with fail
      go_ret
      exact ⟨rfl, _, rfl⟩

/-- the cells of a list with 80 marks behind it -/
def roomCI (ns : List Int) (m : Int) : List Value := ns.map (Value.int .i64) ++ List.replicate 80 (.int .i64 m)
def partCI (ns : List Int) (m : Int) (k : Nat) : List Value := ns.map (Value.int .i64) ++ (List.replicate k (.int .i64 m) ++ List.replicate (80 - k) (.int .i64 0))
theorem partC_allI (ns : List Int) (m : Int) : partCI ns m 80 = roomCI ns m := by simp [partCI, roomCI]
theorem partC_lenI (ns : List Int) (m : Int) (k : Nat) (h : k ≤ 80) : (partCI ns m k).length = ns.length + 80 := by simp [partCI]; omega
theorem partC_setI (ns : List Int) (m : Int) (k : Nat) (h : k < 80) : (partCI ns m k).set (ns.length + k) (.int .i64 m) = partCI ns m (k + 1) := by
  unfold partCI
  rw [List.set_append_right _ _ (by simp), List.length_map, Nat.add_sub_cancel_left, List.set_append_right _ _ (by simp), List.length_replicate, Nat.sub_self, show 80 - k = (80 - (k + 1)) + 1 by omega, List.replicate_succ, List.set_cons_zero, List.replicate_succ', List.append_assoc, List.singleton_append]
/-- copy, into new memory with 80 places more -/
theorem copy_roomI (ns : List Int) (A : Option Addr) (n c : Nat) (m : Int) (w : World) (h : RunesAtI w A ns) (hn : ns.length = n) :
    ∃ w2, (Builtin.copy_ #[35, 35] 3 #[.slice (some ⟨w.heap.size, 0, none⟩) (n + 80) (n + 80), .slice A n c]).run Try.prog (w.alloc (.cells (Array.replicate (n + 80) (Value.int .i64 0)) 3)) = .ok (goInt (n : Int)) w2 ∧ Blk w2 w.heap.size 3 (partCI ns m 0).toArray ∧ Below w.heap.size w w2 := by
  have hinfo : (Try.prog.info? 3).map (·.size) = some 1 := by kernel_rfl
  have hB := Blk.new w 3 (Array.replicate (n + 80) (Value.int .i64 0))
  have hbl : Below w.heap.size w (w.alloc (.cells (Array.replicate (n + 80) (Value.int .i64 0)) 3)) := (Below.refl _ w).alloc (Nat.le_refl _) _
  rcases Nat.eq_zero_or_pos n with h0 | h0
  · subst h0
    refine ⟨_, run_copy_none _ _ _ _ 3 _ _ _ _ _ _ Try.underlying35 hinfo (by simp), ?_, hbl⟩
    have e : ns = [] := List.eq_nil_of_length_eq_zero hn
    subst e
    have e2 : (partCI [] m 0).toArray = Array.replicate (0 + 80) (Value.int .i64 0) := by
      show (List.replicate 80 (Value.int .i64 0)).toArray = _
      rw [List.toArray_replicate]
    rw [e2]
    exact hB
  · obtain ⟨a, rfl, ha, hc⟩ := (h.below hbl) (by omega)
    have hr := run_copy_row (P := Try.prog) (w.alloc (.cells (Array.replicate (n + 80) (Value.int .i64 0)) 3)) 35 35 3 3 w.heap.size 0 (n + 80) (n + 80) a n c _ 3 (ns.map (Value.int .i64)) Try.underlying35 hinfo hB (by rw [List.length_map, hn]; exact (Nat.min_eq_left (by omega)).symm) (fun j v hj => by
      rw [List.getElem?_map] at hj
      have hj2 : j < ns.length := by
        rcases Nat.lt_or_ge j ns.length with c | c
        · exact c
        · rw [List.getElem?_eq_none c] at hj; cases hj
      rw [hc j hj2, ← hj, List.getElem?_eq_getElem hj2, List.getD_eq_getElem?_getD, List.getElem?_eq_getElem hj2]
      rfl) (by simp; omega) (by intro v hv; obtain ⟨z, _, rfl⟩ := List.mem_map.1 hv; rfl)
    rw [List.length_map, hn] at hr
    refine ⟨_, hr, ?_, below_setRow hbl (Nat.le_refl _) _⟩
    have h3 := setRow_heap _ w.heap.size _ ((Array.replicate (n + 80) (Value.int .i64 0)).toList.take 0 ++ ns.map (Value.int .i64) ++ (Array.replicate (n + 80) (Value.int .i64 0)).toList.drop (0 + n)).toArray 3 (0, 0) hB
    have e : ((Array.replicate (n + 80) (Value.int .i64 0)).toList.take 0 ++ ns.map (Value.int .i64) ++ (Array.replicate (n + 80) (Value.int .i64 0)).toList.drop (0 + n)) = partCI ns m 0 := by
      simp [partCI, List.drop_replicate]
    rw [← e]
    exact h3
set_option maxRecDepth 100000 in
set_option maxHeartbeats 2000000 in
theorem roomyRI (ns : List Int) (A : Option Addr) (c : Nat) (m : Int) (w : World) (h : RunesAtI w A ns) (hl : ns.length ≤ 1000000) :
    Calls Try.prog 16 #[.slice A ns.length c, .int .i64 m] w fun e w' => e = .returned (.slice (some ⟨w.heap.size, 0, none⟩) (ns.length + 80) (ns.length + 80)) ∧ Blk w' w.heap.size 3 (roomCI ns m).toArray ∧ Below w.heap.size w w' := by
  obtain ⟨i0, hi, hz0, hz1, hz2⟩ := info_parts infoInt
  have H := Lib.hid h
  obtain ⟨n, hn⟩ : ∃ n, ns.length = n := ⟨_, rfl⟩
  have Hn := Lib.hid hn
  have hmk : (Instr.makeSlice 35 (.int .i64 ((n : Int) + 80)) (.int .i64 ((n : Int) + 80))).run Try.prog w = .ok (.slice (some ⟨w.heap.size, 0, none⟩) (n + 80) (n + 80)) (w.alloc (.cells (List.replicate (n + 80) (Value.int .i64 0)).toArray 3)) := by
    have h2 := run_make (P := Try.prog) w 35 3 i0 (.int .i64 0) Try.underlying35 hi hz0 .i64 .i64 ((n : Int) + 80) ((n : Int) + 80) (by omega) (by omega) (by rw [hz2]; omega) (by omega)
    rw [hz1, show ((n : Int) + 80).toNat = n + 80 by omega, Nat.mul_one] at h2
    rw [h2, ← toList_madeCells_one (.int .i64 0) (n + 80), Array.toArray_toList]
    rfl
  rw [hn] at hl
  rw [hn]
  clear h hn
  obtain ⟨w2, hcp, hB2, hb2⟩ := copy_roomI ns A n c m w H.out Hn.out
  unfold goInt at hcp
  simp only [List.toArray_replicate] at hmk
  go_enter Try.func16, Try.ntmps16
  go_wp2_with fail
  go_loopw [6] (fun i wr => ∃ k : Nat, k ≤ 80 ∧ i = .int .i64 ((n : Int) + (k : Int)) ∧ Blk wr w.heap.size 3 (partCI ns m k).toArray ∧ Below w.heap.size w wr) (fun i _ => n + 80 - (intOf i).toNat)
  case atStart => exact ⟨0, by omega, by simp, hB2, hb2⟩
  case round =>
    obtain ⟨k, hk, rfl, hB, hb⟩ := hrel
    by_cases hlt : k < 80
    · have hc1 := hB.cell (n + k)
      have hf1 := hB.frozen (n + k)
      have hln := partC_lenI ns m k hk
      rw [Hn.out] at hln
      obtain ⟨v0, hv0⟩ : ∃ v0, (partCI ns m k)[n + k]? = some v0 := ⟨_, List.getElem?_eq_getElem (by omega)⟩
      rw [List.getElem?_toArray, hv0] at hc1
      clear hv0
      have hst := partC_setI ns m k hlt
      rw [Hn.out] at hst
      have Hst := Lib.hid hst
      have i1 : (n : Int) + (k : Int) < (n : Int) + 80 := by omega
      have i2 : n + k < n + 80 := by omega
      clear hst hln
      go_wp2_with fail
      go_roundw
      case rel =>
        refine ⟨k + 1, by omega, by go_num, ?_, hb.setCell (Nat.le_refl _) _⟩
        have h2 := hB.set_ (n + k) (.int .i64 m)
        rw [List.setIfInBounds_toArray, Hst.out] at h2
        exact h2
      case measure => simp [intOf]; omega
    · obtain rfl : k = 80 := by omega
      rw [partC_allI] at hB
      go_wp2_with fail
      go_ret
      exact ⟨rfl, hB, hb⟩
/-- the beginning of such a list -/
theorem room_runesI {w : World} {g : Nat} {ns : List Int} {m : Int} (h : Blk w g 3 (roomCI ns m).toArray) : RunesAtI w (some ⟨g, 0, none⟩) ns := fun h0 =>
  ⟨⟨g, 0, none⟩, rfl, h.lt, fun j hj => by
    rw [addr_add0, Nat.zero_add, h.cell j, List.getElem?_toArray]
    unfold roomCI
    rw [List.getElem?_append_left (by simpa using hj), List.getElem?_map, List.getElem?_eq_getElem hj, List.getD_eq_getElem?_getD, List.getElem?_eq_getElem hj]
    rfl⟩
theorem room_markI {w : World} {g : Nat} {ns : List Int} {m : Int} (h : Blk w g 3 (roomCI ns m).toArray) (k : Nat) (hk : k < 80) : w.cell? ⟨g, ns.length + k, none⟩ = some (.int .i64 m) := by
  rw [h.cell, List.getElem?_toArray]
  unfold roomCI
  rw [List.getElem?_append_right (by simp), List.length_map, Nat.add_sub_cancel_left, List.getElem?_replicate_of_lt hk]
set_option maxHeartbeats 2000000 in
theorem intactRI (ns : List Int) (A : Option Addr) (g c : Nat) (m : Int) (w : World) (hB : Blk w g 3 (roomCI ns m).toArray) (h : RunesAtI w A ns) (hl : ns.length ≤ 1000000) :
    Calls Try.prog 21 #[.slice (some ⟨g, 0, none⟩) (ns.length + 80) (ns.length + 80), .slice A ns.length c, .int .i64 m] w fun e w' => e = .returned (.bool true) ∧ ∃ q, w.drewN q = w' := by
  have HB := Lib.hid hB
  have HS := fun d => sameRI ns (some ⟨g, 0, none⟩) A d c w (room_runesI hB) h (by omega)
  have hm := fun k hk => room_markI hB k hk
  obtain ⟨n, hn⟩ : ∃ n, ns.length = n := ⟨_, rfl⟩
  have Hn := Lib.hid hn
  rw [hn] at hl HS hm
  rw [hn]
  have HS := Lib.hid HS
  have Hm := Lib.hid hm
  have t0 : (((n + 80 : Nat) : Int) == (n : Int) + 80) = true := by rw [beq_iff_eq]; omega
  have t1 : ((n : Int) + 80 == (n : Int) + 80) = true := by rw [beq_iff_eq]
  clear hB h hn hm
  go_enter Try.func21, Try.ntmps21
  go_wp2_with fail
  refine (HS.out _).mono ?_
  rintro e w2 ⟨rfl, q, rfl⟩
  go_wp2_with fail
  go_loop [7] (fun i => ∃ k : Nat, k ≤ 80 ∧ i = .int .i64 ((n : Int) + (k : Int))) (fun i => n + 80 - (intOf i).toNat)
  case atStart => exact ⟨0, by omega, by simp⟩
  case round =>
    obtain ⟨k, hk, rfl⟩ := hrel
    by_cases hlt : k < 80
    · have hc1 : (w.drewN q).cell? ⟨g, n + k, none⟩ = some (.int .i64 m) := Hm.out k hlt
      have i1 : (n : Int) + (k : Int) < (n : Int) + 80 := by omega
      have i2 : n + k < n + 80 := by omega
      go_wp2_with fail
      go_round
      case rel => exact ⟨k + 1, by omega, by go_num⟩
      case measure => simp [intOf]; omega
    · obtain rfl : k = 80 := by omega
      go_wp2_with fail
      go_ret
      exact ⟨rfl, q, rfl⟩
end Go.Proofs.Ytkenffbonnbflaa
