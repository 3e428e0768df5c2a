/- label.rules, label.Check. boot.read at "a-gg". slices.Insert at runes: one rune ahead of one. boot.Decode at "a-gg". errors.Is at a number against itself. -/
import Derived.Test.YtjmkdimbbacnfaaGreatDoorGHsQ
import Derived.Test.YtjmkdimbbacnfaaGreatDoorGHsS
import Derived.LoopN
import Derived.Laws.EntriesVeiled
import Derived.Lib.AppendZerosOnto
import Derived.Laws.NewBlocks
import Derived.BigRegion
import Derived.Lib.IfaceEq
namespace Go.Proofs.YtjmkdimbbacnfaaGreatDoor
section
open Go.RowKit Go.Shelf
set_option linter.unusedVariables false
def ruleCells : Array Value := #[.int .i64 3, .func (.func 163) #[] #[], .int .i64 60, .func (.func 164) #[] #[], .int .i64 10, .func (.func 165) #[] #[], .int .i64 63, .func (.func 167) #[] #[], .int .i64 64, .func (.func 168) #[] #[], .int .i64 61, .func (.func 171) #[] #[], .int .i64 62, .func (.func 173) #[] #[], .int .i64 65, .func (.func 175) #[] #[], .int .i64 3, .func (.func 176) #[] #[]]
set_option maxHeartbeats 2000000 in
theorem label_rules (w : World) : Calls Tryz.prog 134 #[] w fun e w' => e = .returned (.slice (some ⟨w.heap.size, 0, none⟩) 9 9) ∧ w' = w.alloc (.cells ruleCells 203) := by
  go_enter Tryz.func134, Tryz.ntmps134
  go_wp2_with fail
  go_ret
  exact ⟨rfl, rfl⟩
/-- the rules are asked one after the other, and none is broken -/
def LetsAll (b : Nat) (s : ByteArray) (w : World) : Prop := ∀ W, Below w.heap.size w W → ∀ f, f ∈ [163, 164, 165, 167, 168, 171, 173, 175, 176] → Lets f b s W
set_option maxRecDepth 100000 in
set_option maxHeartbeats 8000000 in
theorem label_Check {w : World} {b : Nat} {s : ByteArray} (h : LetsAll b s w) : Calls Tryz.prog 92 #[.pointer (some ⟨b, 0, none⟩), .string s] w fun e w' => e = .returned .nilIface ∧ Below w.heap.size w w' := by
  have HR := Lib.hid label_rules
  unfold LetsAll Lets at h
  have HL := Lib.hid h
  clear h
  obtain ⟨N, hN⟩ : ∃ N, w.heap.size = N := ⟨_, rfl⟩
  rw [hN] at HL ⊢
  go_enter Tryz.func92, Tryz.ntmps92
  go_wp2_with (go_at_call 134; refine (HR.out _).mono ?_; rintro e w1 ⟨rfl, hw1⟩; have k1 : Blk w1 N 203 ruleCells := (by rw [hw1, ← hN]; exact Blk.new w _ _); have b1 : Below N w w1 := (by rw [hw1, ← hN]; exact (Below.refl _ w).alloc (Nat.le_refl _) _); clear hw1)
  have K1 := Lib.hid k1
  have B1 := Lib.hid b1
  clear b1
  have u0 := k1.cell 0
  have u1 := k1.cell 1
  have l1 := k1.lt
  simp only [ruleCells, List.getElem?_toArray, List.getElem?_cons_succ, List.getElem?_cons_zero] at u0 u1
  clear k1 hN
  refine wp_loop_rounds 10 ?_
  refine Eq.mpr rounds_succ ?_
  go_wp2_with fail
  refine (HL.out _ (B1.out.alloc (Nat.le_of_lt l1) _) 163 (by simp)).mono ?_
  rintro e w2 ⟨rfl, h2⟩
  have K2 : Hid (Blk w2 N 203 ruleCells) := Lib.hid ((K1.out.alloc _).below h2)
  have B2 : Hid (Below N w w2) := Lib.hid ((B1.out.alloc (Nat.le_of_lt l1) _).trans (h2.mono (by rw [World.size_alloc]; exact Nat.le_succ_of_le (Nat.le_of_lt l1))))
  clear u0 u1 h2 K1 B1
  have u0 := K2.out.cell 2
  have u1 := K2.out.cell 3
  have l2 := K2.out.lt
  simp only [ruleCells, List.getElem?_toArray, List.getElem?_cons_succ, List.getElem?_cons_zero] at u0 u1
  go_wp2_with fail
  refine Eq.mpr rounds_succ ?_
  go_wp2_with fail
  refine (HL.out _ ((B2.out.alloc (Nat.le_of_lt l2) _).alloc (by rw [World.size_alloc]; exact Nat.le_succ_of_le (Nat.le_of_lt l2)) _) 164 (by simp)).mono ?_
  rintro e w3 ⟨rfl, h3⟩
  have K3 : Hid (Blk w3 N 203 ruleCells) := Lib.hid (((K2.out.alloc _).alloc _).below h3)
  have B3 : Hid (Below N w w3) := Lib.hid (((B2.out.alloc (Nat.le_of_lt l2) _).alloc (by rw [World.size_alloc]; exact Nat.le_succ_of_le (Nat.le_of_lt l2)) _).trans (h3.mono (by rw [World.size_alloc, World.size_alloc]; exact Nat.le_succ_of_le (Nat.le_succ_of_le (Nat.le_of_lt l2)))))
  clear u0 u1 h3 K2 B2
  have u0 := K3.out.cell 4
  have u1 := K3.out.cell 5
  have l3 := K3.out.lt
  simp only [ruleCells, List.getElem?_toArray, List.getElem?_cons_succ, List.getElem?_cons_zero] at u0 u1
  go_wp2_with fail
  refine Eq.mpr rounds_succ ?_
  go_wp2_with fail
  refine (HL.out _ ((B3.out.alloc (Nat.le_of_lt l3) _).alloc (by rw [World.size_alloc]; exact Nat.le_succ_of_le (Nat.le_of_lt l3)) _) 165 (by simp)).mono ?_
  rintro e w4 ⟨rfl, h4⟩
  have K4 : Hid (Blk w4 N 203 ruleCells) := Lib.hid (((K3.out.alloc _).alloc _).below h4)
  have B4 : Hid (Below N w w4) := Lib.hid (((B3.out.alloc (Nat.le_of_lt l3) _).alloc (by rw [World.size_alloc]; exact Nat.le_succ_of_le (Nat.le_of_lt l3)) _).trans (h4.mono (by rw [World.size_alloc, World.size_alloc]; exact Nat.le_succ_of_le (Nat.le_succ_of_le (Nat.le_of_lt l3)))))
  clear u0 u1 h4 K3 B3
  have u0 := K4.out.cell 6
  have u1 := K4.out.cell 7
  have l4 := K4.out.lt
  simp only [ruleCells, List.getElem?_toArray, List.getElem?_cons_succ, List.getElem?_cons_zero] at u0 u1
  go_wp2_with fail
  refine Eq.mpr rounds_succ ?_
  go_wp2_with fail
  refine (HL.out _ ((B4.out.alloc (Nat.le_of_lt l4) _).alloc (by rw [World.size_alloc]; exact Nat.le_succ_of_le (Nat.le_of_lt l4)) _) 167 (by simp)).mono ?_
  rintro e w5 ⟨rfl, h5⟩
  have K5 : Hid (Blk w5 N 203 ruleCells) := Lib.hid (((K4.out.alloc _).alloc _).below h5)
  have B5 : Hid (Below N w w5) := Lib.hid (((B4.out.alloc (Nat.le_of_lt l4) _).alloc (by rw [World.size_alloc]; exact Nat.le_succ_of_le (Nat.le_of_lt l4)) _).trans (h5.mono (by rw [World.size_alloc, World.size_alloc]; exact Nat.le_succ_of_le (Nat.le_succ_of_le (Nat.le_of_lt l4)))))
  clear u0 u1 h5 K4 B4
  have u0 := K5.out.cell 8
  have u1 := K5.out.cell 9
  have l5 := K5.out.lt
  simp only [ruleCells, List.getElem?_toArray, List.getElem?_cons_succ, List.getElem?_cons_zero] at u0 u1
  go_wp2_with fail
  refine Eq.mpr rounds_succ ?_
  go_wp2_with fail
  refine (HL.out _ ((B5.out.alloc (Nat.le_of_lt l5) _).alloc (by rw [World.size_alloc]; exact Nat.le_succ_of_le (Nat.le_of_lt l5)) _) 168 (by simp)).mono ?_
  rintro e w6 ⟨rfl, h6⟩
  have K6 : Hid (Blk w6 N 203 ruleCells) := Lib.hid (((K5.out.alloc _).alloc _).below h6)
  have B6 : Hid (Below N w w6) := Lib.hid (((B5.out.alloc (Nat.le_of_lt l5) _).alloc (by rw [World.size_alloc]; exact Nat.le_succ_of_le (Nat.le_of_lt l5)) _).trans (h6.mono (by rw [World.size_alloc, World.size_alloc]; exact Nat.le_succ_of_le (Nat.le_succ_of_le (Nat.le_of_lt l5)))))
  clear u0 u1 h6 K5 B5
  have u0 := K6.out.cell 10
  have u1 := K6.out.cell 11
  have l6 := K6.out.lt
  simp only [ruleCells, List.getElem?_toArray, List.getElem?_cons_succ, List.getElem?_cons_zero] at u0 u1
  go_wp2_with fail
  refine Eq.mpr rounds_succ ?_
  go_wp2_with fail
  refine (HL.out _ ((B6.out.alloc (Nat.le_of_lt l6) _).alloc (by rw [World.size_alloc]; exact Nat.le_succ_of_le (Nat.le_of_lt l6)) _) 171 (by simp)).mono ?_
  rintro e w7 ⟨rfl, h7⟩
  have K7 : Hid (Blk w7 N 203 ruleCells) := Lib.hid (((K6.out.alloc _).alloc _).below h7)
  have B7 : Hid (Below N w w7) := Lib.hid (((B6.out.alloc (Nat.le_of_lt l6) _).alloc (by rw [World.size_alloc]; exact Nat.le_succ_of_le (Nat.le_of_lt l6)) _).trans (h7.mono (by rw [World.size_alloc, World.size_alloc]; exact Nat.le_succ_of_le (Nat.le_succ_of_le (Nat.le_of_lt l6)))))
  clear u0 u1 h7 K6 B6
  have u0 := K7.out.cell 12
  have u1 := K7.out.cell 13
  have l7 := K7.out.lt
  simp only [ruleCells, List.getElem?_toArray, List.getElem?_cons_succ, List.getElem?_cons_zero] at u0 u1
  go_wp2_with fail
  refine Eq.mpr rounds_succ ?_
  go_wp2_with fail
  refine (HL.out _ ((B7.out.alloc (Nat.le_of_lt l7) _).alloc (by rw [World.size_alloc]; exact Nat.le_succ_of_le (Nat.le_of_lt l7)) _) 173 (by simp)).mono ?_
  rintro e w8 ⟨rfl, h8⟩
  have K8 : Hid (Blk w8 N 203 ruleCells) := Lib.hid (((K7.out.alloc _).alloc _).below h8)
  have B8 : Hid (Below N w w8) := Lib.hid (((B7.out.alloc (Nat.le_of_lt l7) _).alloc (by rw [World.size_alloc]; exact Nat.le_succ_of_le (Nat.le_of_lt l7)) _).trans (h8.mono (by rw [World.size_alloc, World.size_alloc]; exact Nat.le_succ_of_le (Nat.le_succ_of_le (Nat.le_of_lt l7)))))
  clear u0 u1 h8 K7 B7
  have u0 := K8.out.cell 14
  have u1 := K8.out.cell 15
  have l8 := K8.out.lt
  simp only [ruleCells, List.getElem?_toArray, List.getElem?_cons_succ, List.getElem?_cons_zero] at u0 u1
  go_wp2_with fail
  refine Eq.mpr rounds_succ ?_
  go_wp2_with fail
  refine (HL.out _ ((B8.out.alloc (Nat.le_of_lt l8) _).alloc (by rw [World.size_alloc]; exact Nat.le_succ_of_le (Nat.le_of_lt l8)) _) 175 (by simp)).mono ?_
  rintro e w9 ⟨rfl, h9⟩
  have K9 : Hid (Blk w9 N 203 ruleCells) := Lib.hid (((K8.out.alloc _).alloc _).below h9)
  have B9 : Hid (Below N w w9) := Lib.hid (((B8.out.alloc (Nat.le_of_lt l8) _).alloc (by rw [World.size_alloc]; exact Nat.le_succ_of_le (Nat.le_of_lt l8)) _).trans (h9.mono (by rw [World.size_alloc, World.size_alloc]; exact Nat.le_succ_of_le (Nat.le_succ_of_le (Nat.le_of_lt l8)))))
  clear u0 u1 h9 K8 B8
  have u0 := K9.out.cell 16
  have u1 := K9.out.cell 17
  have l9 := K9.out.lt
  simp only [ruleCells, List.getElem?_toArray, List.getElem?_cons_succ, List.getElem?_cons_zero] at u0 u1
  go_wp2_with fail
  refine Eq.mpr rounds_succ ?_
  go_wp2_with fail
  refine (HL.out _ ((B9.out.alloc (Nat.le_of_lt l9) _).alloc (by rw [World.size_alloc]; exact Nat.le_succ_of_le (Nat.le_of_lt l9)) _) 176 (by simp)).mono ?_
  rintro e w10 ⟨rfl, h10⟩
  have K10 : Hid (Blk w10 N 203 ruleCells) := Lib.hid (((K9.out.alloc _).alloc _).below h10)
  have B10 : Hid (Below N w w10) := Lib.hid (((B9.out.alloc (Nat.le_of_lt l9) _).alloc (by rw [World.size_alloc]; exact Nat.le_succ_of_le (Nat.le_of_lt l9)) _).trans (h10.mono (by rw [World.size_alloc, World.size_alloc]; exact Nat.le_succ_of_le (Nat.le_succ_of_le (Nat.le_of_lt l9)))))
  clear u0 u1 h10 K9 B9
  have l10 := K10.out.lt
  go_wp2_with fail
  refine Eq.mpr rounds_succ ?_
  go_wp2_with fail
  go_ret
  exact ⟨rfl, B10.out.alloc (Nat.le_of_lt l10) _⟩

end
section
open Go.RowKit Go.Shelf
set_option linter.unusedVariables false
theorem index_g : Lib.indexByte (⟨#[97, 98, 99, 100, 101, 102, 103, 104, 105, 106, 107, 108, 109, 110, 111, 112, 113, 114, 115, 116, 117, 118, 119, 120, 121, 122, 48, 49, 50, 51, 52, 53, 54, 55, 56, 57]⟩ : ByteArray).data.toList 103 = 6 := by decide +kernel
theorem idx_g (w : World) : Calls Tryz.prog 156 #[.string ⟨#[97, 98, 99, 100, 101, 102, 103, 104, 105, 106, 107, 108, 109, 110, 111, 112, 113, 114, 115, 116, 117, 118, 119, 120, 121, 122, 48, 49, 50, 51, 52, 53, 54, 55, 56, 57]⟩, .int .u8 103] w fun e w' => e = .returned (.int .i64 6) ∧ w' = w := by
  have h := Tryz.strings_IndexByte ⟨#[97, 98, 99, 100, 101, 102, 103, 104, 105, 106, 107, 108, 109, 110, 111, 112, 113, 114, 115, 116, 117, 118, 119, 120, 121, 122, 48, 49, 50, 51, 52, 53, 54, 55, 56, 57]⟩ 103 w
  have e103 : (103 : Int).toNat.toUInt8 = 103 := rfl
  rw [e103, index_g] at h
  exact h
set_option maxRecDepth 100000 in
set_option maxHeartbeats 4000000 in
theorem boot_read {w : World} {X : Nat} (h : Blk w X 210 (stC 64 128 0 0)) : Calls Tryz.prog 142 #[.pointer (some ⟨X, 0, none⟩), .string ⟨#[97, 45, 103, 103]⟩, .int .i64 2, .int .i64 1] w fun e w' => e = .returned (.tuple #[.int .i64 210, .int .i64 4, .int .i64 0]) ∧ Below w.heap.size w w' := by
  obtain ⟨c0, c1, c2, c3, c4, c7, c8, c9, c10⟩ := st_cells h
  have HT := Lib.hid (fun W (hW : Blk W X 210 (stC 64 128 0 0)) (k t : Int) hk => boot_threshold (w := W) hW k t hk)
  have K0 := Lib.hid h
  have B0 := Lib.hid (Below.refl w.heap.size w)
  have HI := Lib.hid idx_g
  have hd2 : ((⟨#[97, 45, 103, 103]⟩ : ByteArray)[2]'(by decide)).toNat = 103 := by decide
  have hd3 : ((⟨#[97, 45, 103, 103]⟩ : ByteArray)[3]'(by decide)).toNat = 103 := by decide
  clear h
  go_enter Tryz.func142, Tryz.ntmps142
  go_wp2_with fail
  refine wp_loop_rounds 2 ?_
  refine Eq.mpr rounds_succ ?_
  go_wp2_with fail
  go_quiet ((go_at_call 156; refine Calls.quiet_of_same (HI.out _)))
  have k1 : Blk (w.drewN nq) X 210 (stC 64 128 0 0) := K0.out
  have B1 : Hid (Below w.heap.size w (w.drewN nq)) := Lib.hid (Below.drwN B0.out nq)
  generalize w.drewN nq = W1 at k1 B1 ⊢
  clear c0 c1 c2 c3 c4 c7 c8 c9 c10 K0 B0
  obtain ⟨c0, c1, c2, c3, c4, c7, c8, c9, c10⟩ := st_cells k1
  have K1 := Lib.hid k1
  clear k1
  go_wp2_with fail
  go_quiet (fail)
  have k2 : Blk (W1.drewN nq) X 210 (stC 64 128 0 0) := K1.out
  have B2 : Hid (Below w.heap.size w (W1.drewN nq)) := Lib.hid (Below.drwN B1.out nq)
  generalize W1.drewN nq = W2 at k2 B2 ⊢
  clear c0 c1 c2 c3 c4 c7 c8 c9 c10 K1 B1
  obtain ⟨c0, c1, c2, c3, c4, c7, c8, c9, c10⟩ := st_cells k2
  have K2 := Lib.hid k2
  clear k2
  go_wp2_with (go_at_call 186; refine (HT.out _ K2.out 1 2 (.inl ⟨rfl, rfl⟩)).mono ?_; rintro e w3 ⟨rfl, nq, rfl⟩)
  have k3 : Blk (W2.drewN nq) X 210 (stC 64 128 0 0) := K2.out
  have B3 : Hid (Below w.heap.size w (W2.drewN nq)) := Lib.hid (Below.drwN B2.out nq)
  generalize W2.drewN nq = W3 at k3 B3 ⊢
  clear c0 c1 c2 c3 c4 c7 c8 c9 c10 K2 B2
  obtain ⟨c0, c1, c2, c3, c4, c7, c8, c9, c10⟩ := st_cells k3
  have K3 := Lib.hid k3
  clear k3
  refine Eq.mpr rounds_succ ?_
  go_wp2_with fail
  go_quiet ((go_at_call 156; refine Calls.quiet_of_same (HI.out _)))
  have k4 : Blk (W3.drewN nq) X 210 (stC 64 128 0 0) := K3.out
  have B4 : Hid (Below w.heap.size w (W3.drewN nq)) := Lib.hid (Below.drwN B3.out nq)
  generalize W3.drewN nq = W4 at k4 B4 ⊢
  clear c0 c1 c2 c3 c4 c7 c8 c9 c10 K3 B3
  obtain ⟨c0, c1, c2, c3, c4, c7, c8, c9, c10⟩ := st_cells k4
  have K4 := Lib.hid k4
  clear k4
  go_wp2_with fail
  go_quiet (fail)
  have k5 : Blk (W4.drewN nq) X 210 (stC 64 128 0 0) := K4.out
  have B5 : Hid (Below w.heap.size w (W4.drewN nq)) := Lib.hid (Below.drwN B4.out nq)
  generalize W4.drewN nq = W5 at k5 B5 ⊢
  clear c0 c1 c2 c3 c4 c7 c8 c9 c10 K4 B4
  obtain ⟨c0, c1, c2, c3, c4, c7, c8, c9, c10⟩ := st_cells k5
  have K5 := Lib.hid k5
  clear k5
  go_wp2_with (go_at_call 186; refine (HT.out _ K5.out 2 8 (.inr ⟨rfl, rfl⟩)).mono ?_; rintro e w3 ⟨rfl, nq, rfl⟩)
  refine bodyPost_ret (v := .tuple #[.int .i64 210, .int .i64 4, .int .i64 0]) (by simp [results, Tryz.results142, go_sem]) rfl ⟨rfl, ?_⟩
  exact Below.drwN B5.out nq

end
section
open Go.RowKit Go.Shelf Go.Lib
set_option linter.unusedVariables false
set_option linter.unusedSimpArgs false
theorem info_i32 : (Tryz.prog.info? 21).map (fun i => (i.zero, i.size, i.bytes)) = some (some (.int .i32 0), 1, 4) := by kernel_rfl
theorem one_at {w : World} {b o : Nat} {x : Value} (h : w.cell? ⟨b, o, none⟩ = some x) : ∀ j v, [x][j]? = some v → w.cell? ((⟨b, o, none⟩ : Addr).add j) = some v := fun j v hj => by
  match j, hj with
  | 0, hj => cases hj; rw [Addr.add_lit]; exact h
  | k + 1, hj => simp at hj
set_option maxRecDepth 100000 in
set_option maxHeartbeats 4000000 in
theorem ins_new {w : World} {b vb : Nat} {x y : Int} (hb : w.cell? ⟨b, 0, none⟩ = some (.int .i32 x)) (hv : w.cell? ⟨vb, 0, none⟩ = some (.int .i32 y)) :
    Calls Tryz.prog 143 #[.slice (some ⟨b, 0, none⟩) 1 1, .int .i64 0, .slice (some ⟨vb, 0, none⟩) 1 1] w fun e w' =>
      ∃ (G : Nat) (R : Array Value), e = .returned (.slice (some ⟨w.heap.size, 0, none⟩) 2 G) ∧ 2 ≤ R.size ∧ w' = (((w.alloc (.cells R 21)).drew.setCells w.heap.size 0 [.int .i32 y]).drew).setCells w.heap.size 1 [.int .i32 x] := by
  obtain ⟨i0, hi0, hz0, hzs, hzb⟩ := info_parts info_i32
  have hsz : (Tryz.prog.info? 21).map (·.size) = some 1 := by rw [hi0]; simp [hzs]
  have hbw : b < w.heap.size := block_lt_of_cell hb
  have hvw : vb < w.heap.size := block_lt_of_cell hv
  have hold : (Builtin.firstCells i0.size 0 (.slice (some ⟨b, 0, none⟩) 0 1)).run Tryz.prog w.drew = .ok ([] : List Value).toArray w.drew := by
    rw [hzs]
    exact run_firstCells_some w.drew 1 0 ⟨b, 0, none⟩ 0 1 [] rfl (fun j v hj => by simp at hj)
  obtain ⟨G, hG⟩ : ∃ G, G = grownCap w 2 1 21 := ⟨_, rfl⟩
  obtain ⟨R, hR⟩ : ∃ R : Array Value, R = ([] : List Value).toArray ++ Builtin.zeroCells (Value.int .i32 0).cells 2 ++ Builtin.zeroCells (Value.int .i32 0).cells (G - 2) := ⟨_, rfl⟩
  have hap : ∀ ty, (Builtin.append_ #[55, 3] ty #[.slice (some ⟨b, 0, none⟩) 0 1, .int .i64 2]).run Tryz.prog w = .ok (.slice (some ⟨w.heap.size, 0, none⟩) 2 G) (w.drew.alloc (.cells R 21)) := fun ty => by
    rw [hR, hG]
    exact run_append_grow_zeros w 55 3 ty 21 i0 _ .i64 .i64 Tryz.underlying55 Tryz.underlying3 hi0 hz0 (some ⟨b, 0, none⟩) 0 1 [] hold 2 (by omega) (by omega) (by omega) (by omega) (by rw [hzb]; omega) (by rw [hzb]; exact growslice_fits (by omega) (by omega))
  have h2R : 2 ≤ R.size := by rw [hR]; simp [Builtin.zeroCells, Value.cells]
  have hGn : 2 ≤ G := by rw [hG]; exact grownCap_ge w _ _ _
  have hG63 : G ≤ 9223372036854775807 := by
    have := grownCap_le_maxLen w 2 1 21 (by unfold maxLen; omega)
    rw [← hG] at this
    unfold maxLen at this
    exact this
  clear hold hR hG
  obtain ⟨W1, hW1⟩ : ∃ W1, W1 = w.drew.alloc (.cells R 21) := ⟨_, rfl⟩
  rw [← hW1] at hap
  have hN : ∀ j, j < 2 → (W1.cell? ⟨w.heap.size, j, none⟩).isSome = true := fun j hj => by
    rw [hW1, World.cell?_alloc_at (w := w.drew) R _ w.heap.size j rfl, Array.getElem?_eq_getElem (by omega)]; rfl
  have hNf : ∀ j, W1.frozen? ⟨w.heap.size, j, none⟩ = false := fun j => by rw [hW1]; exact World.frozen?_alloc_at (w := w.drew) R _ w.heap.size j rfl
  have hOb : W1.cell? ⟨b, 0, none⟩ = some (.int .i32 x) := by rw [hW1, World.cell?_alloc_past (w := w.drew) _ b 0 hbw]; exact hb
  have hOv : W1.cell? ⟨vb, 0, none⟩ = some (.int .i32 y) := by rw [hW1, World.cell?_alloc_past (w := w.drew) _ vb 0 hvw]; exact hv
  have hcA : ∀ (W : World), (∀ z, W.cell? z = W1.cell? z) → (∀ z, W.frozen? z = W1.frozen? z) → ∀ ty dc, (Builtin.copy_ #[55, 55] ty #[.slice (some ⟨w.heap.size, 0, none⟩) 2 dc, .slice (some ⟨vb, 0, none⟩) 1 1]).run Tryz.prog W = .ok (goInt 1) (W.setCells w.heap.size 0 [.int .i32 y]) := fun W hc hf ty dc =>
    run_copy_cells W _ _ ty 21 w.heap.size 0 2 dc ⟨vb, 0, none⟩ 1 1 [.int .i32 y] Tryz.underlying55 hsz rfl (fun j v hj => one_at (by rw [hc]; exact hOv) j v hj) (fun j hj => by rw [hc]; exact hN _ (by simp at hj; omega)) (fun j hj => by rw [hf]; exact hNf _) (fun v hv => by simp at hv; subst hv; rfl)
  have hbN : b ≠ w.heap.size := by omega
  have hcB : ∀ (W : World), (∀ z, W.cell? z = (W1.setCells w.heap.size 0 [.int .i32 y]).cell? z) → (∀ z, W.frozen? z = (W1.setCells w.heap.size 0 [.int .i32 y]).frozen? z) → ∀ ty dc sc, (Builtin.copy_ #[55, 55] ty #[.slice (some ⟨w.heap.size, 1, none⟩) 1 dc, .slice (some ⟨b, 0, none⟩) 1 sc]).run Tryz.prog W = .ok (goInt 1) (W.setCells w.heap.size 1 [.int .i32 x]) := fun W hc hf ty dc sc =>
    run_copy_cells W _ _ ty 21 w.heap.size 1 1 dc ⟨b, 0, none⟩ 1 sc [.int .i32 x] Tryz.underlying55 hsz rfl (fun j v hj => one_at (by rw [hc, World.cell?_setCells_out _ _ _ _ _ (fun h _ => absurd h hbN)]; exact hOb) j v hj) (fun j hj => by rw [hc]; exact isSome_setCells _ _ _ _ (fun t ht => hN _ (by simp at ht; omega)) _ (hN _ (by simp at hj; omega))) (fun j hj => by rw [hf, World.frozen?_setCells]; exact hNf _) (fun v hv => by simp at hv; subst hv; rfl)
  subst hW1
  have hE1 : ∀ z, ((w.alloc (.cells R 21)).drew).cell? z = (w.drew.alloc (.cells R 21)).cell? z := fun z => rfl
  have hE2 : ∀ z, ((w.alloc (.cells R 21)).drew).frozen? z = (w.drew.alloc (.cells R 21)).frozen? z := fun z => rfl
  have hF1 : ∀ z, (((w.alloc (.cells R 21)).drew.setCells w.heap.size 0 [.int .i32 y]).drew).cell? z = ((w.drew.alloc (.cells R 21)).setCells w.heap.size 0 [.int .i32 y]).cell? z := fun z => rfl
  have hF2 : ∀ z, (((w.alloc (.cells R 21)).drew.setCells w.heap.size 0 [.int .i32 y]).drew).frozen? z = ((w.drew.alloc (.cells R 21)).setCells w.heap.size 0 [.int .i32 y]).frozen? z := fun z => rfl
  have mixed : Tryz.prog.follows Departure.mixedOrders = true := by kernel_rfl
  have hw1 : IntKind.i64.wrap 1 = 1 := by decide
  have htn : (1 : Int).toNat = 1 := rfl
  have hGi : ¬ (G = 0) := by omega
  have hGj : ¬ (G = 1) := by omega
  clear hb hv hi0 hz0 hzs hzb hN hNf hOb hOv
  go_enter Tryz.func143, Tryz.ntmps143
  go_wp2_with (first
    | (at_builtin; refine wpList_append_run _ rfl _ _ _ _ rfl _ _ rfl rfl _ _ (hap _) ?_)
    | (at_builtin; refine wpList_copy_runI _ rfl _ _ 55 55 rfl _ _ rfl rfl (hcA _ hE1 hE2 _ _) ?_))
  go_region_law_o (refine step_copy_runI rfl _ _ 55 55 rfl (.slice (some ⟨w.heap.size, 1, none⟩) 1 (G - 1)) (.slice (some ⟨b, 0, none⟩) 1 1) (by simp [Act.eval, Act.put]) (by simp [Act.eval, Act.put]) (hcB _ hF1 hF2 3 (G - 1) 1) ?_)
  go_wp2
  go_ret
  exact ⟨G, R, rfl, h2R, rfl⟩
set_option maxRecDepth 100000 in
set_option maxHeartbeats 4000000 in
theorem ins_room {w : World} {b vb c : Nat} {x y z0 : Int} {cur : Array Value} (hk : Blk w b 21 cur) (h0 : cur[0]? = some (.int .i32 x)) (hc2 : 2 ≤ c) (hcs : c ≤ cur.size) (hc63 : c ≤ 9223372036854775807) (hkv : Blk w vb 21 #[.int .i32 y]) (hne : vb ≠ b) :
    Calls Tryz.prog 143 #[.slice (some ⟨b, 0, none⟩) 1 c, .int .i64 0, .slice (some ⟨vb, 0, none⟩) 1 1] w fun e w' =>
      e = .returned (.slice (some ⟨b, 0, none⟩) 2 c) ∧ w' = (w.drew.setCells b 1 [.int .i32 x]).setCells b 0 [.int .i32 y] := by
  have hsz : (Tryz.prog.info? 21).map (·.size) = some 1 := by
    obtain ⟨i0, hi0, hz0, hzs, hzb⟩ := info_parts info_i32
    rw [hi0]; simp [hzs]
  have hb : w.cell? ⟨b, 0, none⟩ = some (.int .i32 x) := (hk.cell 0).trans h0
  have hv : w.cell? ⟨vb, 0, none⟩ = some (.int .i32 y) := hkv.cell 0
  have hso : ∀ W, (Go.sizeOf 21).run Tryz.prog W = .ok 1 W := fun W => by kernel_rfl
  have hov : ∀ lb cb, (callFunc 187 #[.slice (some ⟨vb, 0, none⟩) 1 1, .slice (some ⟨b, 1, none⟩) lb cb]).run Tryz.prog w = .ok (.value (.bool false)) w := fun lb cb => by
    rw [run_callFunc_extern Tryz.func187 (by kernel_rfl) (by kernel_rfl) (by kernel_rfl) (e := Extern.SlicesOverlaps.overlaps #[55, 55] #[4]) (by kernel_rfl),
      run_overlaps_apart w 55 4 21 Tryz.underlying55 1 hso ⟨vb, 0, none⟩ ⟨b, 1, none⟩ 1 1 lb cb hne 21 21 1 cur.size (by unfold World.shape?; rw [show w.heap[vb]? = _ from hkv]; rfl) (by unfold World.shape?; rw [show w.heap[b]? = _ from hk]) (by omega) (hkv.frozen _) (hkv.frozen _)]
    rfl
  have hsp : ∀ j, j < 2 → (w.drew.cell? ⟨b, j, none⟩).isSome = true := fun j hj => by
    rw [show w.drew.cell? ⟨b, j, none⟩ = _ from hk.cell j, Array.getElem?_eq_getElem (by omega)]; rfl
  have hfz : ∀ j, w.drew.frozen? ⟨b, j, none⟩ = false := fun j => hk.frozen j
  have hcp1 : ∀ ty dc sc, (Builtin.copy_ #[55, 55] ty #[.slice (some ⟨b, 1, none⟩) 1 dc, .slice (some ⟨b, 0, none⟩) 2 sc]).run Tryz.prog w.drew = .ok (goInt 1) (w.drew.setCells b 1 [.int .i32 x]) := fun ty dc sc =>
    run_copy_cells w.drew _ _ ty 21 b 1 1 dc ⟨b, 0, none⟩ 2 sc [.int .i32 x] Tryz.underlying55 hsz rfl (fun j v hj => one_at hb j v hj) (fun j hj => hsp _ (by simp at hj; omega)) (fun j hj => hfz _) (fun v hv => by simp at hv; subst hv; rfl)
  have hcp2 : ∀ (W : World), (∀ z, W.cell? z = (w.drew.setCells b 1 [.int .i32 x]).cell? z) → (∀ z, W.frozen? z = (w.drew.setCells b 1 [.int .i32 x]).frozen? z) → ∀ ty dc, (Builtin.copy_ #[55, 55] ty #[.slice (some ⟨b, 0, none⟩) 2 dc, .slice (some ⟨vb, 0, none⟩) 1 1]).run Tryz.prog W = .ok (goInt 1) (W.setCells b 0 [.int .i32 y]) := fun W hWc hWf ty dc =>
    run_copy_cells W _ _ ty 21 b 0 2 dc ⟨vb, 0, none⟩ 1 1 [.int .i32 y] Tryz.underlying55 hsz rfl (fun j v hj => one_at (by rw [hWc, World.cell?_setCells_out b _ _ _ _ (fun h _ => absurd h hne)]; exact hv) j v hj)
      (fun j hj => by rw [hWc]; exact isSome_setCells b _ _ _ (fun t ht => hsp _ (by simp at ht; omega)) _ (hsp _ (by simp at hj; omega))) (fun j hj => by rw [hWf, World.frozen?_setCells]; exact hfz _) (fun v hv => by simp at hv; subst hv; rfl)
  obtain ⟨W1, hW1⟩ : ∃ W1, W1 = w.drew.setCells b 1 [.int .i32 x] := ⟨_, rfl⟩
  rw [← hW1] at hcp1 hcp2
  have mixed : Tryz.prog.follows Departure.mixedOrders = true := by kernel_rfl
  have hw1 : IntKind.i64.wrap 1 = 1 := by decide
  have htn : (1 : Int).toNat = 1 := rfl
  have hci : ¬ (c = 0) := by omega
  have hcj : ¬ (c = 1) := by omega
  have hc2' : (2 : Int) ≤ (c : Int) := by omega
  have hcn : ¬ ((c : Int) < 2) := by omega
  clear hsp hfz hso hb hv hk hkv h0 hcs hsz
  go_enter Tryz.func143, Tryz.ntmps143
  go_wp2_with (simp only [hov])
  go_region_law_o (refine step_copy_runI rfl _ _ 55 55 rfl _ _ (by simp [Act.eval, Act.put]) (by simp [Act.eval, Act.put]) (hcp1 _ _ _) ?_)
  go_wp2_with (at_builtin; refine wpList_copy_runI _ rfl _ _ 55 55 rfl _ _ rfl rfl (hcp2 _ (fun _ => rfl) (fun _ => rfl) _ _) ?_)
  go_ret
  exact ⟨rfl, rfl⟩
/-- what Insert leaves: 233 ahead of 97 -/
theorem runes_Insert {w : World} {base vb : Nat} {v : Value} (hown : w.ownsRow base 21 1 v 1 [.int .i32 97]) (hvb : Blk w vb 21 #[.int .i32 233]) (hne : v.ownBlock ≠ some vb) (hb : base ≤ w.heap.size) :
    Calls Tryz.prog 143 #[v, .int .i64 0, .slice (some ⟨vb, 0, none⟩) 1 1] w fun e w' => (∃ g c cur, e = .returned (.slice (some ⟨g, 0, none⟩) 2 c) ∧ base ≤ g ∧ Blk w' g 21 cur ∧ cur[0]? = some (.int .i32 233) ∧ cur[1]? = some (.int .i32 97)) ∧ Below base w w' ∧ KeptT 21 w w' := by
  rcases hown.2 with ⟨_, h0⟩ | ⟨g, cap, cur, rfl, hbg, hg, hcap, hcm, hsz, htake⟩
  · omega
  · have hk : Blk w g 21 cur := hg
    have c0 : cur[0]? = some (.int .i32 97) := by
      have : (cur.toList.take (1 * 1))[0]? = some (.int .i32 97) := by rw [htake]; rfl
      rw [List.getElem?_take_of_lt (by omega)] at this
      simpa using this
    have hgv : vb ≠ g := fun e => hne (by rw [e]; rfl)
    by_cases hc1 : cap = 1
    · subst hc1
      refine (ins_new (x := 97) (y := 233) ((hk.cell 0).trans c0) (hvb.cell 0)).mono ?_
      rintro e w' ⟨G, R, rfl, hR, rfl⟩
      have b1 : Blk ((w.alloc (.cells R 21)).drew) w.heap.size 21 R := Blk.new w _ _
      have b2 : Blk (((w.alloc (.cells R 21)).drew.setCell ⟨w.heap.size, 0, none⟩ (.int .i32 233)).drew) w.heap.size 21 _ := b1.set_ 0 (.int .i32 233)
      have b3 := b2.set_ 1 (.int .i32 97)
      have hB : ∀ B, B ≤ w.heap.size → Below B w ((((w.alloc (.cells R 21)).drew.setCells w.heap.size 0 [.int .i32 233]).drew).setCells w.heap.size 1 [.int .i32 97]) := fun B hB => Below.setCells_ _ _ _ (Below.drew (Below.setCells_ _ _ _ (Below.drew ((Below.refl B w).alloc hB _)) hB)) hB
      exact ⟨⟨_, _, _, rfl, hb, b3, by rw [Array.getElem?_setIfInBounds_ne (by decide), Array.getElem?_setIfInBounds_self_of_lt (by omega)], by rw [Array.getElem?_setIfInBounds_self_of_lt (by rw [Array.size_setIfInBounds]; omega)]⟩, hB _ hb, KeptT.new (hB _ (Nat.le_refl _))⟩
    · refine (ins_room (x := 97) (y := 233) (z0 := 0) hk c0 (by omega) (by omega) (by unfold maxLen at hcm; omega) hvb hgv).mono ?_
      rintro e w' ⟨rfl, rfl⟩
      have b1 : Blk w.drew g 21 cur := hk
      have b3 := (b1.set_ 1 (.int .i32 97)).set_ 0 (.int .i32 233)
      exact ⟨⟨_, _, _, rfl, hbg, b3, by rw [Array.getElem?_setIfInBounds_self_of_lt (by rw [Array.size_setIfInBounds]; omega)], by rw [Array.getElem?_setIfInBounds_ne (by decide), Array.getElem?_setIfInBounds_self_of_lt (by omega)]⟩, Below.setCells_ _ _ _ (Below.setCells_ _ _ _ (Below.drew (Below.refl base w)) hbg) hbg, KeptT.at_ hk fun k _ hkg => (heap_setCells_ _ _ _ hkg).trans (heap_setCells_ _ _ _ hkg)⟩

end
section
open Go.RowKit Go.Shelf
set_option linter.unusedVariables false
attribute [local go_sem] Oper.semAt_some
theorem last_h (w : World) : Calls Tryz.prog 137 #[.string ⟨#[97, 45, 103, 103]⟩, .int .u8 45] w fun e w' => e = .returned (.int .i64 1) ∧ w = w' := by
  refine (Tryz.strings_LastIndexByte ⟨#[97, 45, 103, 103]⟩ 45 (by decide) w).mono ?_
  rintro e w' ⟨rfl, rfl⟩
  exact ⟨by rw [show Lib.lastIndexByte ⟨#[97, 45, 103, 103]⟩ 45 = 1 by decide +kernel], rfl⟩
theorem valid_e (w : World) : Calls Tryz.prog 56 #[.int .i32 233] w fun e w' => e = .returned (.bool true) ∧ w = w' := by
  refine (Tryz.utf8_ValidRune 233 w).mono ?_
  rintro e w' ⟨rfl, rfl⟩
  exact ⟨rfl, rfl⟩
theorem conv_e {w : World} {g c : Nat} {cur : Array Value} (h : Blk w g 21 cur) (h0 : cur[0]? = some (.int .i32 233)) (h1 : cur[1]? = some (.int .i32 97)) :
    (convert 55 9 (.slice (some ⟨g, 0, none⟩) 2 c)).run Tryz.prog w = .ok (.string ⟨#[195, 169, 97]⟩) w := by
  have hr : RunesAt w (some ⟨g, 0, none⟩) [233, 97] := fun _ => ⟨⟨g, 0, none⟩, rfl, h.lt, fun j hj => by
    have hadd : (⟨g, 0, none⟩ : Addr).add j = ⟨g, j, none⟩ := by unfold Addr.add; split <;> simp_all
    rw [hadd, h.cell]
    match j, hj with
    | 0, _ => exact h0
    | 1, _ => exact h1
    | n + 2, hj => simp at hj; omega⟩
  have hc := conv_runes (c := c) hr
  rw [show strR [233, 97] = ⟨#[195, 169, 97]⟩ by decide +kernel] at hc
  exact hc
set_option maxRecDepth 100000 in
set_option maxHeartbeats 8000000 in
theorem boot_Decode (w : World) :
    Calls Tryz.prog 98 #[parV, .string ⟨#[97, 45, 103, 103]⟩] w fun e w' => e = .returned (.tuple #[.string ⟨#[195, 169, 97]⟩, .int .i64 0, .int .i64 0]) ∧ Below w.heap.size w w' := by
  have HR := Lib.hid boot_Right
  have HL := Lib.hid last_h
  have HBa := Lib.hid boot_basic
  have HBg := Lib.hid boot_begin
  unfold parV stC at HBg
  unfold parV at HR ⊢
  have hd0 : ((⟨#[97, 45, 103, 103]⟩ : ByteArray)[0]'(by decide)).toNat = 97 := by decide
  have hmx : max (1 : Int) 0 = 1 := by decide
  obtain ⟨i0, hi, hz0, hz1, hz2⟩ := info_parts info_i32
  go_enter Tryz.func98, Tryz.ntmps98
  go_wp2_with (first
    | (go_at_call 137; refine (HL.out _).mono ?_; rintro e w1 ⟨rfl, rfl⟩)
    | (go_at_call 138; refine (HR.out _).mono ?_; rintro e w2 ⟨rfl, h2⟩))
  have kp := (Blk.new w 154 #[.int .i64 36, .int .i64 2, .int .i64 24, .int .i64 40, .int .i64 600, .int .i64 64, .int .i32 128]).below h2
  have hB2 := ((Below.refl _ w).alloc (Nat.le_refl _) (.cells #[.int .i64 36, .int .i64 2, .int .i64 24, .int .i64 40, .int .i64 600, .int .i64 64, .int .i32 128] 154)).trans (h2.mono (by simp))
  have hPN := kp.lt
  obtain ⟨PB, hPB⟩ : ∃ PB, w.heap.size = PB := ⟨_, rfl⟩
  rw [hPB] at kp hB2 hPN ⊢
  have HPB := Lib.hid hPB
  have KP := Lib.hid kp
  have HB2 := Lib.hid hB2
  clear h2 kp hB2 hPB
  refine wp_loop_rounds 2 ?_
  refine Eq.mpr rounds_succ ?_
  go_wp2_with (first
    | (go_at_call 140; refine (HBa.out _).mono ?_; rintro e w3 ⟨rfl, rfl⟩)
    | (at_builtin; refine wpList_append_own _ rfl _ _ 55 rfl w2.heap.size 21 i0 _ 1 4 Tryz.underlying55 hi hz0 hz1 hz2 rfl (by decide) (.slice none 0 0) 0 [] rfl (World.ownsRow_nil _ _ _ _) ⟨w2.heap.size, 0, none⟩ 1 1 [.int .i32 97] rfl rfl (cells_new _ _ _ _ rfl) (by simp [Value.oneCell']) (by unfold maxLen; omega) (by omega) (by rw [World.size_alloc]; omega) ?_; intro v1 w5 hown1 hgrow1 _; obtain ⟨A9, c9, rfl, hA9⟩ := own_form hown1; obtain ⟨g9, rfl, -⟩ := hA9 (by omega); have hb5 : Below w2.heap.size w2 w5 := ((Below.refl _ w2).alloc (Nat.le_refl _) _).grown hgrow1 (by rw [World.size_alloc]; exact Nat.le_succ _) (fun k e => by cases e)))
  refine Eq.mpr rounds_succ ?_
  have K5 := KP.out.below hb5
  have z0 := K5.cell 0
  have z1 := K5.cell 1
  have z2 := K5.cell 2
  have z3 := K5.cell 3
  have z4 := K5.cell 4
  have z5 := K5.cell 5
  have z6 := K5.cell 6
  simp only [List.getElem?_toArray, List.getElem?_cons_succ, List.getElem?_cons_zero] at z0 z1 z2 z3 z4 z5 z6
  go_wp2_with (go_at_call 141; refine (HBg.out _).mono ?_; rintro e W3 ⟨rfl, h3⟩)
  have O3 := Lib.hid ((own_belowV hown1 h3).alloc (.cells #[.int .i64 36, .int .i64 2, .int .i64 24, .int .i64 40, .int .i64 600, .int .i64 64, .int .i32 128, .int .i64 64, .int .i32 128, .int .i64 0, .int .i64 0] 210))
  have ST : Hid (Blk (W3.alloc (.cells #[.int .i64 36, .int .i64 2, .int .i64 24, .int .i64 40, .int .i64 600, .int .i64 64, .int .i32 128, .int .i64 64, .int .i32 128, .int .i64 0, .int .i64 0] 210)) W3.heap.size 210 (stC 64 128 0 0)) := Lib.hid (Blk.new W3 _ _)
  have hlw := Nat.le_of_lt hPN
  have HB4 : Hid (Below PB w (W3.alloc (.cells #[.int .i64 36, .int .i64 2, .int .i64 24, .int .i64 40, .int .i64 600, .int .i64 64, .int .i32 128, .int .i64 64, .int .i32 128, .int .i64 0, .int .i64 0] 210))) := Lib.hid (((HB2.out.trans (hb5.mono hlw)).trans (h3.mono (Nat.le_trans hlw hb5.size))).alloc (Nat.le_trans hlw (Nat.le_trans hb5.size h3.size)) _)
  have hNS : w2.heap.size ≤ W3.heap.size := Nat.le_trans hb5.size h3.size
  obtain ⟨N, hN⟩ : ∃ N, w2.heap.size = N := ⟨_, rfl⟩
  obtain ⟨S, hS⟩ : ∃ S, W3.heap.size = S := ⟨_, rfl⟩
  rw [hN, hS] at hNS
  rw [hN] at O3 hPN
  rw [hS] at ST ⊢
  have hS4 : (W3.alloc (.cells #[.int .i64 36, .int .i64 2, .int .i64 24, .int .i64 40, .int .i64 600, .int .i64 64, .int .i32 128, .int .i64 64, .int .i32 128, .int .i64 0, .int .i64 0] 210)).heap.size = S + 1 := by rw [World.size_alloc, hS]
  clear hS hN K5 z0 z1 z2 z3 z4 z5 z6 h3 hb5 hown1 hgrow1 hlw hA9
  generalize W3.alloc (.cells #[.int .i64 36, .int .i64 2, .int .i64 24, .int .i64 40, .int .i64 600, .int .i64 64, .int .i32 128, .int .i64 64, .int .i32 128, .int .i64 0, .int .i64 0] 210) = W4 at O3 ST HB4 hS4 ⊢
  refine wp_loop_rounds 2 ?_
  refine Eq.mpr rounds_succ ?_
  go_wp2_with fail
  refine (boot_read ST.out).mono ?_
  rintro e w6 ⟨rfl, h6⟩
  have S6 := Lib.hid (ST.out.below h6)
  have O6 := Lib.hid (own_belowV O3.out h6)
  have HB6 := Lib.hid (HB4.out.trans (h6.mono (by omega)))
  have hs6 : S < w6.heap.size := S6.out.lt
  have s8 := S6.out.cell 8
  have s9 := S6.out.cell 9
  have f8 := S6.out.frozen 8
  simp only [stC, List.getElem?_toArray, List.getElem?_cons_succ, List.getElem?_cons_zero] at s8 s9
  clear h6 O3 ST HB4 hS4
  go_wp2_with fail
  go_region
  have S7 : Hid (Blk (w6.setCell ⟨S, 8, none⟩ (.int .i32 233)).drew S 210 (stC 64 233 0 0)) := Lib.hid (S6.out.set_ 8 (.int .i32 233))
  have O7 : Hid (World.ownsRow (w6.setCell ⟨S, 8, none⟩ (.int .i32 233)).drew N 21 1 (.slice (some ⟨g9, 0, none⟩) 1 c9) 1 [.int .i32 97]) := Lib.hid (own_kept O6.out (by decide) (KeptT.setCell (i := 8) S6.out (.int .i32 233)))
  have HB7 : Hid (Below PB w (w6.setCell ⟨S, 8, none⟩ (.int .i32 233)).drew) := Lib.hid ((HB6.out.setCell (p := ⟨S, 8, none⟩) (by show PB ≤ S; omega) (.int .i32 233)).drew)
  generalize (w6.setCell ⟨S, 8, none⟩ (.int .i32 233)).drew = W7 at S7 O7 HB7 ⊢
  clear s8 s9 f8 S6 O6 HB6 hs6
  have s8 := S7.out.cell 8
  simp only [stC, List.getElem?_toArray, List.getElem?_cons_succ, List.getElem?_cons_zero] at s8
  go_wp2_with (go_at_call 56; refine (valid_e _).mono ?_; rintro e w8 ⟨rfl, rfl⟩)
  have hS7 := S7.out.lt
  have Rg : g9 < W7.heap.size := ((own_type O7.out rfl).choose_spec).lt
  refine (runes_Insert (base := N) (O7.out.alloc (.cells #[.int .i32 233] 21)) (Blk.new W7 21 #[.int .i32 233]) (fun e => by have e2 : g9 = W7.heap.size := Option.some.inj e; omega) (by rw [World.size_alloc]; omega)).mono ?_
  rintro e W9 ⟨⟨g, c, cur, rfl, hNg, hkc, q0, q1⟩, hb9, hk9⟩
  have hS9 := hk9.blk (by decide) (S7.out.alloc (.cells #[.int .i32 233] 21))
  have HB9 := Lib.hid ((HB7.out.alloc (by omega) (.cells #[.int .i32 233] 21)).trans (hb9.mono (by omega)))
  have KC := Lib.hid hkc
  have S9 := Lib.hid hS9
  have s9 := hS9.cell 9
  simp only [stC, List.getElem?_toArray, List.getElem?_cons_succ, List.getElem?_cons_zero] at s9
  clear hb9 hk9 hS9 hkc s8 O7 S7 HB7
  go_wp2_with fail
  refine (boot_adapt S9.out).mono ?_
  rintro e W10 ⟨rfl, hb10, hk10, many, hS10⟩
  have KC10 := hk10.blk (by decide) KC.out
  have HB10 := Lib.hid (HB9.out.trans (hb10.mono (by omega)))
  have f9 := hS10.frozen 9
  have t9 := hS10.cell 9
  simp only [stC, List.getElem?_toArray, List.getElem?_cons_succ, List.getElem?_cons_zero] at t9
  have hcv := conv_e (c := c) ((KeptT.setCell (i := 9) hS10 (.int .i64 1)).blk (by decide) KC10) q0 q1
  clear hb10 hk10 hS10 KC10 KC S9 HB9 s9
  go_wp2_with fail
  refine Eq.mpr rounds_succ ?_
  go_wp2_with fail
  refine bodyPost_ret (v := .tuple #[.string ⟨#[195, 169, 97]⟩, .int .i64 0, .int .i64 0]) (by simp [results, Tryz.results98, go_sem]) rfl ⟨rfl, ?_⟩
  rw [HPB.out]
  exact HB10.out.setCell (p := ⟨S, 9, none⟩) (by show PB ≤ S; omega) _

end
section
open Go.RowKit Go.Shelf
set_option linter.unusedVariables false
theorem is_typeOf (v : Value) (w : World) : (Extern.ReflectliteType.typeOf #[.iface 38 v]).run Tryz.prog w = .ok (.iface 231 (.agg #[.pointer (some ⟨4, 38, none⟩)])) w := by kernel_rfl
theorem is_comparable (w : World) : ((Extern.ReflectliteType.method fun t => do Extern.Rtype.noPackHeld "Comparable" t; (fun a => Value.bool a.comparable) <$> typeInfo t) #[.agg #[.pointer (some ⟨4, 38, none⟩)]]).run Tryz.prog w = .ok (.bool true) w := by kernel_rfl
theorem is_method (v : Value) (w : World) : (Go.method 415 231 v "Comparable").run Tryz.prog w = .ok (262, v) w := by kernel_rfl
theorem is_comp : (Tryz.prog.info? 38).map (·.comparable) = some true := by kernel_rfl
set_option maxRecDepth 100000 in
set_option maxHeartbeats 4000000 in
theorem errors_is (w : World) :
    Calls Tryz.prog 146 #[.iface 38 (.int .i64 0), .iface 38 (.int .i64 0), .bool true] w fun e w' => e = .returned (.bool true) ∧ w = w' := by
  have heq : ∀ W, (binOp .eql 46 (.iface 38 (.int .i64 0)) (.iface 38 (.int .i64 0))).run Tryz.prog W = .ok (.bool true) W := fun W => Lib.run_eql_iface_int (P := Tryz.prog) W 0 0 Tryz.underlying46 is_comp Tryz.underlying38
  go_enter Tryz.func146, Tryz.ntmps146
  go_wp2_with fail
  refine wp_loop_rounds 1 ?_
  refine Eq.mpr rounds_succ ?_
  go_wp2_with fail
  go_ret
  exact ⟨rfl, rfl⟩
set_option maxRecDepth 100000 in
set_option maxHeartbeats 4000000 in
theorem errors_Is (w : World) :
    Calls Tryz.prog 100 #[.iface 38 (.int .i64 0), .iface 38 (.int .i64 0)] w fun e w' => e = .returned (.bool true) ∧ w = w' := by
  have h8 := @run_callFunc_extern Tryz.prog 145 _ Extern.ReflectliteType.typeOf Tryz.func145 (by kernel_rfl) (by kernel_rfl) (by kernel_rfl) (by kernel_rfl)
  have h32 := @run_callFunc_extern Tryz.prog 262 _ (Extern.ReflectliteType.method fun t => do Extern.Rtype.noPackHeld "Comparable" t; pure (.bool (← typeInfo t).comparable)) Tryz.func262 (by kernel_rfl) (by kernel_rfl) (by kernel_rfl) (by kernel_rfl)
  have tT := is_typeOf
  have cT := is_comparable
  have mR := is_method
  have heq : ∀ W, (binOp .eql 46 (.iface 38 (.int .i64 0)) (.iface 38 (.int .i64 0))).run Tryz.prog W = .ok (.bool true) W := fun W => Lib.run_eql_iface_int (P := Tryz.prog) W 0 0 Tryz.underlying46 is_comp Tryz.underlying38
  go_enter Tryz.func100, Tryz.ntmps100
  go_wp2_with fail
  refine (errors_is w).mono ?_
  rintro e w' ⟨rfl, rfl⟩
  go_wp2_with fail
  go_ret
  exact ⟨rfl, rfl⟩

end
end Go.Proofs.YtjmkdimbbacnfaaGreatDoor
