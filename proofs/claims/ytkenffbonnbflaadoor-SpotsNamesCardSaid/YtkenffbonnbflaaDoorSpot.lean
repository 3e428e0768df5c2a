/- Walks: (*spots.Text).Spot. -/
import Derived.Test.YtkenffbonnbflaaDoorFirst
import Derived.Test.YtkenffbonnbflaaDoorQuiet
import Derived.Test.YtkenffbonnbflaaDoorBytes
import Derived.Deep.RegionHeld3
namespace Go.Proofs.YtkenffbonnbflaaDoor
open Go.RowKit
set_option linter.unusedVariables false

/-- the piece of one spot is decoded as the spot -/
theorem piece_dec (s : ByteArray) (n : Nat) (x : Spt) (hx : (sp s)[n]? = some x) : Utf8.decode (s.extract (bAt s n) (bAt s (n + 1))) 0 = (x.r, x.n) ∧ 0 < (s.extract (bAt s n) (bAt s (n + 1))).size ∧ x.bad = isBad (x.r, x.n) := by
  obtain ⟨e1, e2, e3, e4⟩ := spot_dec s.data.toList n x hx
  have hn : n < nS s := (List.getElem?_eq_some_iff.1 hx).1
  have hd : Lib.decodeL (s.data.toList.drop x.pos) = (x.r, x.n) := by
    have a : x.r = (Lib.decodeL (s.data.toList.drop x.pos)).1 := congrArg Spt.r e1
    have b : x.n = (Lib.decodeL (s.data.toList.drop x.pos)).2 := congrArg Spt.n e1
    rw [a, b]
  have hw := Lib.decodeL_width (s.data.toList.drop x.pos)
  rw [hd] at hw
  dsimp only at hw
  have hb0 : bAt s n = x.pos := by rw [bAt_pos]; exact e2.symm
  have hb1 : bAt s (n + 1) = x.pos + x.n := by rw [bAt_pos]; exact e3.symm
  have hle := bAt_le s (n + 1)
  refine ⟨?_, ?_, ?_⟩
  · rw [← Lib.decodeL_drop, List.drop_zero, ext_list, hb0, hb1, Nat.add_sub_cancel_left, decodeL_take _ _ (by rw [hd]; exact Nat.le_refl _), hd]
  · rw [ext_size s _ _ (by omega) hle]; omega
  · have a : x.bad = isBad (Lib.decodeL (s.data.toList.drop x.pos)) := congrArg Spt.bad e1
    rw [a, hd]

section
variable {w : World} {T : Nat} {s : ByteArray} {gb cb gl cl : Nat}
set_option maxHeartbeats 1000000 in
theorem Spot_no (h : TextIs w T s gb cb gl cl) (n : Int) (hn : n < 0 ∨ (nS s : Int) ≤ n) :
    Calls Tryd.prog 58 #[.pointer (some ⟨T, 0, none⟩), .int .i64 n] w fun e w' => e = .returned (.tuple #[noneV, .bool false]) ∧ Below w.heap.size w w' := by
  have h1 := h.below ((Below.refl _ w).alloc (Nat.le_refl _) (.cells #[.int .i32 0, .int .i64 0, .bool false] 25))
  have H1 := Lib.hid (Count_any h1)
  have hs := h.size
  have hns := nS_le s
  clear h1
  rcases Int.lt_or_le n 0 with h0 | h0
  · clear hn
    go_enter Tryd.func58, Tryd.ntmps58
    go_wp2_with (go_at_call 56; refine H1.out.mono ?_; rintro e w' ⟨rfl, rfl⟩)
    refine bodyPost_ret (v := .tuple #[.agg #[.int .i32 0, .int .i64 0, .bool false], .bool false]) (by simp [results, Tryd.results58, go_sem]) rfl ⟨rfl, ?_⟩
    first | exact (Below.refl _ w).alloc (Nat.le_refl _) _ | exact ((((Below.refl _ w).alloc (Nat.le_refl _) _).setCell (Nat.le_refl _) _).setCell (Nat.le_refl _) _).setCell (Nat.le_refl _) _
  · have h2 : (nS s : Int) ≤ n := by omega
    clear hn
    go_enter Tryd.func58, Tryd.ntmps58
    go_wp2_with (go_at_call 56; refine H1.out.mono ?_; rintro e w' ⟨rfl, rfl⟩)
    refine bodyPost_ret (v := .tuple #[.agg #[.int .i32 0, .int .i64 0, .bool false], .bool false]) (by simp [results, Tryd.results58, go_sem]) rfl ⟨rfl, ?_⟩
    first | exact (Below.refl _ w).alloc (Nat.le_refl _) _ | exact ((((Below.refl _ w).alloc (Nat.le_refl _) _).setCell (Nat.le_refl _) _).setCell (Nat.le_refl _) _).setCell (Nat.le_refl _) _
set_option maxHeartbeats 2000000 in
theorem Spot_yes (h : TextIs w T s gb cb gl cl) (n : Nat) (x : Spt) (hx : (sp s)[n]? = some x) (hT : Lib.Utf8Tabs 0 1 w) :
    Calls Tryd.prog 58 #[.pointer (some ⟨T, 0, none⟩), .int .i64 (n : Int)] w fun e w' => e = .returned (.tuple #[utfV x.r x.n x.bad, .bool true]) ∧ Below w.heap.size w w' := by
  have hn : n < nS s := (List.getElem?_eq_some_iff.1 hx).1
  have hb1 := (Below.refl _ w).alloc (Nat.le_refl _) (.cells #[.int .i32 0, .int .i64 0, .bool false] 25)
  have h1 := h.below hb1
  have H1 := Lib.hid (Count_any h1)
  have hs := h.size
  have hns := nS_le s
  obtain ⟨p1, p2, p3⟩ := piece_dec s n x hx
  have HF := Lib.hid (fun w hT => First_some _ w p2 x.r x.n p1 hT)
  rw [← p3] at HF
  have HT := Lib.hid (Utf8Tabs_below hT hb1)
  have B := Blk.new w 25 #[.int .i32 0, .int .i64 0, .bool false]
  have c0 := h1.c0
  have c1 := h1.c1
  have b0 := h1.hb n (by omega)
  have b1 := h1.hb (n + 1) (by omega)
  have m1 := bAt_mono s n (n + 1) (by omega) (by omega)
  have m2 := bAt_le s (n + 1)
  have qT := h.tT
  have qb := h.tb
  have hsz : (w.alloc (.cells #[.int .i32 0, .int .i64 0, .bool false] 25)).heap.size = w.heap.size + 1 := by simp
  have i1 : (0 : Int) ≤ (n : Int) := by omega
  have i2 : (n : Int) < (nS s : Int) + 1 := by omega
  have i3 : (n : Int) + 1 < (nS s : Int) + 1 := by omega
  have i4 : (0 : Int) ≤ (n : Int) + 1 := by omega
  have i5 : (bAt s n : Int) ≤ (bAt s (n + 1) : Int) := by omega
  have i6 : (bAt s (n + 1) : Int) ≤ (s.size : Int) := by omega
  have i7 : n < nS s + 1 := by omega
  have i9 : (n : Int) < (nS s : Int) := by omega
  have hwr : IntKind.i64.wrap ((n : Int) + 1) = (n : Int) + 1 := by rw [IntKind.wrap_i64]; omega
  have i8 : n + 1 < nS s + 1 := by omega
  clear hT h1 p1 p2 p3 hx
  go_enter Tryd.func58, Tryd.ntmps58
  go_wp2_with (go_at_call 56; refine H1.out.mono ?_; rintro e w' ⟨rfl, rfl⟩)
  generalize w.alloc (.cells #[.int .i32 0, .int .i64 0, .bool false] 25) = w1 at *
  have HTd : Hid (Lib.Utf8Tabs 0 1 w1.drew) := Lib.hid (Utf8Tabs_below HT.out ((Below.refl _ w1).drew))
  have qT1 : T < w1.heap.size := by omega
  have qb1 : gb < w1.heap.size := by omega
  go_region_held3 (fun w' => w'.cell? ⟨T, 0, none⟩ = some (.string s) ∧ w'.cell? ⟨T, 1, none⟩ = some (.slice (some ⟨gb, 0, none⟩) (nS s + 1) cb) ∧ w'.cell? ⟨gb, n, none⟩ = some (.int .i64 (bAt s n : Int)) ∧ w'.cell? ⟨gb, n + 1, none⟩ = some (.int .i64 (bAt s (n + 1) : Int)))
    (first
      | go_keep
      | (go_split_ands
         exact ⟨(hb2.cell (p := ⟨T, 0, none⟩) qT1).trans c0, (hb2.cell (p := ⟨T, 1, none⟩) qT1).trans c1, (hb2.cell (p := ⟨gb, n, none⟩) qb1).trans b0, (hb2.cell (p := ⟨gb, n + 1, none⟩) qb1).trans b1⟩)
      | (go_split_ands
         have hset := fun (a b c : Value) => (((Below.refl w.heap.size w2).setCell (p := ⟨w.heap.size, 0, none⟩) (Nat.le_refl _) a).setCell (p := ⟨w.heap.size, 1, none⟩) (Nat.le_refl _) b).setCell (p := ⟨w.heap.size, 2, none⟩) (Nat.le_refl _) c
         exact ⟨((hset _ _ _).cell (p := ⟨T, 0, none⟩) qT).trans ((hb2.cell (p := ⟨T, 0, none⟩) qT1).trans c0), ((hset _ _ _).cell (p := ⟨T, 1, none⟩) qT).trans ((hb2.cell (p := ⟨T, 1, none⟩) qT1).trans c1), ((hset _ _ _).cell (p := ⟨gb, n, none⟩) qb).trans ((hb2.cell (p := ⟨gb, n, none⟩) qb1).trans b0), ((hset _ _ _).cell (p := ⟨gb, n + 1, none⟩) qb).trans ((hb2.cell (p := ⟨gb, n + 1, none⟩) qb1).trans b1)⟩)
      | fail)
    (first
      | (go_at_call 22; refine (HF.out _ HTd.out).mono ?_; rintro e w2 ⟨rfl, hb2⟩; have B2 := B.below (w' := w2) ⟨hb2.os, hb2.tape, hb2.output, hb2.size, hb2.block⟩; have d0 := B2.cell 0; have d1 := B2.cell 1; have d2 := B2.cell 2; have f0 := B2.frozen 0; have f1 := B2.frozen 1; have f2 := B2.frozen 2; simp only [List.getElem?_toArray, List.getElem?_cons_succ, List.getElem?_cons_zero] at d0 d1 d2; unfold utfV))
  have d0' : (((w2.setCell ⟨w.heap.size, 0, none⟩ (.int .i32 (x.r : Int))).setCell ⟨w.heap.size, 1, none⟩ (.int .i64 (x.n : Int))).setCell ⟨w.heap.size, 2, none⟩ (.bool x.bad)).cell? ⟨w.heap.size, 0, none⟩ = some (.int .i32 (x.r : Int)) := by simp [go_sem, d0]
  have d1' : (((w2.setCell ⟨w.heap.size, 0, none⟩ (.int .i32 (x.r : Int))).setCell ⟨w.heap.size, 1, none⟩ (.int .i64 (x.n : Int))).setCell ⟨w.heap.size, 2, none⟩ (.bool x.bad)).cell? ⟨w.heap.size, 1, none⟩ = some (.int .i64 (x.n : Int)) := by simp [go_sem, d1]
  have d2' : (((w2.setCell ⟨w.heap.size, 0, none⟩ (.int .i32 (x.r : Int))).setCell ⟨w.heap.size, 1, none⟩ (.int .i64 (x.n : Int))).setCell ⟨w.heap.size, 2, none⟩ (.bool x.bad)).cell? ⟨w.heap.size, 2, none⟩ = some (.bool x.bad) := by simp [go_sem, d2]
  go_wp2
  refine bodyPost_ret (v := .tuple #[.agg #[.int .i32 (x.r : Int), .int .i64 (x.n : Int), .bool x.bad], .bool true]) (by simp [results, Tryd.results58, go_sem, d0', d1', d2']) rfl ⟨rfl, ?_⟩
  exact ((((hb1.trans ((⟨hb2.os, hb2.tape, hb2.output, hb2.size, hb2.block⟩ : Below w1.heap.size w1 w2).mono (by omega)))).setCell (Nat.le_refl _) _).setCell (Nat.le_refl _) _).setCell (Nat.le_refl _) _
end
end Go.Proofs.YtkenffbonnbflaaDoor
