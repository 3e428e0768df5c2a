/- Walk: spots.New: a text, where its spots begin, and which begin its lines. -/
import Derived.Test.YtkenffbonnbflaaDoorRefspots
import Derived.Deep.RegionHeld3
import Derived.Deep.AppendLies
import Derived.Deep.DrawnRows
import Derived.StillTactics
import Derived.Laws.Pointers
namespace Go.Proofs.YtkenffbonnbflaaDoor
open Go.RowKit
set_option linter.unusedVariables false
theorem infoInt : (Tryd.prog.info? 3).map (fun i => (i.zero, i.size, i.bytes)) = some (some (.int .i64 0), 1, 8) := by kernel_rfl
def natCells (l : List Nat) : List Value := l.map fun (n : Nat) => Value.int .i64 (n : Int)
theorem natCells_length (l : List Nat) : (natCells l).length = l.length := by simp [natCells]
theorem natCells_snoc (l : List Nat) (n : Nat) : natCells (l ++ [n]) = natCells l ++ [.int .i64 n] := by simp [natCells]

/-- a Text at block T: its three fields, each of its own memory -/
def TextAt (w : World) (base T : Nat) (s : ByteArray) (bs ls : List Nat) (vb vl : Value) : Prop :=
  Blk w T 121 #[.string s, vb, vl] ∧ w.ownsRow base 3 1 vb bs.length (natCells bs) ∧ w.ownsRow base 3 1 vl ls.length (natCells ls) ∧ vl.ownBlock ≠ vb.ownBlock
theorem TextAt.below {w w' : World} {base T : Nat} {s : ByteArray} {bs ls : List Nat} {vb vl : Value} (h : TextAt w base T s bs ls vb vl) (hb : Below w.heap.size w w') : TextAt w' base T s bs ls vb vl :=
  ⟨h.1.below hb, own_below h.2.1 hb, own_below h.2.2.1 hb, h.2.2.2⟩
theorem TextAt.iterAt {w : World} {base T k p : Nat} {s t : ByteArray} {bs ls : List Nat} {vb vl : Value} (h : TextAt w base T s bs ls vb vl) (hk : w.heap[k]? = some (.stringIter t p)) (q : Nat) : TextAt (w.iterAt k t q) base T s bs ls vb vl :=
  ⟨h.1.of (Lib.iterAt_other w k T t q (fun e => by have := h.1; unfold Blk at this; rw [e, hk] at this; cases this)), own_iterAt h.2.1 hk q, own_iterAt h.2.2.1 hk q, h.2.2.2⟩
/-- one number more in the first list -/
theorem TextAt.more1 {w w1 : World} {base T g cap n : Nat} {s : ByteArray} {bs ls : List Nat} {vb vl : Value} {o : Obj} (h : TextAt w base T s bs ls vb vl)
    (hown1 : w1.ownsRow base 3 1 (.slice (some ⟨g, 0, none⟩) (bs.length + 1) cap) (bs.length + 1) (natCells bs ++ [.int .i64 (n : Int)])) (hgrow : (w.alloc o).grownBy w1 vb.ownBlock)
    (hat : vb.ownBlock = some g ∨ g = w.heap.size + 1) :
    TextAt (w1.setCell ⟨T, 1, none⟩ (.slice (some ⟨g, 0, none⟩) (bs.length + 1) cap)) base T s (bs ++ [n]) ls (.slice (some ⟨g, 0, none⟩) (bs.length + 1) cap) vl := by
  obtain ⟨hT, h1, h2, hne⟩ := h
  have hT1 : Blk w1 T 121 #[.string s, vb, vl] := (hT.alloc o).of (hgrow.block T (hT.alloc o).lt (own_ne_blk h1 hT (by decide)))
  have hl1 : w1.ownsRow base 3 1 vl ls.length (natCells ls) := (h2.alloc o).kept hgrow (.inr hne)
  refine ⟨hT1.set_ 1 _, ?_, own_setCell hl1 (own_ne_blk hl1 hT1 (by decide)) _, ?_⟩
  · rw [natCells_snoc, List.length_append]
    exact own_setCell hown1 (own_ne_blk hown1 hT1 (by decide)) _
  · intro e
    rcases hat with hat | hat
    · exact hne (by rw [e, hat]; rfl)
    · have := (h2.lt g (by rw [e]; rfl)).2
      omega
/-- one number more in the second list -/
theorem TextAt.more2 {w w1 : World} {base T g cap n : Nat} {s : ByteArray} {bs ls : List Nat} {vb vl : Value} {o : Obj} (h : TextAt w base T s bs ls vb vl)
    (hown1 : w1.ownsRow base 3 1 (.slice (some ⟨g, 0, none⟩) (ls.length + 1) cap) (ls.length + 1) (natCells ls ++ [.int .i64 (n : Int)])) (hgrow : (w.alloc o).grownBy w1 vl.ownBlock)
    (hat : vl.ownBlock = some g ∨ g = w.heap.size + 1) :
    TextAt (w1.setCell ⟨T, 2, none⟩ (.slice (some ⟨g, 0, none⟩) (ls.length + 1) cap)) base T s bs (ls ++ [n]) vb (.slice (some ⟨g, 0, none⟩) (ls.length + 1) cap) := by
  obtain ⟨hT, h1, h2, hne⟩ := h
  have hT1 : Blk w1 T 121 #[.string s, vb, vl] := (hT.alloc o).of (hgrow.block T (hT.alloc o).lt (own_ne_blk h2 hT (by decide)))
  have hl1 : w1.ownsRow base 3 1 vb bs.length (natCells bs) := (h1.alloc o).kept hgrow (.inr (Ne.symm hne))
  refine ⟨hT1.set_ 2 _, own_setCell hl1 (own_ne_blk hl1 hT1 (by decide)) _, ?_, ?_⟩
  · rw [natCells_snoc, List.length_append]
    exact own_setCell hown1 (own_ne_blk hown1 hT1 (by decide)) _
  · intro e
    rcases hat with hat | hat
    · exact hne (by rw [hat, ← e]; rfl)
    · have := (h1.lt g (by rw [← e]; rfl)).2
      omega

/-- behind 't.bytes = append(t.bytes, at)' -/
theorem new_mid {s : ByteArray} {w W2 w1 : World} {acc : List Spt} {vb vl : Value} {pos q g cap : Nat} (hT : TextAt W2 w.heap.size (w.heap.size + 1) s (acc.map (·.pos)) (lineStarts acc) vb vl)
    (hI : W2.heap[w.heap.size + 1 + 1]? = some (.stringIter s q)) (hb : Below w.heap.size w W2)
    (hown1 : w1.ownsRow w.heap.size 3 1 (.slice (some ⟨g, 0, none⟩) ((acc.map (·.pos)).length + 1) cap) ((acc.map (·.pos)).length + 1) (natCells (acc.map (·.pos)) ++ [.int .i64 (pos : Int)]))
    (hgrow : (W2.alloc (.cells #[.int .i64 (pos : Int)] 3)).grownBy w1 vb.ownBlock) (hat : vb.ownBlock = some g ∨ g = W2.heap.size + 1) :
    TextAt (w1.setCell ⟨w.heap.size + 1, 1, none⟩ (.slice (some ⟨g, 0, none⟩) (acc.length + 1) cap)) w.heap.size (w.heap.size + 1) s (acc.map (·.pos) ++ [pos]) (lineStarts acc) (.slice (some ⟨g, 0, none⟩) (acc.length + 1) cap) vl ∧
    (w1.setCell ⟨w.heap.size + 1, 1, none⟩ (.slice (some ⟨g, 0, none⟩) (acc.length + 1) cap)).heap[w.heap.size + 1 + 1]? = some (.stringIter s q) ∧
    Below w.heap.size w (w1.setCell ⟨w.heap.size + 1, 1, none⟩ (.slice (some ⟨g, 0, none⟩) (acc.length + 1) cap)) := by
  have hs := hb.size
  have h := hT.more1 hown1 hgrow hat
  rw [List.length_map] at h
  refine ⟨h, ?_, ?_⟩
  · rw [Below.heap_setCell _ _ _ _ (by simp), hgrow.block _ (by simp; have := (Array.getElem?_eq_some_iff.1 hI).1; omega) (own_ne_iter hT.2.1 hI), Below.heap_alloc _ _ _ (Array.getElem?_eq_some_iff.1 hI).1]
    exact hI
  · exact ((hb.alloc hs _).grown hgrow (by simp; omega) (fun k e => (hT.2.1.lt k e).1)).setCell (by simp) _
/-- behind 't.lines = append(t.lines, len(t.bytes))' -/
theorem new_mid2 {s : ByteArray} {w W3 w1 : World} {bs ls : List Nat} {vb vl : Value} {q g cap m : Nat} (hT : TextAt W3 w.heap.size (w.heap.size + 1) s bs ls vb vl)
    (hI : W3.heap[w.heap.size + 1 + 1]? = some (.stringIter s q)) (hb : Below w.heap.size w W3)
    (hown1 : w1.ownsRow w.heap.size 3 1 (.slice (some ⟨g, 0, none⟩) (ls.length + 1) cap) (ls.length + 1) (natCells ls ++ [.int .i64 (m : Int)]))
    (hgrow : (W3.alloc (.cells #[.int .i64 (m : Int)] 3)).grownBy w1 vl.ownBlock) (hat : vl.ownBlock = some g ∨ g = W3.heap.size + 1) :
    TextAt (w1.setCell ⟨w.heap.size + 1, 2, none⟩ (.slice (some ⟨g, 0, none⟩) (ls.length + 1) cap)) w.heap.size (w.heap.size + 1) s bs (ls ++ [m]) vb (.slice (some ⟨g, 0, none⟩) (ls.length + 1) cap) ∧
    (w1.setCell ⟨w.heap.size + 1, 2, none⟩ (.slice (some ⟨g, 0, none⟩) (ls.length + 1) cap)).heap[w.heap.size + 1 + 1]? = some (.stringIter s q) ∧
    Below w.heap.size w (w1.setCell ⟨w.heap.size + 1, 2, none⟩ (.slice (some ⟨g, 0, none⟩) (ls.length + 1) cap)) := by
  have hs := hb.size
  refine ⟨hT.more2 hown1 hgrow hat, ?_, ?_⟩
  · rw [Below.heap_setCell _ _ _ _ (by simp), hgrow.block _ (by simp; have := (Array.getElem?_eq_some_iff.1 hI).1; omega) (own_ne_iter hT.2.2.1 hI), Below.heap_alloc _ _ _ (Array.getElem?_eq_some_iff.1 hI).1]
    exact hI
  · exact ((hb.alloc hs _).grown hgrow (by simp; omega) (fun k e => (hT.2.2.1.lt k e).1)).setCell (by simp) _

/-- the loop's relation -/
def NewRel (s : ByteArray) (w wr : World) : Prop := ∃ (pos : Nat) (acc : List Spt) (vb vl : Value), pos ≤ s.size ∧ acc.length ≤ pos ∧ TextAt wr w.heap.size (w.heap.size + 1) s (acc.map (·.pos)) (lineStarts acc) vb vl ∧
  wr.heap[w.heap.size + 1 + 1]? = some (.stringIter s pos) ∧ acc ++ spotsAt pos (s.data.toList.drop pos) = spots s.data.toList ∧ Below w.heap.size w wr

set_option maxRecDepth 100000 in
set_option maxHeartbeats 2000000 in
theorem New_ok (s : ByteArray) (w : World) (hm : s.size ≤ 65536) :
    Calls Tryd.prog 90 #[.string s] w fun e w' => e = .returned (.tuple #[.pointer (some ⟨w.heap.size + 1, 0, none⟩), .int .i64 0]) ∧
      (∃ vb vl, TextAt w' w.heap.size (w.heap.size + 1) s (byteStarts (spots s.data.toList) s.size) (lineStarts (spots s.data.toList)) vb vl) ∧ Below w.heap.size w w' := by
  obtain ⟨i0, hi, hz0, hz1, hz2⟩ := info_parts infoInt
  have h9 : decide ((65536 : Int) < (s.size : Int)) = false := by rw [decide_eq_false_iff_not]; omega
  go_enter Tryd.func90, Tryd.ntmps90
  go_wp2
  go_loopw [5] (fun _ wr => NewRel s w wr) (fun _ wr => s.size - wr.iterPos (w.heap.size + 1 + 1))
  case atStart =>
    refine ⟨0, [], .slice none 0 0, .slice (some ⟨w.heap.size, 0, none⟩) 1 1, Nat.zero_le _, Nat.zero_le _, ⟨?_, World.ownsRow_nil _ _ _ _, ?_, by simp [Value.ownBlock]⟩, ?_, by simp [spots], ?_⟩
    · exact (Blk.of (w := (w.alloc (.cells #[.int .i64 0] 3)).alloc (.cells #[.string s, .slice none 0 0, .slice (some ⟨w.heap.size, 0, none⟩) 1 1] 121)) (by have h := Blk.new (w.alloc (.cells #[.int .i64 0] 3)) 121 #[.string s, .slice none 0 0, .slice (some ⟨w.heap.size, 0, none⟩) 1 1]; simpa using h) (Below.heap_alloc _ _ _ (by simp)))
    · exact ((World.ownsRow_lit w #[.int .i64 0] 1 (Nat.le_refl _) (by unfold maxLen; omega) rfl).alloc _).alloc _
    · have h := World.iter_heap ((w.alloc (.cells #[.int .i64 0] 3)).alloc (.cells #[.string s, .slice none 0 0, .slice (some ⟨w.heap.size, 0, none⟩) 1 1] 121)) s 0
      simpa using h
    · exact (((Below.refl _ w).alloc (Nat.le_refl _) _).alloc (by simp) _).alloc (by simp; omega) _
  case round =>
    obtain ⟨pos, acc, vb, vl, hp, hal, hT, hI, hspots, hb⟩ := hrel
    have Hsp := Lib.hid hspots
    have Hpos := Lib.hid (iterPos_of hI)
    clear hspots
    by_cases hlt : pos < s.size
    · have hnx : ∀ ty, (Instr.next (.pointer (some ⟨w.heap.size + 1 + 1, 0, none⟩)) true ty).run Tryd.prog wr = _ := fun ty => Lib.run_next_any_at wr (w.heap.size + 1 + 1) s pos ty hI hlt
      have hT2 := hT.iterAt hI (pos + (Utf8.decode s pos).2)
      have hI2 := Lib.iterAt_heap wr _ s pos (pos + (Utf8.decode s pos).2) hI
      have hb2 := Lib.below_iterAt hb (k := w.heap.size + 1 + 1) (by omega) s (pos + (Utf8.decode s pos).2)
      generalize wr.iterAt (w.heap.size + 1 + 1) s (pos + (Utf8.decode s pos).2) = W2 at *
      clear hT hI hb
      have hd := Lib.decodeL_drop s pos
      have hw := spt_width s pos hlt
      have hx : sptOf pos (s.data.toList.drop pos) = ⟨(Utf8.decode s pos).1, pos, (Utf8.decode s pos).2, isBad (Utf8.decode s pos)⟩ := by
        unfold sptOf; rw [hd]
      rw [hx] at hw
      generalize (Utf8.decode s pos).1 = r at *
      generalize (Utf8.decode s pos).2 = n at *
      simp only at hw
      have Hx := Lib.hid hx
      clear hx hd
      have hs2 := hb2.size
      have hTlt := hT2.1.lt
      have hIlt := (Array.getElem?_eq_some_iff.1 hI2).1
      have hc1 := hT2.1.cell 1
      have hc2 := hT2.1.cell 2
      simp only [List.getElem?_toArray, List.getElem?_cons_succ, List.getElem?_cons_zero] at hc1 hc2
      have h1 := hT2.2.1
      have hgr : ∀ (w1 : World), (W2.alloc (.cells #[.int .i64 (pos : Int)] 3)).grownBy w1 vb.ownBlock → w1.cell? ⟨w.heap.size + 1, 1, none⟩ = some vb ∧ w1.frozen? ⟨w.heap.size + 1, 1, none⟩ = false := fun w1 hg => by
        have hB : Blk w1 (w.heap.size + 1) 121 #[.string s, vb, vl] := (hT2.1.alloc _).of (hg.block _ (hT2.1.alloc _).lt (own_ne_blk h1 hT2.1 (by decide)))
        exact ⟨hB.cell 1, hB.frozen 1⟩
      have HT2 := Lib.hid hT2
      have Hgr := Lib.hid hgr
      clear hT2 hgr
      go_wp2_with (first
        | (at_builtin; go_must (refine wpList_append_lies _ rfl _ _ 75 rfl w.heap.size 3 i0 _ 1 8 Tryd.underlying75 hi hz0 hz1 hz2 rfl (by decide) vb (acc.map (·.pos)).length _ rfl (h1.alloc _) ⟨W2.heap.size, 0, none⟩ 1 1 [.int .i64 pos] rfl rfl (cells_new _ [_] _ _ rfl) (by simp [Value.oneCell']) (by decide) (by unfold maxLen; simp; omega) (by simp; omega) (by simp; omega) (W2.heap.size + 1) (by simp) ?_); intro g cap w1 hown1 hgrow hat hlt1; have hcf := Hgr.out w1 hgrow; obtain ⟨hcc, hcf⟩ := hcf))
      · obtain ⟨hT3, hI3, hb3⟩ := new_mid HT2.out hI2 hb2 hown1 hgrow hat
        clear hgrow hown1 hcc hcf hb2 hI2 h1
        generalize w1.setCell ⟨w.heap.size + 1, 1, none⟩ (.slice (some ⟨g, 0, none⟩) (acc.length + 1) cap) = W3 at *
        have hs3 := hb3.size
        have hTlt3 := hT3.1.lt
        have c1 := hT3.1.cell 1
        have c2 := hT3.1.cell 2
        have f2 := hT3.1.frozen 2
        simp only [List.getElem?_toArray, List.getElem?_cons_succ, List.getElem?_cons_zero] at c1 c2
        have h1 := hT3.2.2.1
        have hlen := lineStarts_length_le acc
        have c1a : ∀ o, ((W3.alloc o).drew).cell? ⟨w.heap.size + 1, 1, none⟩ = some (.slice (some ⟨g, 0, none⟩) (acc.length + 1) cap) := fun o => (hT3.1.alloc o).cell 1
        have c2a : ∀ o, ((W3.alloc o).drew).cell? ⟨w.heap.size + 1, 2, none⟩ = some vl := fun o => (hT3.1.alloc o).cell 2
        have hnb := own_ne_blk h1 hT3.1 (by decide)
        have hfa : ∀ o, ((W3.alloc o).drew).frozen? ⟨w.heap.size + 1, 2, none⟩ = false := fun o => (hT3.1.alloc o).frozen 2
        have HT3 := Lib.hid hT3
        clear hT3
        go_region_law
          ((refine step_append_lies _ (by rfl) _ _ _ (by rfl) w.heap.size 3 i0 _ 1 8 Tryd.underlying75 hi hz0 hz1 hz2 rfl (by decide) vl (lineStarts acc).length _ (by rfl) ((h1.alloc _).drew)
              ⟨W3.heap.size, 0, none⟩ 1 1 [.int .i64 ((acc.length + 1 : Nat) : Int)] (by rfl) (by rfl) (cells_new _ [_] _ _ rfl) (by simp [Value.oneCell']) (by decide) (by unfold maxLen; omega) (by omega) (by simp; omega) (W3.heap.size + 1) (by simp) ?_; intro g2 cap2 w2 hown2 hgrow2 hat2 hlt2; have d2 := (hgrow2.cell_far ⟨w.heap.size + 1, 2, none⟩ (by simp; omega) hnb).trans (c2a _); have e2 := (hgrow2.frozen_far ⟨w.heap.size + 1, 2, none⟩ (by simp; omega) hnb).trans (hfa _)))
        all_goals
          have hr : r = 10 := by
            have h : ((r : Int) == 10) = true := by assumption
            rw [beq_iff_eq] at h
            omega
          obtain ⟨hT4, hI4, hb4⟩ := new_mid2 (m := acc.length + 1) HT3.out hI3 hb3 hown2 ⟨hgrow2.os, hgrow2.tape, hgrow2.output, hgrow2.size, hgrow2.block⟩ hat2
          go_roundw
          case rel =>
            have hN : NewRel s w _ := ⟨pos + n, acc ++ [⟨r, pos, n, isBad (Utf8.decode s pos)⟩], _, _, by omega, by simp; omega, by rw [List.map_append, lineStarts_snoc, if_pos hr]; exact hT4, hI4, spots_step s pos hlt acc _ Hx.out Hsp.out, hb4⟩
            first | exact hN | ((repeat apply Exists.intro); exact ⟨hN, rfl⟩)
          case measure =>
            rw [iterPos_of hI4, Hpos.out]
            omega
      · obtain ⟨hT3, hI3, hb3⟩ := new_mid HT2.out hI2 hb2 hown1 hgrow hat
        have hr : ¬ r = 10 := by
          have h : ((r : Int) == 10) = false := by assumption
          rw [beq_eq_false_iff_ne] at h
          omega
        go_roundw
        case rel =>
          have hN : NewRel s w _ := ⟨pos + n, acc ++ [⟨r, pos, n, isBad (Utf8.decode s pos)⟩], _, vl, by omega, by simp; omega, by rw [List.map_append, lineStarts_snoc, if_neg hr, List.append_nil]; exact hT3, hI3, spots_step s pos hlt acc _ Hx.out Hsp.out, hb3⟩
          exact hN
        case measure =>
          rw [iterPos_of hI3, Hpos.out]
          omega
    · have hnx : ∀ ty, (Instr.next (.pointer (some ⟨w.heap.size + 1 + 1, 0, none⟩)) true ty).run Tryd.prog wr = _ := fun ty => Lib.run_next_end_at wr (w.heap.size + 1 + 1) s pos ty hI hlt
      have hacc := spots_end s pos hlt acc Hsp.out
      have hs2 := hb.size
      have hTlt := hT.1.lt
      have hc1 := hT.1.cell 1
      have hc2 := hT.1.cell 2
      simp only [List.getElem?_toArray, List.getElem?_cons_succ, List.getElem?_cons_zero] at hc1 hc2
      have h1 := hT.2.1
      have hgr : ∀ (w1 : World), (wr.alloc (.cells #[.int .i64 (s.size : Int)] 3)).grownBy w1 vb.ownBlock → w1.cell? ⟨w.heap.size + 1, 1, none⟩ = some vb ∧ w1.frozen? ⟨w.heap.size + 1, 1, none⟩ = false := fun w1 hg => by
        have hB : Blk w1 (w.heap.size + 1) 121 #[.string s, vb, vl] := (hT.1.alloc _).of (hg.block _ (hT.1.alloc _).lt (own_ne_blk h1 hT.1 (by decide)))
        exact ⟨hB.cell 1, hB.frozen 1⟩
      have HT := Lib.hid hT
      have Hgr := Lib.hid hgr
      have Hacc := Lib.hid hacc
      clear hT hgr hacc
      go_wp2_with (first
        | (at_builtin; go_must (refine wpList_append_lies _ rfl _ _ 75 rfl w.heap.size 3 i0 _ 1 8 Tryd.underlying75 hi hz0 hz1 hz2 rfl (by decide) vb (acc.map (·.pos)).length _ rfl (h1.alloc _) ⟨wr.heap.size, 0, none⟩ 1 1 [.int .i64 s.size] rfl rfl (cells_new _ [_] _ _ rfl) (by simp [Value.oneCell']) (by decide) (by unfold maxLen; simp; omega) (by simp; omega) (by simp; omega) (wr.heap.size + 1) (by simp) ?_); intro g cap w1 hown1 hgrow hat hlt1; have hcf := Hgr.out w1 hgrow; obtain ⟨hcc, hcf⟩ := hcf))
      obtain ⟨hT3, hI3, hb3⟩ := new_mid HT.out hI hb hown1 hgrow hat
      go_ret2
      have hlen : acc.length = (spots s.data.toList).length := by rw [Hacc.out]
      have e1 : byteStarts (spots s.data.toList) s.size = acc.map (·.pos) ++ [s.size] := by rw [← Hacc.out]; rfl
      have e2 : lineStarts (spots s.data.toList) = lineStarts acc := by rw [← Hacc.out]
      rw [e1, e2]
      exact ⟨rfl, ⟨_, vl, hT3⟩, hb3⟩
end Go.Proofs.YtkenffbonnbflaaDoor
