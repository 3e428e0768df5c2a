/- Walks: utf.Spots's value; utf.Valid. -/
import Derived.Test.YtkenffbonnbflaaDoorIter
namespace Go.Proofs.YtkenffbonnbflaaDoor
open Go.RowKit Go.Shelf
set_option linter.unusedVariables false
attribute [local go_sem] Oper.semAt_some

theorem Spots_val (s : ByteArray) (w : World) : Calls Tryd.prog 52 #[.string s] w fun e w' => e = .returned (.func (.func 88) #[] #[.pointer (some ⟨w.heap.size, 0, none⟩)]) ∧ w.alloc (.cells #[.string s] 9) = w' := by
  go_enter Tryd.func52, Tryd.ntmps52
  go_wp2
  go_ret
  exact ⟨rfl, rfl⟩

section
variable {B : Nat} {W W' : World} {row : Option Nat}
theorem blk_own {g : Nat} {t : TypeId} {cs : Array Value} (h : Blk W g t cs) (hg : W.grownBy W' row) (hr : ∀ r, row = some r → B ≤ r ∧ ∃ o : Obj, W.heap[r]? = some o ∧ o.isCells = false) : Blk W' g t cs :=
  h.of (grownBy_keeps_cells hg (fun r e => (hr r e).2) h rfl)
theorem below_own {n : Nat} {w : World} (h : Below n w W) (hg : W.grownBy W' row) (hr : ∀ r, row = some r → B ≤ r ∧ ∃ o : Obj, W.heap[r]? = some o ∧ o.isCells = false) (hw : n ≤ w.heap.size) (hB : n ≤ B) : Below n w W' :=
  h.grown hg (Nat.le_trans hw h.size) (fun k e => Nat.le_trans hB (hr k e).1)
end
theorem keepsFrom_below {B : Nat} {W W' : World} (h : Below W.heap.size W W') : KeepsFrom B W W' := ⟨h.size, fun k o _ hk _ => (h.block k (Array.getElem?_eq_some_iff.1 hk).1).trans hk⟩
theorem keepsFrom_set {B : Nat} (W : World) (b i : Nat) (v : Value) : KeepsFrom B W (W.setCell ⟨b, i, none⟩ v) := (KeepsOthers.setCell _ _ _).from _

/-- what Valid answers -/
def ValidRes (s : ByteArray) (p1 p2 : Int) (ok : Bool) : Prop := (ok = true ∧ p1 = 0 ∧ p2 = 0 ∧ ∀ i, i < nS s → (spA s i).bad = false) ∨ (ok = false ∧ ∃ i : Nat, i < nS s ∧ p1 = (bAt s i : Int) ∧ p2 = (i : Int) ∧ (spA s i).bad = true ∧ ∀ j, j < i → (spA s j).bad = false)

theorem calls_of_marks {P : Program} {f : FuncId} {fn : Func} {c : Code} {args : Array Value} {w : World} {R : Ending → World → Prop} (n : Nat)
    (hf : P.funcs[f]? = some fn) (hb : fn.body = some c)
    (h : c.wpIn Fence.wide n P (bodyPostM Fence.wide n P fn R) { tmps := args ++ Array.replicate (fn.ntmps - args.size) undef, defers := [] } w) : Calls P f args w R :=
  callsIn_wide.1 (callsIn_of_wp_marks hf hb trivial h rfl)

def VI (s : ByteArray) (w : World) (pre : List (Fin (nS s))) (W : World) : Prop :=
  (∀ i ∈ pre, (spA s i.val).bad = false) ∧ Blk W w.heap.size 82 #[.int .i64 0, .int .i64 0] ∧ Blk W (w.heap.size + 1) 4 #[.bool false] ∧ Blk W (w.heap.size + 1 + 1) 3 #[.int .i64 (pre.length : Int)] ∧ Below w.heap.size w W
def VIx (s : ByteArray) (w : World) (c : Code) (pre : List (Fin (nS s))) (W : World) : Prop :=
  c = .ret ∧ ∃ p0 i, (pre = p0 ++ [i] ∧ (∀ j ∈ p0, (spA s j.val).bad = false) ∧ (spA s i.val).bad = true) ∧ Blk W w.heap.size 82 #[.int .i64 (bAt s i.val : Int), .int .i64 (p0.length : Int)] ∧ Blk W (w.heap.size + 1) 4 #[.bool false] ∧ Below w.heap.size w W

theorem VI_own (s : ByteArray) (w : World) (B : Nat) (hB : w.heap.size ≤ B) : OwnFrom B (VI s w) := by
  rintro pre W W' row ⟨h, c0, c1, c2, hb⟩ hg hr
  exact ⟨h, blk_own c0 hg hr, blk_own c1 hg hr, blk_own c2 hg hr, below_own hb hg hr (Nat.le_refl _) hB⟩
theorem VIx_own (s : ByteArray) (w : World) (B : Nat) (hB : w.heap.size ≤ B) (c : Code) : OwnFrom B (VIx s w c) := by
  rintro pre W W' row ⟨h, p0, i, h2, c0, c1, hb⟩ hg hr
  exact ⟨h, p0, i, h2, blk_own c0 hg hr, blk_own c1 hg hr, below_own hb hg hr (Nat.le_refl _) hB⟩

set_option maxRecDepth 100000 in
set_option maxHeartbeats 4000000 in
theorem utfValid (s : ByteArray) (w : World) (hs : s.size ≤ 9223372036854775807) :
    Calls Tryd.prog 62 #[.string s] w fun e w' => (∃ p1 p2 ok, ValidRes s p1 p2 ok ∧ e = .returned (.tuple #[.agg #[.int .i64 p1, .int .i64 p2], .bool ok])) ∧ Below w.heap.size w w' := by
  have hns := nS_le s
  refine calls_of_marks 6 Tryd.func62 rfl ?_
  simp only [Tryd.ntmps62, List.size_toArray, List.length_cons, List.length_nil, Nat.reduceAdd, Nat.reduceSub, Array.replicate_succ, Array.replicate_zero, List.push_toArray, List.append_toArray, List.nil_append, List.cons_append]
  gi_wp2_with (refine ⟨trivial, ?_⟩; gi_at_call 52; refine (callsIn_wide.2 (Spots_val s _)).mono ?_; rintro e w' ⟨rfl, rfl⟩)
  obtain ⟨W0, hW0⟩ : ∃ W0, ((((w.alloc (.cells #[.int .i64 0, .int .i64 0] 82)).alloc (.cells #[.bool false] 4)).alloc (.cells #[.int .i64 0] 3)).alloc (.cells #[.string s] 9)) = W0 := ⟨_, rfl⟩
  have b0 : Blk W0 w.heap.size 82 #[.int .i64 0, .int .i64 0] := by rw [← hW0]; exact (((Blk.new w _ _).alloc _).alloc _).alloc _
  have b1 : Blk W0 (w.heap.size + 1) 4 #[.bool false] := by
    rw [← hW0]; have h := ((Blk.new (w.alloc (.cells #[.int .i64 0, .int .i64 0] 82)) 4 #[.bool false]).alloc (.cells #[.int .i64 0] 3)).alloc (.cells #[.string s] 9); simp only [World.size_alloc] at h; exact h
  have b2 : Blk W0 (w.heap.size + 1 + 1) 3 #[.int .i64 0] := by
    rw [← hW0]; have h := (Blk.new ((w.alloc (.cells #[.int .i64 0, .int .i64 0] 82)).alloc (.cells #[.bool false] 4)) 3 #[.int .i64 0]).alloc (.cells #[.string s] 9); simp only [World.size_alloc] at h; exact h
  have b3 : Blk W0 (w.heap.size + 1 + 1 + 1) 9 #[.string s] := by
    rw [← hW0]; have h := Blk.new (((w.alloc (.cells #[.int .i64 0, .int .i64 0] 82)).alloc (.cells #[.bool false] 4)).alloc (.cells #[.int .i64 0] 3)) 9 #[.string s]; simp only [World.size_alloc] at h; exact h
  have hB0 : Below w.heap.size w W0 := by
    rw [← hW0]; exact ((((Below.refl _ w).alloc (Nat.le_refl _) _).alloc (by simp) _).alloc (by simp; omega) _).alloc (by simp; omega) _
  have hsz : W0.heap.size = w.heap.size + 4 := by rw [← hW0]; simp
  rw [hW0]
  clear hW0
  refine wpIn_rangeFunc_ownH rfl (by omega) (gf := 88) (lb := #[.pointer (some ⟨w.heap.size + 1 + 1 + 1, 0, none⟩)]) rfl trivial (enters_of Tryd.func88 (by kernel_rfl) rfl)
    (spots_stops s (w.heap.size + 1 + 1 + 1) (fun k => k = w.heap.size ∨ k = w.heap.size + 1 ∨ k = w.heap.size + 1 + 1) (by show ¬ (_ = _ ∨ _ = _ ∨ _ = _); omega) W0 b3 (6 - 1) (by omega)) (fun h k => h.trans k) keeps_b (Below.refl _ _) (fun _ => rfl)
    (VI s w) (VIx s w)
    (VI_own s w _ (by omega)) (VIx_own s w _ (by omega)) (show VI s w [] W0 from ⟨fun i h => by simp at h, b0, b1, b2, hB0⟩)
    (fun x a' W => ∃ Bx, w.heap.size + 1 + 1 < Bx ∧ Blk W Bx 25 #[.int .i32 ((spA s x.val).r : Int), .int .i64 ((spA s x.val).n : Int), .bool (spA s x.val).bad] ∧ a' = { tmps := #[.string s, undef, .pointer (some ⟨w.heap.size, 0, none⟩), .pointer (some ⟨w.heap.size + 1, 0, none⟩), .pointer (some ⟨w.heap.size + 1 + 1, 0, none⟩), .int .i64 (bAt s x.val : Int), .pointer (some ⟨Bx, 0, none⟩), .string s, .func (.func 88) #[] #[.pointer (some ⟨w.heap.size + 1 + 1 + 1, 0, none⟩)], .int .i64 (bAt s x.val : Int), .agg #[.int .i32 ((spA s x.val).r : Int), .int .i64 ((spA s x.val).n : Int), .bool (spA s x.val).bad], undef, undef, undef, undef, undef, undef, undef, undef], defers := [] })
    (fun x a' _ X Y row hs hg hr => by obtain ⟨Bx, h1, h2, h3⟩ := hs; exact ⟨Bx, h1, blk_own h2 hg hr, h3⟩)
    ?assign ?body ?done ?stop
  case assign =>
    rintro l pre x W K ⟨hg, c0, c1, c2, hB⟩ hK
    have hsW := hB.size
    have hlt := c2.lt
    gi_wp2
    exact hK _ _ ((KeepsOthers.alloc _ _).from _) (Keeps.below ((Below.refl _ W).alloc (Nat.le_refl _) _)) ⟨hg, c0.alloc _, c1.alloc _, c2.alloc _, hB.alloc hsW _⟩ ⟨W.heap.size, hlt, Blk.new W _ _, rfl⟩
  case body =>
    rintro l pre x a' W hl ⟨r, hr⟩ ⟨hg, c0, c1, c2, hB⟩ ⟨Bx, hBx, bX, rfl⟩ hlt
    have dx := bX.cell 2
    have dn := c2.cell 0
    have fn := c2.frozen 0
    have d0 := c0.cell 0
    have d1 := c0.cell 1
    have f0 := c0.frozen 0
    have f1 := c0.frozen 1
    have db := c1.cell 0
    have fb := c1.frozen 0
    simp only [List.getElem?_toArray, List.getElem?_cons_succ, List.getElem?_cons_zero] at dx dn d0 d1 db
    have hln : (pre.length : Int) < 9223372036854775807 := by omega
    cases hb : (spA s x.val).bad with
    | true =>
      rw [hb] at dx
      gi_wp2
      have e0 := ((c0.set_ 0 (.int .i64 (bAt s x.val : Int))).set_ 1 (.int .i64 (pre.length : Int))).of (Below.heap_setCell _ ⟨w.heap.size + 1, 0, none⟩ (.bool false) w.heap.size (by simp))
      have e1 := ((c1.of (Below.heap_setCell W ⟨w.heap.size, 0, none⟩ (.int .i64 (bAt s x.val : Int)) (w.heap.size + 1) (by simp))).of (Below.heap_setCell _ ⟨w.heap.size, 1, none⟩ (.int .i64 (pre.length : Int)) (w.heap.size + 1) (by simp))).set_ 0 (.bool false)
      exact ⟨((keepsFrom_set _ _ _ _).trans (keepsFrom_set _ _ _ _)).trans (keepsFrom_set _ _ _ _), rfl, pre, x, ⟨rfl, hg, hb⟩, e0, e1, ((hB.setCell (Nat.le_refl _) _).setCell (Nat.le_refl _) _).setCell (by simp) _⟩
    | false =>
      rw [hb] at dx
      gi_wp2
      refine ⟨keepsFrom_set _ _ _ _, Keeps.setCell _ _ _ _ (.inr (.inr rfl)), ?_, c0.of (Below.heap_setCell _ _ _ _ (by simp; omega)), c1.of (Below.heap_setCell _ _ _ _ (by simp)), ?_, hB.setCell (by simp; omega) _⟩
      · intro i hi
        rcases List.mem_append.1 hi with hi | hi
        · exact hg i hi
        · simp only [List.mem_singleton] at hi
          subst hi
          exact hb
      · rw [show ((pre ++ [x]).length : Int) = (pre.length : Int) + 1 by simp]
        exact c2.set_ 0 _
  case done =>
    rintro D ys W hD rfl ⟨hg, c0, c1, c2, hB⟩ hK
    have d0 := c0.cell 0
    have d1 := c0.cell 1
    have f0 := c0.frozen 0
    have f1 := c0.frozen 1
    have db := c1.cell 0
    have fb := c1.frozen 0
    simp only [List.getElem?_toArray, List.getElem?_cons_succ, List.getElem?_cons_zero] at d0 d1 db
    gi_wp2
    have e0 := ((c0.set_ 0 (.int .i64 0)).set_ 1 (.int .i64 0)).of (Below.heap_setCell _ ⟨w.heap.size + 1, 0, none⟩ (.bool true) w.heap.size (by simp))
    have e1 := ((c1.of (Below.heap_setCell W ⟨w.heap.size, 0, none⟩ (.int .i64 0) (w.heap.size + 1) (by simp))).of (Below.heap_setCell _ ⟨w.heap.size, 1, none⟩ (.int .i64 0) (w.heap.size + 1) (by simp))).set_ 0 (.bool true)
    have hK' := (Below.heap_setCell _ ⟨w.heap.size + 1, 0, none⟩ (.bool true) D (by simp; omega)).trans ((Below.heap_setCell _ ⟨w.heap.size, 1, none⟩ (.int .i64 0) D (by simp; omega)).trans ((Below.heap_setCell W ⟨w.heap.size, 0, none⟩ (.int .i64 0) D (by simp; omega)).trans hK))
    have hB3 := ((hB.setCell (p := ⟨w.heap.size, 0, none⟩) (Nat.le_refl _) (.int .i64 0)).setCell (p := ⟨w.heap.size, 1, none⟩) (Nat.le_refl _) (.int .i64 0)).setCell (p := ⟨w.heap.size + 1, 0, none⟩) (by simp) (.bool true)
    refine ⟨by simp, .inl ⟨_, _, rfl, run_takeDeferred hK', ?_⟩⟩
    have g0 := (e0.of (World.putObj_heap_other (o := .deferred none) (show w.heap.size ≠ D by omega))).cell 0
    have g1 := (e0.of (World.putObj_heap_other (o := .deferred none) (show w.heap.size ≠ D by omega))).cell 1
    have g2 := (e1.of (World.putObj_heap_other (o := .deferred none) (show w.heap.size + 1 ≠ D by omega))).cell 0
    simp at g0 g1 g2
    refine ⟨.tuple #[.agg #[.int .i64 0, .int .i64 0], .bool true], ?_, ⟨0, 0, true, .inl ⟨rfl, rfl, rfl, fun i hi => hg ⟨i, hi⟩ (List.mem_finRange _)⟩, rfl⟩, hB3.trans (belowK_b (w := w) (Nat.le_refl _) _ D _ _ (by omega) hK' rfl rfl)⟩
    simp [results, Tryd.results62, go_sem, g0, g1, g2]
  case stop =>
    rintro D c pre W hD ⟨k, hk, hpre⟩ ⟨rfl, p0, i, ⟨rfl, hg, hbad⟩, c0, c1, hB⟩ hK
    obtain ⟨h1, h2, h3⟩ := firstK_last hk hpre
    gi_wp2
    refine ⟨by simp, .inl ⟨_, _, rfl, run_takeDeferred hK, ?_⟩⟩
    have g0 := (c0.of (World.putObj_heap_other (o := .deferred none) (show w.heap.size ≠ D by omega))).cell 0
    have g1 := (c0.of (World.putObj_heap_other (o := .deferred none) (show w.heap.size ≠ D by omega))).cell 1
    have g2 := (c1.of (World.putObj_heap_other (o := .deferred none) (show w.heap.size + 1 ≠ D by omega))).cell 0
    simp at g0 g1 g2
    refine ⟨.tuple #[.agg #[.int .i64 (bAt s i.val : Int), .int .i64 (p0.length : Int)], .bool false], ?_, ⟨_, _, false, .inr ⟨rfl, i.val, i.isLt, rfl, by rw [h1], hbad, fun j hj => hg ⟨j, by omega⟩ ?_⟩, rfl⟩, hB.trans (belowK_b (w := w) (Nat.le_refl _) W D _ _ (by omega) hK rfl rfl)⟩
    · simp [results, Tryd.results62, go_sem, g0, g1, g2]
    · exact mem_pre h3 _ (by rw [← h1]; exact hj)
end Go.Proofs.YtkenffbonnbflaaDoor
