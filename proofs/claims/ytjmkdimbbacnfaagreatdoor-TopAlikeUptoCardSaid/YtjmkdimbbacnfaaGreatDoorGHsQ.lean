/- label.first where nothing is found. label.rules: the rules that ask of one thing. label.rules: the rules that ask the Book. A region that draws its order, inside a round of a range over a function: one walk of the text's order serves every order. -/
import Derived.Test.YtjmkdimbbacnfaaGreatDoorGHsD
import Derived.Sort.BigQuietIn
namespace Go.Proofs.YtjmkdimbbacnfaaGreatDoor
section
open Go.RowKit Go.Shelf
set_option linter.unusedVariables false
attribute [local go_sem] Oper.semAt_some
/-- a predicate that holds of no spot of a text -/
def NoneOf (w : World) (s : ByteArray) (f : FuncId) (cap : Array Value) : Prop :=
  ∀ k, k < nS s → ∀ X, Below w.heap.size w X → Calls Tryz.prog f (#[utfV (spA s k).r (spA s k).n (spA s k).bad] ++ cap) X fun e Y => e = .returned (.bool false) ∧ Below X.heap.size X Y
def FirI (s : ByteArray) (w : World) (f : FuncId) (cap : Array Value) (pre : List (Fin (nS s))) (W : World) : Prop :=
  Blk W w.heap.size 150 #[.func (.func f) #[] cap] ∧ Blk W (w.heap.size + 1) 82 #[.int .i64 0, .int .i64 0] ∧ Blk W (w.heap.size + 1 + 1) 4 #[.bool false] ∧ Blk W (w.heap.size + 1 + 1 + 1) 3 #[.int .i64 (pre.length : Int)] ∧ Below w.heap.size w W
set_option maxRecDepth 100000 in
set_option maxHeartbeats 4000000 in
theorem first_bad (s : ByteArray) (w : World) (hs : s.size ≤ 1000000) (hF : NoneOf w s 166 #[]) :
    Calls Tryz.prog 95 #[.string s, .func (.func 166) #[] #[]] w fun e w' => e = .returned (.tuple #[.agg #[.int .i64 0, .int .i64 0], .bool false]) ∧ Below w.heap.size w w' := by
  have hns := nS_le s
  have HF := Lib.hid hF
  clear hF
  refine calls_of_marks 6 Tryz.func95 rfl ?_
  simp only [Tryz.ntmps95, List.size_toArray, List.length_cons, List.length_nil, Nat.reduceAdd, Nat.reduceSub, Array.replicate_succ, Array.replicate_zero, List.push_toArray, List.append_toArray, List.nil_append, List.cons_append]
  gi_wp2_with (refine ⟨trivial, ?_⟩; gi_at_call 106; refine (callsIn_wide.2 (Spots_val s _)).mono ?_; rintro e w' ⟨rfl, rfl⟩)
  obtain ⟨W0, hW0⟩ : ∃ W0, (((((w.alloc (.cells #[.func (.func 166) #[] #[]] 150)).alloc (.cells #[.int .i64 0, .int .i64 0] 82)).alloc (.cells #[.bool false] 4)).alloc (.cells #[.int .i64 0] 3)).alloc (.cells #[.string s] 9)) = W0 := ⟨_, rfl⟩
  have b0 : Blk W0 w.heap.size 150 #[.func (.func 166) #[] #[]] := by rw [← hW0]; exact ((((Blk.new w _ _).alloc _).alloc _).alloc _).alloc _
  have b1 : Blk W0 (w.heap.size + 1) 82 #[.int .i64 0, .int .i64 0] := by
    rw [← hW0]; have h := (((Blk.new (w.alloc (.cells #[.func (.func 166) #[] #[]] 150)) 82 #[.int .i64 0, .int .i64 0]).alloc (.cells #[.bool false] 4)).alloc (.cells #[.int .i64 0] 3)).alloc (.cells #[.string s] 9); simp only [World.size_alloc] at h; exact h
  have b2 : Blk W0 (w.heap.size + 1 + 1) 4 #[.bool false] := by
    rw [← hW0]; have h := ((Blk.new ((w.alloc (.cells #[.func (.func 166) #[] #[]] 150)).alloc (.cells #[.int .i64 0, .int .i64 0] 82)) 4 #[.bool false]).alloc (.cells #[.int .i64 0] 3)).alloc (.cells #[.string s] 9); simp only [World.size_alloc] at h; exact h
  have b3 : Blk W0 (w.heap.size + 1 + 1 + 1) 3 #[.int .i64 0] := by
    rw [← hW0]; have h := (Blk.new (((w.alloc (.cells #[.func (.func 166) #[] #[]] 150)).alloc (.cells #[.int .i64 0, .int .i64 0] 82)).alloc (.cells #[.bool false] 4)) 3 #[.int .i64 0]).alloc (.cells #[.string s] 9); simp only [World.size_alloc] at h; exact h
  have b4 : Blk W0 (w.heap.size + 1 + 1 + 1 + 1) 9 #[.string s] := by
    rw [← hW0]; have h := Blk.new ((((w.alloc (.cells #[.func (.func 166) #[] #[]] 150)).alloc (.cells #[.int .i64 0, .int .i64 0] 82)).alloc (.cells #[.bool false] 4)).alloc (.cells #[.int .i64 0] 3)) 9 #[.string s]; simp only [World.size_alloc] at h; exact h
  have hB0 : Below w.heap.size w W0 := by
    rw [← hW0]; exact (((((Below.refl _ w).alloc (Nat.le_refl _) _).alloc (by simp) _).alloc (by simp; omega) _).alloc (by simp; omega) _).alloc (by simp; omega) _
  have hsz : W0.heap.size = w.heap.size + 5 := by rw [← hW0]; simp
  rw [hW0]
  clear hW0
  refine wpIn_rangeFunc_ownM rfl (by omega) (gf := 147) (lb := #[.pointer (some ⟨w.heap.size + 1 + 1 + 1 + 1, 0, none⟩)]) rfl trivial (enters_of Tryz.func147 (by kernel_rfl) rfl)
    (z := w.heap.size) (A := fun k => k = w.heap.size + 1 + 1 + 1) (by omega) (fun k hk => by omega)
    (spots_B s w.heap.size (w.heap.size + 1 + 1 + 1 + 1) (fun k => k = w.heap.size + 1 + 1 + 1) (by show ¬ _ = _; omega) W0 (fun k hk => by omega) b4 (6 - 1) (by omega)) (Below.refl _ _) (fun _ => rfl)
    (FirI s w 166 #[]) (fun c pre X => False)
    (fun pre X Y h hb => ⟨h.1.of (hb.below.block _ (by omega)), h.2.1.of (hb.below.block _ (by omega)), h.2.2.1.of (hb.below.block _ (by omega)), h.2.2.2.1.of (hb.below.block _ (by omega)), h.2.2.2.2.trans (hb.below.mono (by omega))⟩) (fun c pre X Y h hb => h.elim) ⟨b0, b1, b2, b3, hB0⟩
    (fun x a' X => ∃ Bx, w.heap.size + 5 ≤ Bx ∧ Blk X Bx 149 #[.int .i32 ((spA s x.val).r : Int), .int .i64 ((spA s x.val).n : Int), .bool (spA s x.val).bad] ∧ a' = { tmps := #[.string s, .func (.func 166) #[] #[], undef, .pointer (some ⟨w.heap.size, 0, none⟩), .pointer (some ⟨w.heap.size + 1, 0, none⟩), .pointer (some ⟨w.heap.size + 1 + 1, 0, none⟩), .pointer (some ⟨w.heap.size + 1 + 1 + 1, 0, none⟩), .int .i64 (bAt s x.val : Int), .pointer (some ⟨Bx, 0, none⟩), .string s, .func (.func 147) #[] #[.pointer (some ⟨w.heap.size + 1 + 1 + 1 + 1, 0, none⟩)], .int .i64 (bAt s x.val : Int), .agg #[.int .i32 ((spA s x.val).r : Int), .int .i64 ((spA s x.val).n : Int), .bool (spA s x.val).bad], undef, undef, undef, undef, undef, undef, undef, undef, undef], defers := [] })
    (fun x a' _ X Y row hs hg hr => by obtain ⟨Bx, h1, h2, h3⟩ := hs; exact ⟨Bx, h1, blk_own h2 hg hr, h3⟩)
    ?assign ?body ?done ?stop
  case assign =>
    rintro l2 pre x X K ⟨c0, c1, c2, c3, hB⟩ hM hz9 hK9
    gi_wp2
    exact hK9 _ _ (Only.alloc X _ (by omega)) ⟨c0.alloc _, c1.alloc _, c2.alloc _, c3.alloc _, hB.alloc (by omega) _⟩ ⟨X.heap.size, by omega, Blk.new X _ _, rfl⟩
  case body =>
    rintro l2 pre x a' X hl2 - ⟨c0, c1, c2, c3, hB⟩ ⟨Bx, hBx, bX, rfl⟩ hsp hlt
    have d0 := c0.cell 0
    have x0 := bX.cell 0
    have x1 := bX.cell 1
    have x2 := bX.cell 2
    simp only [List.getElem?_toArray, List.getElem?_cons_succ, List.getElem?_cons_zero] at d0 x0 x1 x2
    have HC := Lib.hid (HF.out x.val x.isLt X hB)
    have hXl := c3.lt
    clear hsp
    gi_wp2
    refine ⟨trivial, (CallsIn.inRound l2 (callsIn_wide.2 HC.out)).mono ?_⟩
    rintro e Y ⟨rfl, hb⟩
    have c0' := c0.below hb
    have c1' := c1.below hb
    have c2' := c2.below hb
    have c3' := c3.below hb
    have hB' := hB.trans (hb.mono hB.size)
    have HO : Hid (Only w.heap.size (fun k => k = w.heap.size + 1 + 1 + 1) X Y) := Lib.hid (Only.new hb hB.size)
    have d3 := c3'.cell 0
    have f3 := c3'.frozen 0
    simp only [List.getElem?_toArray, List.getElem?_cons_zero] at d3
    clear d0 x0 x1 x2 HC hb
    gi_wp2
    refine ⟨HO.out.trans (Only.setCell _ _ _ _ (by omega) rfl), c0'.of (Below.heap_setCell _ _ _ _ (by simp; omega)), c1'.of (Below.heap_setCell _ _ _ _ (by simp)), c2'.of (Below.heap_setCell _ _ _ _ (by simp)), ?_, hB'.setCell (by show w.heap.size ≤ w.heap.size + 1 + 1 + 1; omega) _⟩
    rw [show ((pre ++ [x]).length : Int) = (pre.length : Int) + 1 by simp]
    exact c3'.set_ 0 _
  case done =>
    rintro D ys V hD hys9 ⟨c0, c1, c2, c3, hB⟩ hK
    have d0 := c1.cell 0
    have d1 := c1.cell 1
    have f0 := c1.frozen 0
    have f1 := c1.frozen 1
    have db := c2.cell 0
    have fb := c2.frozen 0
    simp only [List.getElem?_toArray, List.getElem?_cons_succ, List.getElem?_cons_zero] at d0 d1 db
    gi_wp2
    have e0 := ((c1.set_ 0 (.int .i64 0)).set_ 1 (.int .i64 0)).of (Below.heap_setCell _ ⟨w.heap.size + 1 + 1, 0, none⟩ (.bool false) (w.heap.size + 1) (by simp))
    have e1 := ((c2.of (Below.heap_setCell V ⟨w.heap.size + 1, 0, none⟩ (.int .i64 0) (w.heap.size + 1 + 1) (by simp))).of (Below.heap_setCell _ ⟨w.heap.size + 1, 1, none⟩ (.int .i64 0) (w.heap.size + 1 + 1) (by simp))).set_ 0 (.bool false)
    have hK' := (Below.heap_setCell _ ⟨w.heap.size + 1 + 1, 0, none⟩ (.bool false) D (by simp; omega)).trans ((Below.heap_setCell _ ⟨w.heap.size + 1, 1, none⟩ (.int .i64 0) D (by simp; omega)).trans ((Below.heap_setCell V ⟨w.heap.size + 1, 0, none⟩ (.int .i64 0) D (by simp; omega)).trans hK))
    have hB3 := ((hB.setCell (p := ⟨w.heap.size + 1, 0, none⟩) (by simp) (.int .i64 0)).setCell (p := ⟨w.heap.size + 1, 1, none⟩) (by simp) (.int .i64 0)).setCell (p := ⟨w.heap.size + 1 + 1, 0, none⟩) (by show w.heap.size ≤ w.heap.size + 1 + 1; omega) (.bool false)
    refine ⟨by simp, .inl ⟨_, _, rfl, run_takeDeferred hK', ?_⟩⟩
    have g0 := (e0.of (World.putObj_heap_other (o := .deferred none) (show w.heap.size + 1 ≠ D by omega))).cell 0
    have g1 := (e0.of (World.putObj_heap_other (o := .deferred none) (show w.heap.size + 1 ≠ D by omega))).cell 1
    have g2 := (e1.of (World.putObj_heap_other (o := .deferred none) (show w.heap.size + 1 + 1 ≠ D by omega))).cell 0
    simp at g0 g1 g2
    refine ⟨.tuple #[.agg #[.int .i64 0, .int .i64 0], .bool false], ?_, rfl, hB3.trans ⟨rfl, rfl, rfl, (grownBy_putObj' _ _ _).size, fun k hk => World.putObj_heap_other (by omega)⟩⟩
    simp [results, Tryz.results95, go_sem, g0, g1, g2]
  case stop =>
    rintro D c pre V hD hsp h1 hK9
    exact h1.elim
set_option maxRecDepth 100000 in
set_option maxHeartbeats 4000000 in
theorem first_allow (s : ByteArray) (w : World) (bx : Nat) (hs : s.size ≤ 1000000) (hF : NoneOf w s 169 #[.pointer (some ⟨bx, 0, none⟩)]) :
    Calls Tryz.prog 95 #[.string s, .func (.func 169) #[] #[.pointer (some ⟨bx, 0, none⟩)]] w fun e w' => e = .returned (.tuple #[.agg #[.int .i64 0, .int .i64 0], .bool false]) ∧ Below w.heap.size w w' := by
  have hns := nS_le s
  have HF := Lib.hid hF
  clear hF
  refine calls_of_marks 6 Tryz.func95 rfl ?_
  simp only [Tryz.ntmps95, List.size_toArray, List.length_cons, List.length_nil, Nat.reduceAdd, Nat.reduceSub, Array.replicate_succ, Array.replicate_zero, List.push_toArray, List.append_toArray, List.nil_append, List.cons_append]
  gi_wp2_with (refine ⟨trivial, ?_⟩; gi_at_call 106; refine (callsIn_wide.2 (Spots_val s _)).mono ?_; rintro e w' ⟨rfl, rfl⟩)
  obtain ⟨W0, hW0⟩ : ∃ W0, (((((w.alloc (.cells #[.func (.func 169) #[] #[.pointer (some ⟨bx, 0, none⟩)]] 150)).alloc (.cells #[.int .i64 0, .int .i64 0] 82)).alloc (.cells #[.bool false] 4)).alloc (.cells #[.int .i64 0] 3)).alloc (.cells #[.string s] 9)) = W0 := ⟨_, rfl⟩
  have b0 : Blk W0 w.heap.size 150 #[.func (.func 169) #[] #[.pointer (some ⟨bx, 0, none⟩)]] := by rw [← hW0]; exact ((((Blk.new w _ _).alloc _).alloc _).alloc _).alloc _
  have b1 : Blk W0 (w.heap.size + 1) 82 #[.int .i64 0, .int .i64 0] := by
    rw [← hW0]; have h := (((Blk.new (w.alloc (.cells #[.func (.func 169) #[] #[.pointer (some ⟨bx, 0, none⟩)]] 150)) 82 #[.int .i64 0, .int .i64 0]).alloc (.cells #[.bool false] 4)).alloc (.cells #[.int .i64 0] 3)).alloc (.cells #[.string s] 9); simp only [World.size_alloc] at h; exact h
  have b2 : Blk W0 (w.heap.size + 1 + 1) 4 #[.bool false] := by
    rw [← hW0]; have h := ((Blk.new ((w.alloc (.cells #[.func (.func 169) #[] #[.pointer (some ⟨bx, 0, none⟩)]] 150)).alloc (.cells #[.int .i64 0, .int .i64 0] 82)) 4 #[.bool false]).alloc (.cells #[.int .i64 0] 3)).alloc (.cells #[.string s] 9); simp only [World.size_alloc] at h; exact h
  have b3 : Blk W0 (w.heap.size + 1 + 1 + 1) 3 #[.int .i64 0] := by
    rw [← hW0]; have h := (Blk.new (((w.alloc (.cells #[.func (.func 169) #[] #[.pointer (some ⟨bx, 0, none⟩)]] 150)).alloc (.cells #[.int .i64 0, .int .i64 0] 82)).alloc (.cells #[.bool false] 4)) 3 #[.int .i64 0]).alloc (.cells #[.string s] 9); simp only [World.size_alloc] at h; exact h
  have b4 : Blk W0 (w.heap.size + 1 + 1 + 1 + 1) 9 #[.string s] := by
    rw [← hW0]; have h := Blk.new ((((w.alloc (.cells #[.func (.func 169) #[] #[.pointer (some ⟨bx, 0, none⟩)]] 150)).alloc (.cells #[.int .i64 0, .int .i64 0] 82)).alloc (.cells #[.bool false] 4)).alloc (.cells #[.int .i64 0] 3)) 9 #[.string s]; simp only [World.size_alloc] at h; exact h
  have hB0 : Below w.heap.size w W0 := by
    rw [← hW0]; exact (((((Below.refl _ w).alloc (Nat.le_refl _) _).alloc (by simp) _).alloc (by simp; omega) _).alloc (by simp; omega) _).alloc (by simp; omega) _
  have hsz : W0.heap.size = w.heap.size + 5 := by rw [← hW0]; simp
  rw [hW0]
  clear hW0
  refine wpIn_rangeFunc_ownM rfl (by omega) (gf := 147) (lb := #[.pointer (some ⟨w.heap.size + 1 + 1 + 1 + 1, 0, none⟩)]) rfl trivial (enters_of Tryz.func147 (by kernel_rfl) rfl)
    (z := w.heap.size) (A := fun k => k = w.heap.size + 1 + 1 + 1) (by omega) (fun k hk => by omega)
    (spots_B s w.heap.size (w.heap.size + 1 + 1 + 1 + 1) (fun k => k = w.heap.size + 1 + 1 + 1) (by show ¬ _ = _; omega) W0 (fun k hk => by omega) b4 (6 - 1) (by omega)) (Below.refl _ _) (fun _ => rfl)
    (FirI s w 169 #[.pointer (some ⟨bx, 0, none⟩)]) (fun c pre X => False)
    (fun pre X Y h hb => ⟨h.1.of (hb.below.block _ (by omega)), h.2.1.of (hb.below.block _ (by omega)), h.2.2.1.of (hb.below.block _ (by omega)), h.2.2.2.1.of (hb.below.block _ (by omega)), h.2.2.2.2.trans (hb.below.mono (by omega))⟩) (fun c pre X Y h hb => h.elim) ⟨b0, b1, b2, b3, hB0⟩
    (fun x a' X => ∃ Bx, w.heap.size + 5 ≤ Bx ∧ Blk X Bx 149 #[.int .i32 ((spA s x.val).r : Int), .int .i64 ((spA s x.val).n : Int), .bool (spA s x.val).bad] ∧ a' = { tmps := #[.string s, .func (.func 169) #[] #[.pointer (some ⟨bx, 0, none⟩)], undef, .pointer (some ⟨w.heap.size, 0, none⟩), .pointer (some ⟨w.heap.size + 1, 0, none⟩), .pointer (some ⟨w.heap.size + 1 + 1, 0, none⟩), .pointer (some ⟨w.heap.size + 1 + 1 + 1, 0, none⟩), .int .i64 (bAt s x.val : Int), .pointer (some ⟨Bx, 0, none⟩), .string s, .func (.func 147) #[] #[.pointer (some ⟨w.heap.size + 1 + 1 + 1 + 1, 0, none⟩)], .int .i64 (bAt s x.val : Int), .agg #[.int .i32 ((spA s x.val).r : Int), .int .i64 ((spA s x.val).n : Int), .bool (spA s x.val).bad], undef, undef, undef, undef, undef, undef, undef, undef, undef], defers := [] })
    (fun x a' _ X Y row hs hg hr => by obtain ⟨Bx, h1, h2, h3⟩ := hs; exact ⟨Bx, h1, blk_own h2 hg hr, h3⟩)
    ?assign ?body ?done ?stop
  case assign =>
    rintro l2 pre x X K ⟨c0, c1, c2, c3, hB⟩ hM hz9 hK9
    gi_wp2
    exact hK9 _ _ (Only.alloc X _ (by omega)) ⟨c0.alloc _, c1.alloc _, c2.alloc _, c3.alloc _, hB.alloc (by omega) _⟩ ⟨X.heap.size, by omega, Blk.new X _ _, rfl⟩
  case body =>
    rintro l2 pre x a' X hl2 - ⟨c0, c1, c2, c3, hB⟩ ⟨Bx, hBx, bX, rfl⟩ hsp hlt
    have d0 := c0.cell 0
    have x0 := bX.cell 0
    have x1 := bX.cell 1
    have x2 := bX.cell 2
    simp only [List.getElem?_toArray, List.getElem?_cons_succ, List.getElem?_cons_zero] at d0 x0 x1 x2
    have HC := Lib.hid (HF.out x.val x.isLt X hB)
    have hXl := c3.lt
    clear hsp
    gi_wp2
    refine ⟨trivial, (CallsIn.inRound l2 (callsIn_wide.2 HC.out)).mono ?_⟩
    rintro e Y ⟨rfl, hb⟩
    have c0' := c0.below hb
    have c1' := c1.below hb
    have c2' := c2.below hb
    have c3' := c3.below hb
    have hB' := hB.trans (hb.mono hB.size)
    have HO : Hid (Only w.heap.size (fun k => k = w.heap.size + 1 + 1 + 1) X Y) := Lib.hid (Only.new hb hB.size)
    have d3 := c3'.cell 0
    have f3 := c3'.frozen 0
    simp only [List.getElem?_toArray, List.getElem?_cons_zero] at d3
    clear d0 x0 x1 x2 HC hb
    gi_wp2
    refine ⟨HO.out.trans (Only.setCell _ _ _ _ (by omega) rfl), c0'.of (Below.heap_setCell _ _ _ _ (by simp; omega)), c1'.of (Below.heap_setCell _ _ _ _ (by simp)), c2'.of (Below.heap_setCell _ _ _ _ (by simp)), ?_, hB'.setCell (by show w.heap.size ≤ w.heap.size + 1 + 1 + 1; omega) _⟩
    rw [show ((pre ++ [x]).length : Int) = (pre.length : Int) + 1 by simp]
    exact c3'.set_ 0 _
  case done =>
    rintro D ys V hD hys9 ⟨c0, c1, c2, c3, hB⟩ hK
    have d0 := c1.cell 0
    have d1 := c1.cell 1
    have f0 := c1.frozen 0
    have f1 := c1.frozen 1
    have db := c2.cell 0
    have fb := c2.frozen 0
    simp only [List.getElem?_toArray, List.getElem?_cons_succ, List.getElem?_cons_zero] at d0 d1 db
    gi_wp2
    have e0 := ((c1.set_ 0 (.int .i64 0)).set_ 1 (.int .i64 0)).of (Below.heap_setCell _ ⟨w.heap.size + 1 + 1, 0, none⟩ (.bool false) (w.heap.size + 1) (by simp))
    have e1 := ((c2.of (Below.heap_setCell V ⟨w.heap.size + 1, 0, none⟩ (.int .i64 0) (w.heap.size + 1 + 1) (by simp))).of (Below.heap_setCell _ ⟨w.heap.size + 1, 1, none⟩ (.int .i64 0) (w.heap.size + 1 + 1) (by simp))).set_ 0 (.bool false)
    have hK' := (Below.heap_setCell _ ⟨w.heap.size + 1 + 1, 0, none⟩ (.bool false) D (by simp; omega)).trans ((Below.heap_setCell _ ⟨w.heap.size + 1, 1, none⟩ (.int .i64 0) D (by simp; omega)).trans ((Below.heap_setCell V ⟨w.heap.size + 1, 0, none⟩ (.int .i64 0) D (by simp; omega)).trans hK))
    have hB3 := ((hB.setCell (p := ⟨w.heap.size + 1, 0, none⟩) (by simp) (.int .i64 0)).setCell (p := ⟨w.heap.size + 1, 1, none⟩) (by simp) (.int .i64 0)).setCell (p := ⟨w.heap.size + 1 + 1, 0, none⟩) (by show w.heap.size ≤ w.heap.size + 1 + 1; omega) (.bool false)
    refine ⟨by simp, .inl ⟨_, _, rfl, run_takeDeferred hK', ?_⟩⟩
    have g0 := (e0.of (World.putObj_heap_other (o := .deferred none) (show w.heap.size + 1 ≠ D by omega))).cell 0
    have g1 := (e0.of (World.putObj_heap_other (o := .deferred none) (show w.heap.size + 1 ≠ D by omega))).cell 1
    have g2 := (e1.of (World.putObj_heap_other (o := .deferred none) (show w.heap.size + 1 + 1 ≠ D by omega))).cell 0
    simp at g0 g1 g2
    refine ⟨.tuple #[.agg #[.int .i64 0, .int .i64 0], .bool false], ?_, rfl, hB3.trans ⟨rfl, rfl, rfl, (grownBy_putObj' _ _ _).size, fun k hk => World.putObj_heap_other (by omega)⟩⟩
    simp [results, Tryz.results95, go_sem, g0, g1, g2]
  case stop =>
    rintro D c pre V hD hsp h1 hK9
    exact h1.elim
set_option maxRecDepth 100000 in
set_option maxHeartbeats 4000000 in
theorem first_plain (s : ByteArray) (w : World) (hs : s.size ≤ 1000000) (hF : NoneOf w s 96 #[]) :
    Calls Tryz.prog 95 #[.string s, .func (.func 96) #[] #[]] w fun e w' => e = .returned (.tuple #[.agg #[.int .i64 0, .int .i64 0], .bool false]) ∧ Below w.heap.size w w' := by
  have hns := nS_le s
  have HF := Lib.hid hF
  clear hF
  refine calls_of_marks 6 Tryz.func95 rfl ?_
  simp only [Tryz.ntmps95, List.size_toArray, List.length_cons, List.length_nil, Nat.reduceAdd, Nat.reduceSub, Array.replicate_succ, Array.replicate_zero, List.push_toArray, List.append_toArray, List.nil_append, List.cons_append]
  gi_wp2_with (refine ⟨trivial, ?_⟩; gi_at_call 106; refine (callsIn_wide.2 (Spots_val s _)).mono ?_; rintro e w' ⟨rfl, rfl⟩)
  obtain ⟨W0, hW0⟩ : ∃ W0, (((((w.alloc (.cells #[.func (.func 96) #[] #[]] 150)).alloc (.cells #[.int .i64 0, .int .i64 0] 82)).alloc (.cells #[.bool false] 4)).alloc (.cells #[.int .i64 0] 3)).alloc (.cells #[.string s] 9)) = W0 := ⟨_, rfl⟩
  have b0 : Blk W0 w.heap.size 150 #[.func (.func 96) #[] #[]] := by rw [← hW0]; exact ((((Blk.new w _ _).alloc _).alloc _).alloc _).alloc _
  have b1 : Blk W0 (w.heap.size + 1) 82 #[.int .i64 0, .int .i64 0] := by
    rw [← hW0]; have h := (((Blk.new (w.alloc (.cells #[.func (.func 96) #[] #[]] 150)) 82 #[.int .i64 0, .int .i64 0]).alloc (.cells #[.bool false] 4)).alloc (.cells #[.int .i64 0] 3)).alloc (.cells #[.string s] 9); simp only [World.size_alloc] at h; exact h
  have b2 : Blk W0 (w.heap.size + 1 + 1) 4 #[.bool false] := by
    rw [← hW0]; have h := ((Blk.new ((w.alloc (.cells #[.func (.func 96) #[] #[]] 150)).alloc (.cells #[.int .i64 0, .int .i64 0] 82)) 4 #[.bool false]).alloc (.cells #[.int .i64 0] 3)).alloc (.cells #[.string s] 9); simp only [World.size_alloc] at h; exact h
  have b3 : Blk W0 (w.heap.size + 1 + 1 + 1) 3 #[.int .i64 0] := by
    rw [← hW0]; have h := (Blk.new (((w.alloc (.cells #[.func (.func 96) #[] #[]] 150)).alloc (.cells #[.int .i64 0, .int .i64 0] 82)).alloc (.cells #[.bool false] 4)) 3 #[.int .i64 0]).alloc (.cells #[.string s] 9); simp only [World.size_alloc] at h; exact h
  have b4 : Blk W0 (w.heap.size + 1 + 1 + 1 + 1) 9 #[.string s] := by
    rw [← hW0]; have h := Blk.new ((((w.alloc (.cells #[.func (.func 96) #[] #[]] 150)).alloc (.cells #[.int .i64 0, .int .i64 0] 82)).alloc (.cells #[.bool false] 4)).alloc (.cells #[.int .i64 0] 3)) 9 #[.string s]; simp only [World.size_alloc] at h; exact h
  have hB0 : Below w.heap.size w W0 := by
    rw [← hW0]; exact (((((Below.refl _ w).alloc (Nat.le_refl _) _).alloc (by simp) _).alloc (by simp; omega) _).alloc (by simp; omega) _).alloc (by simp; omega) _
  have hsz : W0.heap.size = w.heap.size + 5 := by rw [← hW0]; simp
  rw [hW0]
  clear hW0
  refine wpIn_rangeFunc_ownM rfl (by omega) (gf := 147) (lb := #[.pointer (some ⟨w.heap.size + 1 + 1 + 1 + 1, 0, none⟩)]) rfl trivial (enters_of Tryz.func147 (by kernel_rfl) rfl)
    (z := w.heap.size) (A := fun k => k = w.heap.size + 1 + 1 + 1) (by omega) (fun k hk => by omega)
    (spots_B s w.heap.size (w.heap.size + 1 + 1 + 1 + 1) (fun k => k = w.heap.size + 1 + 1 + 1) (by show ¬ _ = _; omega) W0 (fun k hk => by omega) b4 (6 - 1) (by omega)) (Below.refl _ _) (fun _ => rfl)
    (FirI s w 96 #[]) (fun c pre X => False)
    (fun pre X Y h hb => ⟨h.1.of (hb.below.block _ (by omega)), h.2.1.of (hb.below.block _ (by omega)), h.2.2.1.of (hb.below.block _ (by omega)), h.2.2.2.1.of (hb.below.block _ (by omega)), h.2.2.2.2.trans (hb.below.mono (by omega))⟩) (fun c pre X Y h hb => h.elim) ⟨b0, b1, b2, b3, hB0⟩
    (fun x a' X => ∃ Bx, w.heap.size + 5 ≤ Bx ∧ Blk X Bx 149 #[.int .i32 ((spA s x.val).r : Int), .int .i64 ((spA s x.val).n : Int), .bool (spA s x.val).bad] ∧ a' = { tmps := #[.string s, .func (.func 96) #[] #[], undef, .pointer (some ⟨w.heap.size, 0, none⟩), .pointer (some ⟨w.heap.size + 1, 0, none⟩), .pointer (some ⟨w.heap.size + 1 + 1, 0, none⟩), .pointer (some ⟨w.heap.size + 1 + 1 + 1, 0, none⟩), .int .i64 (bAt s x.val : Int), .pointer (some ⟨Bx, 0, none⟩), .string s, .func (.func 147) #[] #[.pointer (some ⟨w.heap.size + 1 + 1 + 1 + 1, 0, none⟩)], .int .i64 (bAt s x.val : Int), .agg #[.int .i32 ((spA s x.val).r : Int), .int .i64 ((spA s x.val).n : Int), .bool (spA s x.val).bad], undef, undef, undef, undef, undef, undef, undef, undef, undef], defers := [] })
    (fun x a' _ X Y row hs hg hr => by obtain ⟨Bx, h1, h2, h3⟩ := hs; exact ⟨Bx, h1, blk_own h2 hg hr, h3⟩)
    ?assign ?body ?done ?stop
  case assign =>
    rintro l2 pre x X K ⟨c0, c1, c2, c3, hB⟩ hM hz9 hK9
    gi_wp2
    exact hK9 _ _ (Only.alloc X _ (by omega)) ⟨c0.alloc _, c1.alloc _, c2.alloc _, c3.alloc _, hB.alloc (by omega) _⟩ ⟨X.heap.size, by omega, Blk.new X _ _, rfl⟩
  case body =>
    rintro l2 pre x a' X hl2 - ⟨c0, c1, c2, c3, hB⟩ ⟨Bx, hBx, bX, rfl⟩ hsp hlt
    have d0 := c0.cell 0
    have x0 := bX.cell 0
    have x1 := bX.cell 1
    have x2 := bX.cell 2
    simp only [List.getElem?_toArray, List.getElem?_cons_succ, List.getElem?_cons_zero] at d0 x0 x1 x2
    have HC := Lib.hid (HF.out x.val x.isLt X hB)
    have hXl := c3.lt
    clear hsp
    gi_wp2
    refine ⟨trivial, (CallsIn.inRound l2 (callsIn_wide.2 HC.out)).mono ?_⟩
    rintro e Y ⟨rfl, hb⟩
    have c0' := c0.below hb
    have c1' := c1.below hb
    have c2' := c2.below hb
    have c3' := c3.below hb
    have hB' := hB.trans (hb.mono hB.size)
    have HO : Hid (Only w.heap.size (fun k => k = w.heap.size + 1 + 1 + 1) X Y) := Lib.hid (Only.new hb hB.size)
    have d3 := c3'.cell 0
    have f3 := c3'.frozen 0
    simp only [List.getElem?_toArray, List.getElem?_cons_zero] at d3
    clear d0 x0 x1 x2 HC hb
    gi_wp2
    refine ⟨HO.out.trans (Only.setCell _ _ _ _ (by omega) rfl), c0'.of (Below.heap_setCell _ _ _ _ (by simp; omega)), c1'.of (Below.heap_setCell _ _ _ _ (by simp)), c2'.of (Below.heap_setCell _ _ _ _ (by simp)), ?_, hB'.setCell (by show w.heap.size ≤ w.heap.size + 1 + 1 + 1; omega) _⟩
    rw [show ((pre ++ [x]).length : Int) = (pre.length : Int) + 1 by simp]
    exact c3'.set_ 0 _
  case done =>
    rintro D ys V hD hys9 ⟨c0, c1, c2, c3, hB⟩ hK
    have d0 := c1.cell 0
    have d1 := c1.cell 1
    have f0 := c1.frozen 0
    have f1 := c1.frozen 1
    have db := c2.cell 0
    have fb := c2.frozen 0
    simp only [List.getElem?_toArray, List.getElem?_cons_succ, List.getElem?_cons_zero] at d0 d1 db
    gi_wp2
    have e0 := ((c1.set_ 0 (.int .i64 0)).set_ 1 (.int .i64 0)).of (Below.heap_setCell _ ⟨w.heap.size + 1 + 1, 0, none⟩ (.bool false) (w.heap.size + 1) (by simp))
    have e1 := ((c2.of (Below.heap_setCell V ⟨w.heap.size + 1, 0, none⟩ (.int .i64 0) (w.heap.size + 1 + 1) (by simp))).of (Below.heap_setCell _ ⟨w.heap.size + 1, 1, none⟩ (.int .i64 0) (w.heap.size + 1 + 1) (by simp))).set_ 0 (.bool false)
    have hK' := (Below.heap_setCell _ ⟨w.heap.size + 1 + 1, 0, none⟩ (.bool false) D (by simp; omega)).trans ((Below.heap_setCell _ ⟨w.heap.size + 1, 1, none⟩ (.int .i64 0) D (by simp; omega)).trans ((Below.heap_setCell V ⟨w.heap.size + 1, 0, none⟩ (.int .i64 0) D (by simp; omega)).trans hK))
    have hB3 := ((hB.setCell (p := ⟨w.heap.size + 1, 0, none⟩) (by simp) (.int .i64 0)).setCell (p := ⟨w.heap.size + 1, 1, none⟩) (by simp) (.int .i64 0)).setCell (p := ⟨w.heap.size + 1 + 1, 0, none⟩) (by show w.heap.size ≤ w.heap.size + 1 + 1; omega) (.bool false)
    refine ⟨by simp, .inl ⟨_, _, rfl, run_takeDeferred hK', ?_⟩⟩
    have g0 := (e0.of (World.putObj_heap_other (o := .deferred none) (show w.heap.size + 1 ≠ D by omega))).cell 0
    have g1 := (e0.of (World.putObj_heap_other (o := .deferred none) (show w.heap.size + 1 ≠ D by omega))).cell 1
    have g2 := (e1.of (World.putObj_heap_other (o := .deferred none) (show w.heap.size + 1 + 1 ≠ D by omega))).cell 0
    simp at g0 g1 g2
    refine ⟨.tuple #[.agg #[.int .i64 0, .int .i64 0], .bool false], ?_, rfl, hB3.trans ⟨rfl, rfl, rfl, (grownBy_putObj' _ _ _).size, fun k hk => World.putObj_heap_other (by omega)⟩⟩
    simp [results, Tryz.results95, go_sem, g0, g1, g2]
  case stop =>
    rintro D c pre V hD hsp h1 hK9
    exact h1.elim

end
section
open Go.RowKit Go.Shelf
set_option linter.unusedVariables false
/-- the two labels of the closed name -/
def GoodL (s : ByteArray) : Prop := s = ⟨#[195, 169, 97]⟩ ∨ s = ⟨#[98]⟩
theorem good_size {s : ByteArray} (h : GoodL s) : s.size ≤ 3 := by rcases h with rfl | rfl <;> decide
/-- a rule that lets a text by -/
def Lets (f : FuncId) (b : Nat) (s : ByteArray) (w : World) : Prop :=
  Calls Tryz.prog f #[.pointer (some ⟨b, 0, none⟩), .string s] w fun e w' => e = .returned (.tuple #[.agg #[.int .i64 0, .int .i64 0], .bool false]) ∧ Below w.heap.size w w'
set_option maxHeartbeats 2000000 in
theorem rule_1 {w : World} {b : Nat} {s : ByteArray} (h : GoodL s) : Lets 163 b s w := by
  unfold Lets
  have hs := good_size h
  have t1 : decide ((65536 : Int) < (s.size : Int)) = false := decide_eq_false (by omega)
  clear h
  go_enter Tryz.func163, Tryz.ntmps163
  go_wp2_with fail
  refine bodyPost_ret (v := .tuple #[.agg #[.int .i64 0, .int .i64 0], .bool false]) (by simp [results, Tryz.results163, go_sem]) rfl ⟨rfl, ?_⟩
  exact (Below.refl _ w).alloc (Nat.le_refl _) _
set_option maxHeartbeats 2000000 in
theorem rule_2 {w : World} {b : Nat} {s : ByteArray} (h : GoodL s) : Lets 164 b s w := by
  unfold Lets
  rcases h with rfl | rfl
  all_goals
    go_enter Tryz.func164, Tryz.ntmps164
    go_wp2_with fail
    refine bodyPost_ret (v := .tuple #[.agg #[.int .i64 0, .int .i64 0], .bool false]) (by simp [results, Tryz.results164, go_sem]) rfl ⟨rfl, ?_⟩
    exact (Below.refl _ w).alloc (Nat.le_refl _) _
theorem spot_facts {s : ByteArray} (h : GoodL s) : ∀ k, k < nS s → (spA s k).bad = false ∧ (spA s k).r < 1114112 ∧ ofL ((spA s k).r : Int) houseT.allowed = true := by
  rcases h with rfl | rfl
  · decide +kernel
  · decide +kernel
theorem plain_facts : ∀ k, k < nS ⟨#[98]⟩ → (spA ⟨#[98]⟩ k).r < 128 := by decide +kernel
set_option maxHeartbeats 2000000 in
theorem pred_bad (w : World) (s : ByteArray) (h : ∀ k, k < nS s → (spA s k).bad = false) : NoneOf w s 166 #[] := fun k hk X hX => by
  have hb := h k hk
  rw [hb]
  unfold utfV
  clear h hb
  go_enter Tryz.func166, Tryz.ntmps166
  go_wp2_with fail
  go_ret
  exact ⟨rfl, (Below.refl _ X).alloc (Nat.le_refl _) _⟩
set_option maxHeartbeats 2000000 in
theorem pred_plain (w : World) (s : ByteArray) (h : ∀ k, k < nS s → (spA s k).r < 128) : NoneOf w s 96 #[] := fun k hk X hX => by
  have hb := h k hk
  have t1 : decide ((128 : Int) ≤ ((spA s k).r : Int)) = false := decide_eq_false (by omega)
  unfold utfV
  clear h hb
  go_enter Tryz.func96, Tryz.ntmps96
  go_wp2_with fail
  go_ret
  exact ⟨rfl, (Below.refl _ X).alloc (Nat.le_refl _) _⟩
theorem bk_Allowed {w : World} {b : Nat} {T : Tab} (h : Bk w b T) (hI : InOrder T.allowed) (r : Int) {x : Bool} (hx : ofL r T.allowed = x) :
    Calls Tryz.prog 170 #[.pointer (some ⟨b, 0, none⟩), .int .i32 r] w fun e w' => e = .returned (.bool x) ∧ Below w.heap.size w w' := by
  obtain ⟨m1, m2, m3, m4, m5, u0, u1, u2, u3, u4, u5, u6, u7, -, -, -, -, -, -, ht, hM⟩ := h
  subst hx
  have HO := Lib.hid (tab_of T.allowed ht.allowed hI r)
  have c7 : w.cell? ⟨b, 7, none⟩ = some u7 := hM.book.cell 7
  clear ht hM hI
  go_enter Tryz.func170, Tryz.ntmps170
  go_wp2_with (go_at_call 60; refine HO.out.mono ?_; rintro e w2 ⟨rfl, hb2⟩)
  go_ret
  exact ⟨rfl, hb2⟩
theorem bk_Common {w : World} {b : Nat} {T : Tab} (h : Bk w b T) (hI : InOrder T.common) (r : Int) {x : Bool} (hx : ofL r T.common = x) :
    Calls Tryz.prog 214 #[.pointer (some ⟨b, 0, none⟩), .int .i32 r] w fun e w' => e = .returned (.bool x) ∧ Below w.heap.size w w' := by
  obtain ⟨m1, m2, m3, m4, m5, u0, u1, u2, u3, u4, u5, u6, u7, -, -, -, -, -, -, ht, hM⟩ := h
  subst hx
  have HO := Lib.hid (tab_of T.common ht.common hI r)
  have c1 : w.cell? ⟨b, 1, none⟩ = some u1 := hM.book.cell 1
  clear ht hM hI
  go_enter Tryz.func214, Tryz.ntmps214
  go_wp2_with (go_at_call 60; refine HO.out.mono ?_; rintro e w2 ⟨rfl, hb2⟩)
  go_ret
  exact ⟨rfl, hb2⟩
set_option maxHeartbeats 2000000 in
theorem pred_allow {w : World} {b bx : Nat} {T : Tab} (hK : Bk w b T) (hI : InOrder T.allowed) (hb : Blk w bx 29 #[.pointer (some ⟨b, 0, none⟩)]) (s : ByteArray) (h : ∀ k, k < nS s → ofL ((spA s k).r : Int) T.allowed = true) : NoneOf w s 169 #[.pointer (some ⟨bx, 0, none⟩)] := fun k hk X hX => by
  have c0 := (hb.below hX).cell 0
  simp only [List.getElem?_toArray, List.getElem?_cons_zero] at c0
  have HA := Lib.hid (fun W (hW : Below X.heap.size X W) => bk_Allowed (hK.below (hX.trans (hW.mono hX.size))) hI ((spA s k).r : Int) (h k hk))
  have hbx : bx < X.heap.size := (hb.below hX).lt
  unfold utfV
  clear h hb hK hX
  go_enter Tryz.func169, Tryz.ntmps169
  go_wp2_with (go_at_call 170; refine (HA.out _ ((Below.refl _ X).alloc (Nat.le_refl _) _)).mono ?_; rintro e w' ⟨rfl, h1⟩)
  go_ret
  exact ⟨rfl, ((Below.refl _ X).alloc (Nat.le_refl _) _).trans (h1.mono (by simp))⟩
set_option maxHeartbeats 2000000 in
theorem rule_3 {w : World} {b : Nat} {s : ByteArray} (h : GoodL s) : Lets 165 b s w := by
  unfold Lets
  have hs := good_size h
  have HF := Lib.hid (fun W => first_bad s W (by omega) (pred_bad W s (fun k hk => (spot_facts h k hk).1)))
  clear h
  go_enter Tryz.func165, Tryz.ntmps165
  go_wp2_with (go_at_call 95; refine (HF.out _).mono ?_; rintro e w' ⟨rfl, h1⟩; have k1 := (Blk.new w _ _).below h1; have c0 := k1.cell 0; have c1 := k1.cell 1; have f0 := k1.frozen 0; have f1 := k1.frozen 1; simp only [List.getElem?_toArray, List.getElem?_cons_succ, List.getElem?_cons_zero] at c0 c1)
  have e0 := (k1.set_ 0 (.int .i64 0)).set_ 1 (.int .i64 0)
  have g0 := e0.cell 0
  have g1 := e0.cell 1
  simp at g0 g1
  refine bodyPost_ret (v := .tuple #[.agg #[.int .i64 0, .int .i64 0], .bool false]) (by simp [results, Tryz.results165, go_sem, g0, g1]) rfl ⟨rfl, ?_⟩
  exact ((((Below.refl _ w).alloc (Nat.le_refl _) _).trans (h1.mono (by simp))).setCell (p := ⟨w.heap.size, 0, none⟩) (Nat.le_refl _) _).setCell (p := ⟨w.heap.size, 1, none⟩) (Nat.le_refl _) _
theorem utf_Runes (s : ByteArray) (hs : s.size ≤ 1000000) (w : World) :
    Calls Tryz.prog 174 #[.string s] w fun e w' => ((∃ c, e = .returned (.slice (some ⟨w.heap.size, 0, none⟩) (rn s).length c)) ∧ ∀ j x, (rn s)[j]? = some x → w'.cell? ⟨w.heap.size, j, none⟩ = some (.int .i32 x)) ∧ Below w.heap.size w w' := by
  have hcv := conv_to_runes s w (by omega)
  have hge := grownCap_ge w (rn s).length 0 21
  generalize grownCap w (rn s).length 0 21 = cap at hcv hge
  have hb : Blk (w.alloc (.cells (rowR s cap) 21)).drew w.heap.size 21 (rowR s cap) := heap_alloc_new w _
  have HC : Hid (∀ j x, (rn s)[j]? = some x → (w.alloc (.cells (rowR s cap) 21)).drew.cell? ⟨w.heap.size, j, none⟩ = some (.int .i32 x)) := Lib.hid (fun j x hx => by
    rw [hb.cell]
    obtain ⟨h1, h2⟩ := List.getElem?_eq_some_iff.1 hx
    rw [rowR_get s cap j h1, List.getD_eq_getElem?_getD, hx]
    rfl)
  have HB : Hid (Below w.heap.size w (w.alloc (.cells (rowR s cap) 21)).drew) := Lib.hid (((Below.refl _ w).alloc (Nat.le_refl _) _).drew)
  clear hb
  go_enter Tryz.func174, Tryz.ntmps174
  go_wp2_with fail
  go_ret
  exact ⟨⟨⟨_, rfl⟩, HC.out⟩, HB.out⟩
/-- what a label of the closed name is, rune by rune -/
theorem good_runes {s : ByteArray} (h : GoodL s) : (s = ⟨#[195, 169, 97]⟩ ∧ rn s = [233, 97]) ∨ (s = ⟨#[98]⟩ ∧ rn s = [98]) := by
  rcases h with rfl | rfl
  · exact .inl ⟨rfl, by decide +kernel⟩
  · exact .inr ⟨rfl, by decide +kernel⟩
set_option maxHeartbeats 4000000 in
theorem label_hyphen {w : World} {s : ByteArray} (h : GoodL s) :
    Calls Tryz.prog 172 #[.string s] w fun e w' => e = .returned (.tuple #[.agg #[.int .i64 0, .int .i64 0], .bool false]) ∧ Below w.heap.size w w' := by
  have hs := good_size h
  have HR := Lib.hid (fun W => utf_Runes s (by omega) W)
  rcases good_runes h with ⟨rfl, hr⟩ | ⟨rfl, hr⟩
  · rw [hr] at HR
    clear hr h
    go_enter Tryz.func172, Tryz.ntmps172
    go_wp2_with (go_at_call 174; refine (HR.out _).mono ?_; rintro e w' ⟨⟨⟨c, rfl⟩, hc⟩, h1⟩; have x0 := hc 0 _ rfl; have x1 := hc 1 _ rfl; simp only [World.size_alloc] at x0 x1; have k1 := (Blk.new w _ _).below h1; have c0 := k1.cell 0; have c1 := k1.cell 1; have f0 := k1.frozen 0; have f1 := k1.frozen 1; simp only [List.getElem?_toArray, List.getElem?_cons_succ, List.getElem?_cons_zero] at c0 c1)
    have e0 := (k1.set_ 0 (.int .i64 0)).set_ 1 (.int .i64 0)
    have g0 := e0.cell 0
    have g1 := e0.cell 1
    simp at g0 g1
    refine bodyPost_ret (v := .tuple #[.agg #[.int .i64 0, .int .i64 0], .bool false]) (by simp [results, Tryz.results172, go_sem, g0, g1]) rfl ⟨rfl, ?_⟩
    exact ((((Below.refl _ w).alloc (Nat.le_refl _) _).trans (h1.mono (by simp))).setCell (p := ⟨w.heap.size, 0, none⟩) (Nat.le_refl _) _).setCell (p := ⟨w.heap.size, 1, none⟩) (Nat.le_refl _) _
  · rw [hr] at HR
    clear hr h
    go_enter Tryz.func172, Tryz.ntmps172
    go_wp2_with (go_at_call 174; refine (HR.out _).mono ?_; rintro e w' ⟨⟨⟨c, rfl⟩, hc⟩, h1⟩; have x0 := hc 0 _ rfl; simp only [World.size_alloc] at x0; have k1 := (Blk.new w _ _).below h1; have c0 := k1.cell 0; have c1 := k1.cell 1; have f0 := k1.frozen 0; have f1 := k1.frozen 1; simp only [List.getElem?_toArray, List.getElem?_cons_succ, List.getElem?_cons_zero] at c0 c1)
    have e0 := (k1.set_ 0 (.int .i64 0)).set_ 1 (.int .i64 0)
    have g0 := e0.cell 0
    have g1 := e0.cell 1
    simp at g0 g1
    refine bodyPost_ret (v := .tuple #[.agg #[.int .i64 0, .int .i64 0], .bool false]) (by simp [results, Tryz.results172, go_sem, g0, g1]) rfl ⟨rfl, ?_⟩
    exact ((((Below.refl _ w).alloc (Nat.le_refl _) _).trans (h1.mono (by simp))).setCell (p := ⟨w.heap.size, 0, none⟩) (Nat.le_refl _) _).setCell (p := ⟨w.heap.size, 1, none⟩) (Nat.le_refl _) _

end
section
open Go.RowKit Go.Shelf
set_option linter.unusedVariables false
set_option maxHeartbeats 2000000 in
theorem rule_4 {w : World} {b : Nat} (hK : Bk w b houseT) (hI : InOrder houseT.allowed) {s : ByteArray} (h : GoodL s) : Lets 168 b s w := by
  unfold Lets
  have hs := good_size h
  have HF : Hid (∀ W, Below (w.heap.size + 1) (w.alloc (.cells #[.pointer (some ⟨b, 0, none⟩)] 29)) W → Calls Tryz.prog 95 #[.string s, .func (.func 169) #[] #[.pointer (some ⟨w.heap.size, 0, none⟩)]] W fun e w' => e = .returned (.tuple #[.agg #[.int .i64 0, .int .i64 0], .bool false]) ∧ Below W.heap.size W w') := Lib.hid (fun W hW => by
    have hW' : Below (w.alloc (.cells #[.pointer (some ⟨b, 0, none⟩)] 29)).heap.size (w.alloc (.cells #[.pointer (some ⟨b, 0, none⟩)] 29)) W := by rw [World.size_alloc]; exact hW
    have hb := (Blk.new w 29 #[.pointer (some ⟨b, 0, none⟩)]).below hW'
    have hKW : Bk W b houseT := (hK.below ((Below.refl _ w).alloc (Nat.le_refl _) _)).below hW'
    exact first_allow s W _ (by omega) (pred_allow hKW hI hb s (fun k hk => (spot_facts h k hk).2.2)))
  clear h hK hI
  go_enter Tryz.func168, Tryz.ntmps168
  go_wp2_with (go_at_call 95; refine (HF.out _ ((Below.refl _ _).alloc (by simp) _)).mono ?_; rintro e w' ⟨rfl, h1⟩; have k1 := (Blk.new (w.alloc _) _ _).below h1; simp only [World.size_alloc] at k1; have c0 := k1.cell 0; have c1 := k1.cell 1; have f0 := k1.frozen 0; have f1 := k1.frozen 1; simp only [List.getElem?_toArray, List.getElem?_cons_succ, List.getElem?_cons_zero] at c0 c1)
  have e0 := (k1.set_ 0 (.int .i64 0)).set_ 1 (.int .i64 0)
  have g0 := e0.cell 0
  have g1 := e0.cell 1
  simp at g0 g1
  refine bodyPost_ret (v := .tuple #[.agg #[.int .i64 0, .int .i64 0], .bool false]) (by simp [results, Tryz.results168, go_sem, g0, g1]) rfl ⟨rfl, ?_⟩
  exact (((((Below.refl _ w).alloc (Nat.le_refl _) _).alloc (by simp) _).trans (h1.mono (by simp; omega))).setCell (p := ⟨w.heap.size + 1, 0, none⟩) (by simp) _).setCell (p := ⟨w.heap.size + 1, 1, none⟩) (by simp) _
set_option maxHeartbeats 2000000 in
theorem rule_5 {w : World} {b : Nat} {s : ByteArray} (h : GoodL s) : Lets 171 b s w := by
  unfold Lets
  have hs := good_size h
  have HF := Lib.hid (fun W => label_hyphen (w := W) h)
  clear h
  go_enter Tryz.func171, Tryz.ntmps171
  go_wp2_with (go_at_call 172; refine (HF.out _).mono ?_; rintro e w' ⟨rfl, h1⟩; have k1 := (Blk.new w _ _).below h1; have c0 := k1.cell 0; have c1 := k1.cell 1; have f0 := k1.frozen 0; have f1 := k1.frozen 1; simp only [List.getElem?_toArray, List.getElem?_cons_succ, List.getElem?_cons_zero] at c0 c1)
  have e0 := (k1.set_ 0 (.int .i64 0)).set_ 1 (.int .i64 0)
  have g0 := e0.cell 0
  have g1 := e0.cell 1
  simp at g0 g1
  refine bodyPost_ret (v := .tuple #[.agg #[.int .i64 0, .int .i64 0], .bool false]) (by simp [results, Tryz.results171, go_sem, g0, g1]) rfl ⟨rfl, ?_⟩
  exact ((((Below.refl _ w).alloc (Nat.le_refl _) _).trans (h1.mono (by simp))).setCell (p := ⟨w.heap.size, 0, none⟩) (Nat.le_refl _) _).setCell (p := ⟨w.heap.size, 1, none⟩) (Nat.le_refl _) _
theorem good_class {s : ByteArray} (h : GoodL s) : ∃ x l, rn s = x :: l ∧ i32 x ∧ clsT houseT x = 0 := by
  rcases good_runes h with ⟨rfl, hr⟩ | ⟨rfl, hr⟩
  · exact ⟨233, [97], hr, by decide, by decide +kernel⟩
  · exact ⟨98, [], hr, by decide, by decide +kernel⟩
set_option maxHeartbeats 2000000 in
theorem rule_6 {w : World} {b : Nat} (hK : Bk w b houseT) {s : ByteArray} (h : GoodL s) : Lets 173 b s w := by
  unfold Lets
  have hs := good_size h
  have HR := Lib.hid (fun W => utf_Runes s (by omega) W)
  obtain ⟨x, l, hr, hx, hc⟩ := good_class h
  rw [hr] at HR
  have HCl := Lib.hid (fun W (hW : Below w.heap.size w W) => bk_Class (hK.below hW) hx)
  rw [hc] at HCl
  clear hr hc hx hK
  clear h
  go_enter Tryz.func173, Tryz.ntmps173
  go_wp2_with (first | (go_at_call 174; refine (HR.out _).mono ?_; rintro e w' ⟨⟨⟨c, rfl⟩, hc⟩, h1⟩; have x0 := hc 0 _ rfl; simp only [World.size_alloc] at x0; have k1 := (Blk.new w _ _).below h1; have c0 := k1.cell 0; have c1 := k1.cell 1; have f0 := k1.frozen 0; have f1 := k1.frozen 1; simp only [List.getElem?_toArray, List.getElem?_cons_succ, List.getElem?_cons_zero] at c0 c1) | (go_at_call 102; refine (HCl.out _ (((Below.refl _ w).alloc (Nat.le_refl _) _).trans (h1.mono (by simp)))).mono ?_; rintro e w3 ⟨rfl, rfl⟩))
  have e0 := (k1.set_ 0 (.int .i64 0)).set_ 1 (.int .i64 0)
  have g0 := e0.cell 0
  have g1 := e0.cell 1
  simp at g0 g1
  refine bodyPost_ret (v := .tuple #[.agg #[.int .i64 0, .int .i64 0], .bool false]) (by simp [results, Tryz.results173, go_sem, g0, g1]) rfl ⟨rfl, ?_⟩
  exact ((((Below.refl _ w).alloc (Nat.le_refl _) _).trans (h1.mono (by simp))).setCell (p := ⟨w.heap.size, 0, none⟩) (Nat.le_refl _) _).setCell (p := ⟨w.heap.size, 1, none⟩) (Nat.le_refl _) _

end
section
open Go.RowKit
set_option linter.unusedVariables false
def noDefer (ops : List Oper) : Bool := ops.all fun o => match o.op with | .defer _ => false | _ => true
theorem noDefer_at {ops : List Oper} (h : noDefer ops = true) {i : Nat} {o : Oper} (ho : ops.toArray[i]? = some o) : ∀ c, o.op ≠ .defer c := by
  intro c hc
  unfold noDefer at h
  rw [List.all_eq_true] at h
  have hm : o ∈ ops := by
    rw [List.getElem?_toArray] at ho
    exact List.mem_of_getElem? ho
  have := h o hm
  rw [hc] at this
  cases this
theorem oper_round {l n : Nat} {P : Program} {o : Oper} {a : Act} {w : World} {K : Act → World → Prop} {Q : Exit → Act → World → Prop} (hd : ∀ c, o.op ≠ .defer c) (h : o.wpIn Fence.wide n P a w K Q) : o.wpIn (Fence.wide.inRound l) n P a w K Q := by
  obtain ⟨h1, h2⟩ := h
  refine ⟨fun f hf => trivial, ?_⟩
  have e : o.semAt (Fence.wide.inRound l).round a.eval = o.semAt Fence.wide.round a.eval := by
    rw [Oper.semAt_plain _ _ _ hd, Oper.semAt_plain _ _ _ hd]
  rw [e]
  generalize (o.semAt Fence.wide.round a.eval).run P w = r at *
  exact h2
theorem any_round {l n : Nat} {P : Program} {md : Region.Mode} {ops : List Oper} {Q : Exit → Act → World → Prop} (hd : noDefer ops = true) : ∀ (fuel : Nat) (listed : Array Bool) (a : Act) (w : World),
    wpAnyIn Fence.wide n P md ops.toArray Q fuel listed a w → wpAnyIn (Fence.wide.inRound l) n P md ops.toArray Q fuel listed a w
  | 0, listed, a, w, h => h
  | fuel + 1, listed, a, w, h => by
    refine ⟨h.1, fun i hi => ?_⟩
    have h2 := h.2 i hi
    unfold wpOpIn at h2 ⊢
    cases ho : ops.toArray[i]? with
    | none =>
      rw [ho] at h2
      exact any_round hd fuel _ _ _ h2
    | some o =>
      rw [ho] at h2
      dsimp only at h2 ⊢
      split
      · rename_i hw
        rw [if_pos hw] at h2
        exact oper_round (noDefer_at hd ho) (Oper.wpIn_mono (fun a w hk => any_round hd fuel _ _ _ hk) h2)
      · rename_i hw
        rw [if_neg hw] at h2
        exact ⟨fun f hf => trivial, any_round hd fuel _ _ _ h2.2⟩
theorem wpIn_round_below {l id n : Nat} {P : Program} {Q : Exit → Act → World → Prop} {a : Act} {w : World} {ops : List Oper} (hm : P.follows .mixedOrders = true) (hB : Region.lexB .any ops.toArray = true) (hd : noDefer ops = true)
    (h : wpQuietIn Fence.wide n P ops.toArray (fun w' => Below w.heap.size w w') (fun a' => ∀ w', Below w.heap.size w w' → Q .normal a' w') ops a) : (Code.region id ops.toArray true).wpIn (Fence.wide.inRound l) n P Q a w := by
  simp only [Region.lexB, Bool.and_eq_true] at hB
  refine wpIn_region_any hm (any_round hd _ _ _ _ (wpAnyIn_of_quiet (C := fun w' => Below w.heap.size w w') (Q := fun a' => ∀ w', Below w.heap.size w w' → Q .normal a' w') rfl (fun _ w' hw' h => h w' hw') _ _ _ _ ⟨rfl, rfl, rfl, Nat.le_refl _, fun _ _ => rfl⟩ ?_))
  have := wpAnyQIn_lex (F := Fence.wide) (n := n) (C := fun w' => Below w.heap.size w w') (md := .any) hB.1 ops.toArray.toList 0 (Array.replicate ops.toArray.size false) a (by simp) (by simpa using hB.2) (by simpa using h)
  simpa using this

end
end Go.Proofs.YtjmkdimbbacnfaaGreatDoor
