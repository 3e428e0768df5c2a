/- t.Back of spots.Text: the contract of the iterator that it hands out. -/
import Derived.Test.YtkenffbonnbflaaDoorAllI
namespace Go.Proofs.YtkenffbonnbflaaDoor
open Go.RowKit Go.Shelf
set_option linter.unusedVariables false
attribute [local go_sem] Oper.semAt_some

theorem Count_c1 {w : World} {T gb cb : Nat} (s : ByteArray) (c1 : w.cell? ⟨T, 1, none⟩ = some (.slice (some ⟨gb, 0, none⟩) (nS s + 1) cb)) (hn : nS s ≤ 65536) :
    Calls Tryd.prog 56 #[.pointer (some ⟨T, 0, none⟩)] w fun e w' => e = .returned (.int .i64 (nS s : Int)) ∧ w = w' := by
  go_enter Tryd.func56, Tryd.ntmps56
  go_wp2
  go_ret
  exact ⟨rfl, rfl⟩

theorem TBack_val (T : Nat) (w : World) : Calls Tryd.prog 75 #[.pointer (some ⟨T, 0, none⟩)] w fun e w' => e = .returned (.func (.func 97) #[] #[.pointer (some ⟨w.heap.size, 0, none⟩)]) ∧ w.alloc (.cells #[.pointer (some ⟨T, 0, none⟩)] 76) = w' := by
  go_enter Tryd.func75, Tryd.ntmps75
  go_wp2
  go_ret
  exact ⟨rfl, rfl⟩

/-- what comes: a spot's place, and the spot -/
abbrev encK (s : ByteArray) (i : Fin (nS s)) : Array Value := #[.agg #[.int .i64 (bAt s (nS s - (i.val + 1)) : Int), .int .i64 ((nS s - (i.val + 1) : Nat) : Int)], .agg #[.int .i32 ((spA s (nS s - (i.val + 1))).r : Int), .int .i64 ((spA s (nS s - (i.val + 1))).n : Int), .bool (spA s (nS s - (i.val + 1))).bad]]

set_option maxRecDepth 100000 in
set_option maxHeartbeats 4000000 in
theorem tback_B (s : ByteArray) (T Bt : Nat) (A : Nat → Prop) (w : World) (hAw : ∀ k, A k → k < w.heap.size) (hbox : Blk w Bt 76 #[.pointer (some ⟨T, 0, none⟩)]) {gb cb : Nat} (ht0 : w.cell? ⟨T, 0, none⟩ = some (.string s)) (ht1 : w.cell? ⟨T, 1, none⟩ = some (.slice (some ⟨gb, 0, none⟩) (nS s + 1) cb)) (hU : Lib.Utf8Tabs 0 1 w) (hA0 : ¬ A 0) (hA1 : ¬ A 1) (n : Nat) (hn : 6 ≤ n) (hs : s.size ≤ 65536) :
    SeqStopsB Fence.wide n Tryd.prog 97 #[.pointer (some ⟨Bt, 0, none⟩)] (encK s) A (fun xs => xs = List.finRange (nS s)) (fun pre => ∃ k, k ≤ nS s ∧ pre = firstK s k) (nS s) w := fun l J Jx W hW hl0 hl1 hlr hJ hJx hY h0 => by
  have hns := nS_le s
  have hwW := hW.size
  have hboxW := hbox.below hW
  have c0 := hboxW.cell 0
  have hUW := Utf8Tabs_below hU hW
  have cT := (hW.cell (p := ⟨T, 0, none⟩) (lt_of_cell ht0)).trans ht0
  have cT1 := (hW.cell (p := ⟨T, 1, none⟩) (lt_of_cell ht1)).trans ht1
  simp only [List.getElem?_toArray, List.getElem?_cons_zero] at c0
  have hAl : ∀ k, W.heap.size ≤ k → ¬ (A k ∨ k = l) := fun k hk h => by
    rcases h with h | rfl
    · have := hAw k h; omega
    · omega
  refine callsIn_of_wp_marks Tryd.func97 rfl trivial ?_ rfl
  simp only [Tryd.ntmps97, List.size_toArray, List.length_cons, List.length_nil, Nat.reduceAdd, Nat.reduceSub, Array.replicate_succ, Array.replicate_zero, List.push_toArray, List.append_toArray, List.nil_append, List.cons_append]
  obtain ⟨W2, hW2⟩ : ∃ W2, (W.alloc (.cells #[.func (.yield l) #[] #[]] 126)).alloc (.cells #[.int .i64 (nS s : Int)] 3) = W2 := ⟨_, rfl⟩
  have h2 : Below W.heap.size W W2 := by rw [← hW2]; exact ((Below.refl _ W).alloc (Nat.le_refl _) _).alloc (by simp) _
  have z2 : W2.heap.size = W.heap.size + 1 + 1 := by rw [← hW2]; simp
  have by2 : Blk W2 W.heap.size 126 #[.func (.yield l) #[] #[]] := by rw [← hW2]; exact (Blk.new W _ _).alloc _
  have bn2 : Blk W2 (W.heap.size + 1) 3 #[.int .i64 (nS s : Int)] := by rw [← hW2]; have h := Blk.new (W.alloc (.cells #[.func (.yield l) #[] #[]] 126)) 3 #[.int .i64 (nS s : Int)]; simp only [World.size_alloc] at h; exact h
  have b1 : Below W.heap.size W (W.alloc (.cells #[.func (.yield l) #[] #[]] 126)) := (Below.refl _ W).alloc (Nat.le_refl _) _
  have c1 := (b1.cell (p := ⟨Bt, 0, none⟩) hboxW.lt).trans c0
  have HC := Lib.hid (Count_c1 s ((b1.cell (p := ⟨T, 1, none⟩) (lt_of_cell cT1)).trans cT1) (by omega))
  clear b1
  replace c0 := (h2.cell (p := ⟨Bt, 0, none⟩) hboxW.lt).trans c0
  replace cT := (h2.cell (p := ⟨T, 0, none⟩) (lt_of_cell cT)).trans cT
  rw [← hW2] at c0 cT
  have HW2 := Lib.hid hW2
  clear hW2
  have h1n : 1 ≤ n := by omega
  gi_wp2_with (first
    | (refine ⟨trivial, ?_⟩; gi_at_call 56; refine (callsIn_wide.2 HC.out).mono ?_; rintro e w' ⟨rfl, rfl⟩)
    | (refine ⟨trivial, ?_⟩; gi_at_call 66; refine (callsIn_wide.2 (Back_val s _)).mono ?_; rintro e w' ⟨rfl, rfl⟩))
  rw [HW2.out]
  clear HW2
  obtain ⟨W0, hW0⟩ : ∃ W0, W2.alloc (.cells #[.string s] 9) = W0 := ⟨_, rfl⟩
  have h20 : Below W2.heap.size W2 W0 := by rw [← hW0]; exact (Below.refl _ W2).alloc (Nat.le_refl _) _
  have z0 : W0.heap.size = W2.heap.size + 1 := by rw [← hW0]; simp
  have by0 := by2.below h20
  have bn0 := bn2.below h20
  have bs0 : Blk W0 (W.heap.size + 1 + 1) 9 #[.string s] := by rw [← hW0, ← z2]; exact Blk.new W2 _ _
  have hU0 := Utf8Tabs_below hUW (h2.trans (h20.mono h2.size))
  have hq0 := lt_of_cell (hUW.2 0 (by omega)).1
  have hq1 := lt_of_cell (hUW.1 0 (by omega))
  have hw0 := lt_of_cell (hU.2 0 (by omega)).1
  have hw1 := lt_of_cell (hU.1 0 (by omega))
  have hB0 : Below W.heap.size W W0 := h2.trans (h20.mono h2.size)
  have hj0 := hJ _ _ _ h0 hB0
  rw [hW0]
  clear hW0 by2 bn2 h0
  refine wpIn_rangeFunc_ownB rfl (by omega) (gf := 93) (lb := #[.pointer (some ⟨W.heap.size + 1 + 1, 0, none⟩)]) rfl trivial (enters_of Tryd.func93 (by kernel_rfl) rfl)
    (A := fun k => (A k ∨ k = l) ∨ k = W.heap.size + 1) (fun k hk => by rcases hk with (hk | rfl) | rfl <;> first | omega | (have := hAw k hk; omega))
    (back_B s (W.heap.size + 1 + 1) (fun k => (A k ∨ k = l) ∨ k = W.heap.size + 1) (fun hk => by rcases hk with (hk | hk) | hk <;> first | omega | (have := hAw _ hk; omega)) (fun hk => by rcases hk with (hk | hk) | hk <;> first | exact hA0 hk | omega) (fun hk => by rcases hk with (hk | hk) | hk <;> first | exact hA1 hk | omega) W0 (fun k hk => by rcases hk with (hk | rfl) | rfl <;> first | omega | (have := hAw k hk; omega)) bs0 hU0 (by omega) (n - 1) (by omega)) (Below.refl _ _) (fun _ => rfl)
    (fun pre X => J pre X ∧ Blk X W.heap.size 126 #[.func (.yield l) #[] #[]] ∧ Blk X (W.heap.size + 1) 3 #[.int .i64 ((nS s - pre.length : Nat) : Int)])
    (fun c pre X => c = .ret ∧ Jx pre X)
    ?own1 ?own2 ⟨hj0, by0, bn0⟩
    (fun x a' X => ∃ Bx, W.heap.size + 1 < Bx ∧ Blk X Bx 25 #[.int .i32 ((spA s (nS s - (x.val + 1))).r : Int), .int .i64 ((spA s (nS s - (x.val + 1))).n : Int), .bool (spA s (nS s - (x.val + 1))).bad] ∧ a' = { tmps := #[Value.func (.yield l) #[] #[], Value.pointer (some ⟨Bt, 0, none⟩), Value.pointer (some ⟨W.heap.size, 0, none⟩), Value.pointer (some ⟨W.heap.size + 1, 0, none⟩), Value.int .i64 (bAt s (nS s - (x.val + 1)) : Int), Value.pointer (some ⟨Bx, 0, none⟩), Value.pointer (some ⟨T, 0, none⟩), Value.int .i64 (nS s : Int), Value.pointer (some ⟨T, 0, none⟩), Value.pointer (some ⟨T, 0, none⟩), Value.pointer (some ⟨T, 0, none⟩), Value.string s, Value.func (.func 93) #[] #[.pointer (some ⟨W.heap.size + 1 + 1, 0, none⟩)], Value.int .i64 (bAt s (nS s - (x.val + 1)) : Int), Value.agg #[.int .i32 ((spA s (nS s - (x.val + 1))).r : Int), .int .i64 ((spA s (nS s - (x.val + 1))).n : Int), .bool (spA s (nS s - (x.val + 1))).bad], undef, undef, undef, undef, undef, undef, undef, undef, undef], defers := [] })
    (fun x a' _ X Y row hs hg hr => by obtain ⟨Bx, h1, h2, h3⟩ := hs; exact ⟨Bx, h1, blk_own h2 hg hr, h3⟩)
    ?assign ?body ?done ?stop
  case own1 =>
    rintro pre X Y ⟨h1, h3, h4⟩ hb
    exact ⟨hJ _ _ _ h1 (hb.mono hB0.size), h3.of (hb.block _ (by omega)), h4.of (hb.block _ (by omega))⟩
  case own2 =>
    rintro c pre X Y ⟨h1, h3⟩ hb
    exact ⟨h1, hJx _ _ _ h3 (hb.mono hB0.size)⟩
  case assign =>
    rintro l2 pre x X K ⟨h1, h3, h4⟩ hz hK
    have hlt := h4.lt
    gi_wp2
    exact hK _ _ (Only.alloc X _) ⟨hJ _ _ _ h1 ((Below.refl W.heap.size X).alloc (by omega) _), h3.alloc _, h4.alloc _⟩ ⟨X.heap.size, hlt, Blk.new X _ _, rfl⟩
  case body =>
    rintro l2 pre x a' X hl2 ⟨r2, hr2⟩ ⟨h1, h3, h4⟩ ⟨Bx, hBx, bX, rfl⟩ ⟨k, hk, hpre⟩ hlt
    obtain ⟨e1, e2, e3⟩ := firstK_last hk hpre
    obtain ⟨fn, tmps, assign, body, hy, hR⟩ := hY pre x (X.setCell ⟨W.heap.size + 1, 0, none⟩ (.int .i64 ((nS s - (x.val + 1) : Nat) : Int))) (hJ _ _ _ h1 ((Below.refl W.heap.size X).setCell (p := ⟨W.heap.size + 1, 0, none⟩) (by simp) _)) ⟨k, hk, hpre⟩ hlt
    dsimp only [encK] at hy
    obtain ⟨q, hq⟩ : ∃ q, nS s - (x.val + 1) = q := ⟨_, rfl⟩
    have hq1 : nS s - pre.length = q + 1 := by omega
    have hqe : nS s - (pre.length + 1) = q := by omega
    have hqb : (q : Int) < 9223372036854775807 := by omega
    rw [hq1] at h4
    rw [hq] at bX
    simp only [hq] at hy hR ⊢
    have dy := h3.cell 0
    have dn := h4.cell 0
    have fz := h4.frozen 0
    have dx0 := bX.cell 0
    have dx1 := bX.cell 1
    have dx2 := bX.cell 2
    simp only [List.getElem?_toArray, List.getElem?_cons_succ, List.getElem?_cons_zero] at dy dn dx0 dx1 dx2
    replace dn : X.cell? ⟨W.heap.size + 1, 0, none⟩ = some (.int .i64 ((q : Int) + 1)) := dn
    have h3' := h3.of (Below.heap_setCell X ⟨W.heap.size + 1, 0, none⟩ (.int .i64 (q : Int)) W.heap.size (by simp))
    have h4' := h4.set_ 0 (.int .i64 (q : Int))
    have n1 : Bx ≠ W.heap.size + 1 := by omega
    have n2 : W.heap.size ≠ W.heap.size + 1 := by omega
    have bX' := bX.of (Below.heap_setCell X ⟨W.heap.size + 1, 0, none⟩ (.int .i64 (q : Int)) Bx n1)
    have ey := h3'.cell 0
    have en := h4'.cell 0
    have ex0 := bX'.cell 0
    have ex1 := bX'.cell 1
    have ex2 := bX'.cell 2
    simp only [List.getElem?_toArray, List.getElem?_cons_succ, List.getElem?_cons_zero, List.setIfInBounds_toArray, List.set_cons_zero] at ey en ex0 ex1 ex2
    have ho1 : Only (fun k => (A k ∨ k = l) ∨ k = W.heap.size + 1) X (X.setCell ⟨W.heap.size + 1, 0, none⟩ (.int .i64 (q : Int))) := Only.setCell _ _ _ _ (.inr rfl)
    clear e1 e2 e3 hpre hk
    gi_wp2
    refine ⟨fun h => by omega, (round_deep rfl (round_in hR)).mono ?_⟩
    rintro e Y ⟨ho, (⟨rfl, hj2⟩ | ⟨rfl, hj2⟩)⟩
    · have h3Y := ho.blk (hAl _ (Nat.le_refl _)) h3'
      have h4Y := ho.blk (hAl _ (by omega)) h4'
      gi_wp2
      refine ⟨ho1.trans (ho.mono (fun k h => .inl h)), hj2, h3Y, ?_⟩
      rw [show (pre ++ [x]).length = pre.length + 1 by simp, hqe]
      exact h4Y
    · gi_wp2
      exact ⟨ho1.trans (ho.mono (fun k h => .inl h)), rfl, hj2⟩
  case done =>
    rintro D ys V hD rfl ⟨h1, h3, h4⟩ hK
    gi_wp2
    refine ⟨by simp, .inl ⟨_, _, rfl, run_takeDeferred hK, ?_⟩⟩
    exact ⟨_, results_none rfl _ _ _, ⟨_, rfl⟩, .inl ⟨_, rfl, hJ _ _ _ h1 (below_putObj _ _ _ (by omega))⟩⟩
  case stop =>
    rintro D c pre V hD ⟨k, hk, hpre⟩ ⟨rfl, h1⟩ hK
    gi_wp2
    refine ⟨by simp, .inl ⟨_, _, rfl, run_takeDeferred hK, ?_⟩⟩
    exact ⟨_, results_none rfl _ _ _, ⟨_, rfl⟩, .inr ⟨pre, ⟨k, hk, hpre⟩, hJx _ _ _ h1 (below_putObj _ _ _ (by omega))⟩⟩
end Go.Proofs.YtkenffbonnbflaaDoor
