/- t.All of spots.Text: the contract of the iterator that it hands out. -/
import Derived.Test.YtkenffbonnbflaaDoorIterB
import Derived.Test.YtkenffbonnbflaaDoorBegun
namespace Go.Proofs.YtkenffbonnbflaaDoor
open Go.RowKit Go.Shelf
set_option linter.unusedVariables false
attribute [local go_sem] Oper.semAt_some

theorem All_val (T : Nat) (w : World) : Calls Tryd.prog 74 #[.pointer (some ⟨T, 0, none⟩)] w fun e w' => e = .returned (.func (.func 96) #[] #[.pointer (some ⟨w.heap.size, 0, none⟩)]) ∧ w.alloc (.cells #[.pointer (some ⟨T, 0, none⟩)] 76) = w' := by
  go_enter Tryd.func74, Tryd.ntmps74
  go_wp2
  go_ret
  exact ⟨rfl, rfl⟩

/-- what comes: a spot's place, and the spot -/
abbrev encA (s : ByteArray) (i : Fin (nS s)) : Array Value := #[.agg #[.int .i64 (bAt s i.val : Int), .int .i64 (i.val : Int)], .agg #[.int .i32 ((spA s i.val).r : Int), .int .i64 ((spA s i.val).n : Int), .bool (spA s i.val).bad]]

set_option maxRecDepth 100000 in
set_option maxHeartbeats 4000000 in
theorem all_B (s : ByteArray) (T Bt : Nat) (A : Nat → Prop) (w : World) (hAw : ∀ k, A k → k < w.heap.size) (hbox : Blk w Bt 76 #[.pointer (some ⟨T, 0, none⟩)]) (hT : w.cell? ⟨T, 0, none⟩ = some (.string s)) (n : Nat) (hn : 6 ≤ n) (hs : s.size ≤ 65536) :
    SeqStopsB Fence.wide n Tryd.prog 96 #[.pointer (some ⟨Bt, 0, none⟩)] (encA s) A (fun xs => xs = List.finRange (nS s)) (fun pre => ∃ k, k ≤ nS s ∧ pre = firstK s k) (nS s) w := fun l J Jx W hW hl0 hl1 hlr hJ hJx hY h0 => by
  have hns := nS_le s
  have hwW := hW.size
  have hboxW := hbox.below hW
  have c0 := hboxW.cell 0
  have cT := (hW.cell (p := ⟨T, 0, none⟩) (lt_of_cell hT)).trans hT
  simp only [List.getElem?_toArray, List.getElem?_cons_zero] at c0
  have hAl : ∀ k, W.heap.size ≤ k → ¬ (A k ∨ k = l) := fun k hk h => by
    rcases h with h | rfl
    · have := hAw k h; omega
    · omega
  refine callsIn_of_wp_marks Tryd.func96 rfl trivial ?_ rfl
  simp only [Tryd.ntmps96, List.size_toArray, List.length_cons, List.length_nil, Nat.reduceAdd, Nat.reduceSub, Array.replicate_succ, Array.replicate_zero, List.push_toArray, List.append_toArray, List.nil_append, List.cons_append]
  obtain ⟨W2, hW2⟩ : ∃ W2, (W.alloc (.cells #[.func (.yield l) #[] #[]] 126)).alloc (.cells #[.int .i64 0] 3) = W2 := ⟨_, rfl⟩
  have h2 : Below W.heap.size W W2 := by rw [← hW2]; exact ((Below.refl _ W).alloc (Nat.le_refl _) _).alloc (by simp) _
  have z2 : W2.heap.size = W.heap.size + 1 + 1 := by rw [← hW2]; simp
  have by2 : Blk W2 W.heap.size 126 #[.func (.yield l) #[] #[]] := by rw [← hW2]; exact (Blk.new W _ _).alloc _
  have bn2 : Blk W2 (W.heap.size + 1) 3 #[.int .i64 0] := by rw [← hW2]; have h := Blk.new (W.alloc (.cells #[.func (.yield l) #[] #[]] 126)) 3 #[.int .i64 0]; simp only [World.size_alloc] at h; exact h
  replace c0 := (h2.cell (p := ⟨Bt, 0, none⟩) hboxW.lt).trans c0
  replace cT := (h2.cell (p := ⟨T, 0, none⟩) (lt_of_cell cT)).trans cT
  rw [← hW2] at c0 cT
  have HW2 := Lib.hid hW2
  clear hW2
  have h1n : 1 ≤ n := by omega
  gi_wp2_with (refine ⟨trivial, ?_⟩; gi_at_call 52; refine (callsIn_wide.2 (Spots_val s _)).mono ?_; rintro e w' ⟨rfl, rfl⟩)
  rw [HW2.out]
  clear HW2
  obtain ⟨W0, hW0⟩ : ∃ W0, W2.alloc (.cells #[.string s] 9) = W0 := ⟨_, rfl⟩
  have h20 : Below W2.heap.size W2 W0 := by rw [← hW0]; exact (Below.refl _ W2).alloc (Nat.le_refl _) _
  have z0 : W0.heap.size = W2.heap.size + 1 := by rw [← hW0]; simp
  have by0 := by2.below h20
  have bn0 := bn2.below h20
  have bs0 : Blk W0 (W.heap.size + 1 + 1) 9 #[.string s] := by rw [← hW0, ← z2]; exact Blk.new W2 _ _
  have hB0 : Below W.heap.size W W0 := h2.trans (h20.mono h2.size)
  have hj0 := hJ _ _ _ h0 hB0
  rw [hW0]
  clear hW0 by2 bn2 h0
  refine wpIn_rangeFunc_ownB rfl (by omega) (gf := 88) (lb := #[.pointer (some ⟨W.heap.size + 1 + 1, 0, none⟩)]) rfl trivial (enters_of Tryd.func88 (by kernel_rfl) rfl)
    (A := fun k => (A k ∨ k = l) ∨ k = W.heap.size + 1) (fun k hk => by rcases hk with (hk | rfl) | rfl <;> first | omega | (have := hAw k hk; omega))
    (spots_B s (W.heap.size + 1 + 1) (fun k => (A k ∨ k = l) ∨ k = W.heap.size + 1) (fun hk => by rcases hk with (hk | hk) | hk <;> first | omega | (have := hAw _ hk; omega)) W0 (fun k hk => by rcases hk with (hk | rfl) | rfl <;> first | omega | (have := hAw k hk; omega)) bs0 (n - 1) (by omega)) (Below.refl _ _) (fun _ => rfl)
    (fun pre X => J pre X ∧ Blk X W.heap.size 126 #[.func (.yield l) #[] #[]] ∧ Blk X (W.heap.size + 1) 3 #[.int .i64 (pre.length : Int)])
    (fun c pre X => c = .ret ∧ Jx pre X)
    ?own1 ?own2 ⟨hj0, by0, bn0⟩
    (fun x a' X => ∃ Bx, W.heap.size + 1 < Bx ∧ Blk X Bx 25 #[.int .i32 ((spA s x.val).r : Int), .int .i64 ((spA s x.val).n : Int), .bool (spA s x.val).bad] ∧ a' = { tmps := #[Value.func (.yield l) #[] #[], Value.pointer (some ⟨Bt, 0, none⟩), Value.pointer (some ⟨W.heap.size, 0, none⟩), Value.pointer (some ⟨W.heap.size + 1, 0, none⟩), Value.int .i64 (bAt s x.val : Int), Value.pointer (some ⟨Bx, 0, none⟩), Value.pointer (some ⟨T, 0, none⟩), Value.pointer (some ⟨T, 0, none⟩), Value.pointer (some ⟨T, 0, none⟩), Value.string s, Value.func (.func 88) #[] #[.pointer (some ⟨W.heap.size + 1 + 1, 0, none⟩)], Value.int .i64 (bAt s x.val : Int), Value.agg #[.int .i32 ((spA s x.val).r : Int), .int .i64 ((spA s x.val).n : Int), .bool (spA s x.val).bad], undef, undef, undef, undef, undef, undef, undef, undef, undef], defers := [] })
    (fun x a' _ X Y row hs hg hr => by obtain ⟨Bx, h1, h2, h3⟩ := hs; exact ⟨Bx, h1, blk_own h2 hg hr, h3⟩)
    ?assign ?body ?done ?stop
  case own1 =>
    rintro pre X Y ⟨h1, h3, h4⟩ hb
    exact ⟨hJ _ _ _ h1 (hb.mono hB0.size), h3.of (hb.block _ (by omega)), h4.of (hb.block _ (by omega))⟩
  case own2 =>
    rintro c pre X Y ⟨h1, h3⟩ hb
    exact ⟨h1, hJx _ _ _ h3 (hb.mono hB0.size)⟩
  case assign =>
    rintro l2 pre x X K ⟨h1, h3, h4⟩ hz hK
    have hlt := h4.lt
    gi_wp2
    exact hK _ _ (Only.alloc X _) ⟨hJ _ _ _ h1 ((Below.refl W.heap.size X).alloc (by omega) _), h3.alloc _, h4.alloc _⟩ ⟨X.heap.size, hlt, Blk.new X _ _, rfl⟩
  case body =>
    rintro l2 pre x a' X hl2 ⟨r2, hr2⟩ ⟨h1, h3, h4⟩ ⟨Bx, hBx, bX, rfl⟩ ⟨k, hk, hpre⟩ hlt
    obtain ⟨e1, e2, e3⟩ := firstK_last hk hpre
    have dy := h3.cell 0
    have dn := h4.cell 0
    have fz := h4.frozen 0
    have dx0 := bX.cell 0
    have dx1 := bX.cell 1
    have dx2 := bX.cell 2
    simp only [List.getElem?_toArray, List.getElem?_cons_succ, List.getElem?_cons_zero] at dy dn dx0 dx1 dx2
    obtain ⟨fn, tmps, assign, body, hy, hR⟩ := hY pre x X h1 ⟨k, hk, hpre⟩ hlt
    dsimp only [encA] at hy
    rw [← e1] at dn
    have hln : (pre.length : Int) < 9223372036854775807 := by omega
    clear e1 e2 e3 hpre hk
    gi_wp2
    refine ⟨fun h => by omega, (round_deep rfl (round_in hR)).mono ?_⟩
    rintro e Y ⟨ho, (⟨rfl, hj2⟩ | ⟨rfl, hj2⟩)⟩
    · have h3Y := ho.blk (hAl _ (Nat.le_refl _)) h3
      have h4Y := ho.blk (hAl _ (by omega)) h4
      have dn2 := h4Y.cell 0
      have fn2 := h4Y.frozen 0
      simp only [List.getElem?_toArray, List.getElem?_cons_zero] at dn2
      clear dn fz
      gi_wp2
      refine ⟨(ho.mono (fun k h => .inl h)).trans (Only.setCell _ _ _ _ (.inr rfl)), ?_, h3Y.of (Below.heap_setCell _ _ _ _ (by simp)), ?_⟩
      · exact hJ _ _ _ hj2 ((Below.refl W.heap.size Y).setCell (p := ⟨W.heap.size + 1, 0, none⟩) (by simp) _)
      · rw [show ((pre ++ [x]).length : Int) = (pre.length : Int) + 1 by simp]
        exact h4Y.set_ 0 _
    · gi_wp2
      exact ⟨ho.mono (fun k h => .inl h), rfl, hj2⟩
  case done =>
    rintro D ys V hD rfl ⟨h1, h3, h4⟩ hK
    gi_wp2
    refine ⟨by simp, .inl ⟨_, _, rfl, run_takeDeferred hK, ?_⟩⟩
    exact ⟨_, results_none rfl _ _ _, ⟨_, rfl⟩, .inl ⟨_, rfl, hJ _ _ _ h1 (below_putObj _ _ _ (by omega))⟩⟩
  case stop =>
    rintro D c pre V hD ⟨k, hk, hpre⟩ ⟨rfl, h1⟩ hK
    gi_wp2
    refine ⟨by simp, .inl ⟨_, _, rfl, run_takeDeferred hK, ?_⟩⟩
    exact ⟨_, results_none rfl _ _ _, ⟨_, rfl⟩, .inr ⟨pre, ⟨k, hk, hpre⟩, hJx _ _ _ h1 (below_putObj _ _ _ (by omega))⟩⟩
end Go.Proofs.YtkenffbonnbflaaDoor
