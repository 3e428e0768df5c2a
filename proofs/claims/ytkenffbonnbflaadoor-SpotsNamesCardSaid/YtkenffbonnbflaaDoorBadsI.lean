/- t.Bads of spots.Text: the contract of the iterator that it hands out. -/
import Derived.Test.YtkenffbonnbflaaDoorBackK
namespace Go.Proofs.YtkenffbonnbflaaDoor
open Go.RowKit Go.Shelf
set_option linter.unusedVariables false
attribute [local go_sem] Oper.semAt_some

theorem Bads_val (T : Nat) (w : World) : Calls Tryd.prog 76 #[.pointer (some ⟨T, 0, none⟩)] w fun e w' => e = .returned (.func (.func 98) #[] #[.pointer (some ⟨w.heap.size, 0, none⟩)]) ∧ w.alloc (.cells #[.pointer (some ⟨T, 0, none⟩)] 76) = w' := by
  go_enter Tryd.func76, Tryd.ntmps76
  go_wp2
  go_ret
  exact ⟨rfl, rfl⟩

/-- what comes: a bad spot's place -/
abbrev encD (s : ByteArray) (i : Fin (nS s)) : Array Value := #[.agg #[.int .i64 (bAt s i.val : Int), .int .i64 (i.val : Int)]]
/-- the bad ones -/
def bads (s : ByteArray) (l : List (Fin (nS s))) : List (Fin (nS s)) := l.filter fun i => (spA s i.val).bad
theorem bads_yes {s : ByteArray} {pre : List (Fin (nS s))} {x : Fin (nS s)} (h : (spA s x.val).bad = true) : bads s (pre ++ [x]) = bads s pre ++ [x] := by
  unfold bads; rw [List.filter_append]; simp [h]
theorem bads_no {s : ByteArray} {pre : List (Fin (nS s))} {x : Fin (nS s)} (h : (spA s x.val).bad = false) : bads s (pre ++ [x]) = bads s pre := by
  unfold bads; rw [List.filter_append]; simp [h]

set_option maxRecDepth 100000 in
set_option maxHeartbeats 4000000 in
theorem bads_B (s : ByteArray) (T Bt : Nat) (A : Nat → Prop) (w : World) (hAw : ∀ k, A k → k < w.heap.size) (hbox : Blk w Bt 76 #[.pointer (some ⟨T, 0, none⟩)]) (hT : w.cell? ⟨T, 0, none⟩ = some (.string s)) (n : Nat) (hn : 9 ≤ n) (hs : s.size ≤ 65536) :
    SeqStopsB Fence.wide n Tryd.prog 98 #[.pointer (some ⟨Bt, 0, none⟩)] (encD s) A (fun xs => xs = bads s (List.finRange (nS s))) (fun pre => ∃ k, k ≤ nS s ∧ pre = bads s (firstK s k)) (nS s) w := fun l J Jx W hW hl0 hl1 hlr hJ hJx hY h0 => by
  have hns := nS_le s
  have hwW := hW.size
  have hboxW := hbox.below hW
  have c0 := hboxW.cell 0
  have cT := (hW.cell (p := ⟨T, 0, none⟩) (lt_of_cell hT)).trans hT
  simp only [List.getElem?_toArray, List.getElem?_cons_zero] at c0
  have hAl : ∀ k, W.heap.size ≤ k → ¬ (A k ∨ k = l) := fun k hk h => by
    rcases h with h | rfl
    · have := hAw k h; omega
    · omega
  refine callsIn_of_wp_marks Tryd.func98 rfl trivial ?_ rfl
  simp only [Tryd.ntmps98, List.size_toArray, List.length_cons, List.length_nil, Nat.reduceAdd, Nat.reduceSub, Array.replicate_succ, Array.replicate_zero, List.push_toArray, List.append_toArray, List.nil_append, List.cons_append]
  obtain ⟨W2, hW2⟩ : ∃ W2, W.alloc (.cells #[.func (.yield l) #[] #[]] 127) = W2 := ⟨_, rfl⟩
  have h2 : Below W.heap.size W W2 := by rw [← hW2]; exact (Below.refl _ W).alloc (Nat.le_refl _) _
  have z2 : W2.heap.size = W.heap.size + 1 := by rw [← hW2]; simp
  have by2 : Blk W2 W.heap.size 127 #[.func (.yield l) #[] #[]] := by rw [← hW2]; exact Blk.new W _ _
  replace c0 := (h2.cell (p := ⟨Bt, 0, none⟩) hboxW.lt).trans c0
  rw [← hW2] at c0
  have HW2 := Lib.hid hW2
  clear hW2
  have h1n : 1 ≤ n := by omega
  gi_wp2_with (refine ⟨trivial, ?_⟩; gi_at_call 74; refine (callsIn_wide.2 (All_val T _)).mono ?_; rintro e w' ⟨rfl, rfl⟩)
  rw [HW2.out]
  clear HW2
  obtain ⟨W0, hW0⟩ : ∃ W0, W2.alloc (.cells #[.pointer (some ⟨T, 0, none⟩)] 76) = W0 := ⟨_, rfl⟩
  have h20 : Below W2.heap.size W2 W0 := by rw [← hW0]; exact (Below.refl _ W2).alloc (Nat.le_refl _) _
  have z0 : W0.heap.size = W2.heap.size + 1 := by rw [← hW0]; simp
  have by0 := by2.below h20
  have bs0 : Blk W0 (W.heap.size + 1) 76 #[.pointer (some ⟨T, 0, none⟩)] := by rw [← hW0, ← z2]; exact Blk.new W2 _ _
  have hB0 : Below W.heap.size W W0 := h2.trans (h20.mono h2.size)
  have hj0 := hJ _ _ _ h0 hB0
  have cT0 := (hB0.cell (p := ⟨T, 0, none⟩) (lt_of_cell cT)).trans cT
  rw [hW0]
  clear hW0 by2 h0
  refine wpIn_rangeFunc_ownB rfl (by omega) (gf := 96) (lb := #[.pointer (some ⟨W.heap.size + 1, 0, none⟩)]) rfl trivial (enters_of Tryd.func96 (by kernel_rfl) rfl)
    (A := fun k => A k ∨ k = l) (fun k hk => by rcases hk with hk | rfl <;> first | omega | (have := hAw k hk; omega))
    (all_B s T (W.heap.size + 1) (fun k => A k ∨ k = l) W0 (fun k hk => by rcases hk with hk | rfl <;> first | omega | (have := hAw k hk; omega)) bs0 cT0 (n - 1) (by omega) hs) (Below.refl _ _) (fun _ => rfl)
    (fun pre X => J (bads s pre) X ∧ Blk X W.heap.size 127 #[.func (.yield l) #[] #[]])
    (fun c pre X => c = .ret ∧ Jx (bads s pre) X)
    ?own1 ?own2 ⟨hj0, by0⟩
    (fun x a' X => ∃ Bp Bx, W.heap.size < Bp ∧ W.heap.size < Bx ∧ Blk X Bp 82 #[.int .i64 (bAt s x.val : Int), .int .i64 (x.val : Int)] ∧ Blk X Bx 25 #[.int .i32 ((spA s x.val).r : Int), .int .i64 ((spA s x.val).n : Int), .bool (spA s x.val).bad] ∧ a' = { tmps := #[Value.func (.yield l) #[] #[], Value.pointer (some ⟨Bt, 0, none⟩), Value.pointer (some ⟨W.heap.size, 0, none⟩), Value.pointer (some ⟨Bp, 0, none⟩), Value.pointer (some ⟨Bx, 0, none⟩), Value.pointer (some ⟨T, 0, none⟩), Value.func (.func 96) #[] #[.pointer (some ⟨W.heap.size + 1, 0, none⟩)], Value.agg #[.int .i64 (bAt s x.val : Int), .int .i64 (x.val : Int)], Value.agg #[.int .i32 ((spA s x.val).r : Int), .int .i64 ((spA s x.val).n : Int), .bool (spA s x.val).bad], undef, undef, undef, undef, undef, undef, undef, undef], defers := [] })
    (fun x a' _ X Y row hs hg hr => by obtain ⟨Bp, Bx, h1, h2, h3, h4, h5⟩ := hs; exact ⟨Bp, Bx, h1, h2, blk_own h3 hg hr, blk_own h4 hg hr, h5⟩)
    ?assign ?body ?done ?stop
  case own1 =>
    rintro pre X Y ⟨h1, h3⟩ hb
    exact ⟨hJ _ _ _ h1 (hb.mono hB0.size), h3.of (hb.block _ (by omega))⟩
  case own2 =>
    rintro c pre X Y ⟨h1, h3⟩ hb
    exact ⟨h1, hJx _ _ _ h3 (hb.mono hB0.size)⟩
  case assign =>
    rintro l2 pre x X K ⟨h1, h3⟩ hz hK
    have hlt := h3.lt
    gi_wp2
    have hb1 : Below X.heap.size X ((X.alloc (.cells #[.int .i64 (bAt s x.val : Int), .int .i64 (x.val : Int)] 82)).alloc (.cells #[.int .i32 ((spA s x.val).r : Int), .int .i64 ((spA s x.val).n : Int), .bool (spA s x.val).bad] 25)) := ((Below.refl _ X).alloc (Nat.le_refl _) _).alloc (by simp) _
    have b2 := Blk.new (X.alloc (.cells #[.int .i64 (bAt s x.val : Int), .int .i64 (x.val : Int)] 82)) 25 #[.int .i32 ((spA s x.val).r : Int), .int .i64 ((spA s x.val).n : Int), .bool (spA s x.val).bad]
    simp only [World.size_alloc] at b2
    exact hK _ _ (Only.below hb1) ⟨hJ _ _ _ h1 (hb1.mono (by omega)), h3.below hb1⟩ ⟨X.heap.size, X.heap.size + 1, hlt, by omega, (Blk.new X _ _).alloc _, b2, rfl⟩
  case body =>
    rintro l2 pre x a' X hl2 ⟨r2, hr2⟩ ⟨h1, h3⟩ ⟨Bp, Bx, hBp, hBx, bP, bX, rfl⟩ ⟨k, hk, hpre⟩ hlt
    have dy := h3.cell 0
    have dp0 := bP.cell 0
    have dp1 := bP.cell 1
    have dx0 := bX.cell 0
    have dx1 := bX.cell 1
    have dx2 := bX.cell 2
    simp only [List.getElem?_toArray, List.getElem?_cons_succ, List.getElem?_cons_zero] at dy dp0 dp1 dx0 dx1 dx2
    cases hb : (spA s x.val).bad with
    | false =>
      rw [hb] at dx2
      clear hpre
      gi_wp2
      refine ⟨fun _ h => (by cases h), ?_⟩
      gi_wp2
      exact ⟨Only.refl _ _, by rw [bads_no hb]; exact h1, h3⟩
    | true =>
      rw [hb] at dx2
      have hle : (bads s pre).length ≤ pre.length := List.length_filter_le _ _
      obtain ⟨fn, tmps, assign, body, hy, hR⟩ := hY (bads s pre) x X h1 ⟨k, hk, by rw [← hpre, bads_yes hb]⟩ (by omega)
      dsimp only [encD] at hy
      clear hpre hle
      gi_wp2
      refine ⟨fun h => by omega, (round_deep rfl (round_in hR)).mono ?_⟩
      rintro e Y ⟨ho, (⟨rfl, hj2⟩ | ⟨rfl, hj2⟩)⟩
      · have h3Y := ho.blk (hAl _ (Nat.le_refl _)) h3
        gi_wp2
        exact ⟨ho, by rw [bads_yes hb]; exact hj2, h3Y⟩
      · gi_wp2
        exact ⟨ho, rfl, by rw [bads_yes hb]; exact hj2⟩
  case done =>
    rintro D ys V hD rfl ⟨h1, h3⟩ hK
    gi_wp2
    refine ⟨by simp, .inl ⟨_, _, rfl, run_takeDeferred hK, ?_⟩⟩
    exact ⟨_, results_none rfl _ _ _, ⟨_, rfl⟩, .inl ⟨_, rfl, hJ _ _ _ h1 (below_putObj _ _ _ (by omega))⟩⟩
  case stop =>
    rintro D c pre V hD ⟨k, hk, hpre⟩ ⟨rfl, h1⟩ hK
    gi_wp2
    refine ⟨by simp, .inl ⟨_, _, rfl, run_takeDeferred hK, ?_⟩⟩
    exact ⟨_, results_none rfl _ _ _, ⟨_, rfl⟩, .inr ⟨_, ⟨k, hk, by rw [hpre]⟩, hJx _ _ _ h1 (below_putObj _ _ _ (by omega))⟩⟩
end Go.Proofs.YtkenffbonnbflaaDoor
