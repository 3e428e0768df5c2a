/- fold.Fold. fold.Fold, look.Skeleton, look.Alike. look.Skeleton, look.Alike. The small table: what the mirrors answer over it. -/
import Derived.Test.YtjmkdimbbacnfaaGreatDoorGRng
namespace Go.Proofs.YtjmkdimbbacnfaaGreatDoor
section
open Go.RowKit Go.Shelf
set_option linter.unusedVariables false
attribute [local go_sem] Oper.semAt_some
theorem nS_rn (s : ByteArray) : nS s = (rn s).length := by unfold nS sp; rw [rn_def, runesI_length]
theorem rn_spA (s : ByteArray) : rn s = (List.finRange (nS s)).map fun i => ((spA s i.val).r : Int) := by
  apply List.ext_getElem?
  intro j
  rw [List.getElem?_map]
  by_cases hj : j < nS s
  · have h := spA_get s j hj
    rw [List.getElem?_eq_getElem (show j < (List.finRange (nS s)).length by simpa using hj)]
    simp only [List.getElem_finRange, Option.map_some]
    rw [rn_def]
    unfold runesI runesN
    rw [List.getElem?_map, List.getElem?_map, show (spots s.data.toList)[j]? = some (spA s j) from h]
    rfl
  · rw [List.getElem?_eq_none (by rw [← nS_rn]; omega), List.getElem?_eq_none (by simp; omega)]
    rfl
theorem fold_steps (b : Nat) (w : World) : Calls Tryz.prog 45 #[.pointer (some ⟨b, 0, none⟩)] w fun e w' => e = .returned (.func (.func 104) #[] #[.pointer (some ⟨w.heap.size, 0, none⟩)]) ∧ w.alloc (.cells #[.pointer (some ⟨b, 0, none⟩)] 29) = w' := by
  go_enter Tryz.func45, Tryz.ntmps45
  go_wp2
  go_ret
  exact ⟨rfl, rfl⟩
theorem fold_steps1 (s : ByteArray) (p : Nat) (w : World) : Calls Tryz.prog 104 #[.string s, .pointer (some ⟨p, 0, none⟩)] w fun e w' => e = .returned (.func (.func 105) #[] #[.pointer (some ⟨p, 0, none⟩), .pointer (some ⟨w.heap.size, 0, none⟩)]) ∧ w.alloc (.cells #[.string s] 9) = w' := by
  go_enter Tryz.func104, Tryz.ntmps104
  go_wp2
  go_ret
  exact ⟨rfl, rfl⟩
/-- what comes: a spot's place, what it becomes, whether it stays -/
def sameF (T : Tab) (s : ByteArray) (i : Nat) : Bool := !(spA s i).bad && !((mapsOf T).fl ((spA s i).r : Int)).isSome
abbrev encF (T : Tab) (s : ByteArray) (x : Fin (nS s) × Option Addr) : Array Value := #[.agg #[.int .i64 (bAt s x.1.val : Int), .int .i64 (x.1.val : Int), .slice x.2 (foldR T ((spA s x.1.val).r : Int)).length (foldR T ((spA s x.1.val).r : Int)).length, .bool (sameF T s x.1.val)]]
def FoldM (T : Tab) (s : ByteArray) (x : Fin (nS s) × Option Addr) (X : World) : Prop := RunesAt X x.2 (foldR T ((spA s x.1.val).r : Int))
set_option maxRecDepth 100000 in
set_option maxHeartbeats 8000000 in
theorem fold_B {w0 : World} {z b : Nat} {T : Tab} (hz : w0.heap.size = z) (hK : Bk w0 b T) (hR : RightT T) (s : ByteArray) (Bb Bs : Nat) (A : Nat → Prop) (w : World) (hw0 : Below z w0 w) (hAw : ∀ k, A k → k < w.heap.size) (hAb : ¬ A Bb) (hAs : ¬ A Bs) (hzb : z ≤ w.heap.size)
    (hbb : Blk w Bb 29 #[.pointer (some ⟨b, 0, none⟩)]) (hbs : Blk w Bs 9 #[.string s]) (n : Nat) (hn : 6 ≤ n) (hs : s.size ≤ 1000000) :
    SeqStopsM Fence.wide n Tryz.prog 105 #[.pointer (some ⟨Bb, 0, none⟩), .pointer (some ⟨Bs, 0, none⟩)] (encF T s) z A (FoldM T s) (fun xs => xs.map (·.1) = List.finRange (nS s)) (fun pre => ∃ k, k ≤ nS s ∧ pre.map (·.1) = firstK s k) (nS s) w := fun l J Jx W hW hl0 hl1 hlr hJ hJx hY h0 => by
  have hns := nS_le s
  have hwW := hW.size
  have hbbW := hbb.below hW
  have hbsW := hbs.below hW
  have c0 := hbbW.cell 0
  have c1 := hbsW.cell 0
  simp only [List.getElem?_toArray, List.getElem?_cons_zero] at c0 c1
  have hAl : ∀ k, W.heap.size ≤ k → ¬ (A k ∨ k = l) := fun k hk h => by
    rcases h with h | rfl
    · have := hAw k h; omega
    · omega
  refine callsIn_of_wp_marks Tryz.func105 rfl trivial ?_ rfl
  simp only [Tryz.ntmps105, List.size_toArray, List.length_cons, List.length_nil, Nat.reduceAdd, Nat.reduceSub, Array.replicate_succ, Array.replicate_zero, List.push_toArray, List.append_toArray, List.nil_append, List.cons_append]
  obtain ⟨W2, hW2⟩ : ∃ W2, (W.alloc (.cells #[.func (.yield l) #[] #[]] 159)).alloc (.cells #[.int .i64 0] 3) = W2 := ⟨_, rfl⟩
  have h2 : Below W.heap.size W W2 := by rw [← hW2]; exact ((Below.refl _ W).alloc (Nat.le_refl _) _).alloc (by simp) _
  have z2 : W2.heap.size = W.heap.size + 1 + 1 := by rw [← hW2]; simp
  have by2 : Blk W2 W.heap.size 159 #[.func (.yield l) #[] #[]] := by rw [← hW2]; exact (Blk.new W _ _).alloc _
  have bn2 : Blk W2 (W.heap.size + 1) 3 #[.int .i64 0] := by rw [← hW2]; have h := Blk.new (W.alloc (.cells #[.func (.yield l) #[] #[]] 159)) 3 #[.int .i64 0]; simp only [World.size_alloc] at h; exact h
  replace c0 := (h2.cell (p := ⟨Bb, 0, none⟩) hbbW.lt).trans c0
  replace c1 := (h2.cell (p := ⟨Bs, 0, none⟩) hbsW.lt).trans c1
  rw [← hW2] at c0 c1
  have c2 : (W.alloc (.cells #[.func (.yield l) #[] #[]] 159)).cell? ⟨Bb, 0, none⟩ = some (.pointer (some ⟨b, 0, none⟩)) := ((hbbW.below ((Below.refl _ W).alloc (Nat.le_refl _) _)).cell 0)
  have HW2 := Lib.hid hW2
  clear hW2
  have h1n : 1 ≤ n := by omega
  gi_wp2_with (refine ⟨trivial, ?_⟩; gi_at_call 106; refine (callsIn_wide.2 (Spots_val s _)).mono ?_; rintro e w' ⟨rfl, rfl⟩)
  rw [HW2.out]
  clear HW2 c2
  obtain ⟨W0, hW0⟩ : ∃ W0, W2.alloc (.cells #[.string s] 9) = W0 := ⟨_, rfl⟩
  have h20 : Below W2.heap.size W2 W0 := by rw [← hW0]; exact (Below.refl _ W2).alloc (Nat.le_refl _) _
  have z0 : W0.heap.size = W2.heap.size + 1 := by rw [← hW0]; simp
  have by0 := by2.below h20
  have bn0 := bn2.below h20
  have bs0 : Blk W0 (W.heap.size + 1 + 1) 9 #[.string s] := by rw [← hW0, ← z2]; exact Blk.new W2 _ _
  have hB0 : Below W.heap.size W W0 := h2.trans (h20.mono h2.size)
  have hj0 := hJ _ _ _ h0 (Calm.new hB0 (Nat.le_refl _))
  have bb0 := (hbbW.below hB0)
  have hbl := hbb.lt
  have hzW : Below z w0 W := hw0.trans (hW.mono hzb)
  have hz0 : Below z w0 W0 := hzW.trans (hB0.mono (by omega))
  rw [hW0]
  clear hW0 by2 bn2 h0
  refine wpIn_rangeFunc_ownM rfl (by omega) (gf := 147) (lb := #[.pointer (some ⟨W.heap.size + 1 + 1, 0, none⟩)]) rfl trivial (enters_of Tryz.func147 (by kernel_rfl) rfl)
    (z := z) (A := fun k => (A k ∨ k = l) ∨ k = W.heap.size + 1) (by omega) (fun k hk => by rcases hk with (hk | rfl) | rfl <;> first | omega | (have := hAw k hk; omega))
    (spots_B s z (W.heap.size + 1 + 1) (fun k => (A k ∨ k = l) ∨ k = W.heap.size + 1) (fun hk => by rcases hk with (hk | hk) | hk <;> first | omega | (have := hAw _ hk; omega)) W0 (fun k hk => by rcases hk with (hk | rfl) | rfl <;> first | omega | (have := hAw k hk; omega)) bs0 (n - 1) (by omega)) (Below.refl _ _) (fun _ => rfl)
    (fun pre X => (∃ P : List (Fin (nS s) × Option Addr), P.map (·.1) = pre ∧ J P X) ∧ Below z w0 X ∧ Blk X Bb 29 #[.pointer (some ⟨b, 0, none⟩)] ∧ Blk X W.heap.size 159 #[.func (.yield l) #[] #[]] ∧ Blk X (W.heap.size + 1) 3 #[.int .i64 (pre.length : Int)])
    (fun c pre X => c = .ret ∧ ∃ P : List (Fin (nS s) × Option Addr), P.map (·.1) = pre ∧ Jx P X)
    ?own1 ?own2 ⟨⟨[], rfl, hj0⟩, hz0, bb0, by0, bn0⟩
    (fun x a' X => ∃ Bx, W.heap.size + 1 < Bx ∧ Blk X Bx 149 #[.int .i32 ((spA s x.val).r : Int), .int .i64 ((spA s x.val).n : Int), .bool (spA s x.val).bad] ∧ a' = { tmps := #[Value.func (.yield l) #[] #[], Value.pointer (some ⟨Bb, 0, none⟩), Value.pointer (some ⟨Bs, 0, none⟩), Value.pointer (some ⟨W.heap.size, 0, none⟩), Value.pointer (some ⟨W.heap.size + 1, 0, none⟩), Value.int .i64 (bAt s x.val : Int), Value.pointer (some ⟨Bx, 0, none⟩), undef, undef, Value.pointer (some ⟨b, 0, none⟩), Value.bool false, Value.string s, Value.func (.func 147) #[] #[Value.pointer (some ⟨W.heap.size + 1 + 1, 0, none⟩)], Value.int .i64 (bAt s x.val : Int), Value.agg #[.int .i32 ((spA s x.val).r : Int), .int .i64 ((spA s x.val).n : Int), .bool (spA s x.val).bad], undef, undef, undef, undef, undef, undef, undef, undef, undef, undef, undef, undef, undef, undef, undef, undef, undef, undef, undef, undef, undef, undef, undef, undef, undef, undef, undef, undef, undef], defers := [] })
    (fun x a' _ X Y row hs hg hr => by obtain ⟨Bx, h1, h2, h3⟩ := hs; exact ⟨Bx, h1, blk_own h2 hg hr, h3⟩)
    ?assign ?body ?done ?stop
  case own1 =>
    rintro pre X Y ⟨⟨P, hP, h1⟩, hz1, hb1, h3, h4⟩ hb
    exact ⟨⟨P, hP, hJ _ _ _ h1 (hb.mono hB0.size)⟩, hz1.trans (hb.below.mono (by omega)), hb1.of (hb.below.block _ (by omega)), h3.of (hb.below.block _ (by omega)), h4.of (hb.below.block _ (by omega))⟩
  case own2 =>
    rintro c pre X Y ⟨h1, P, hP, h3⟩ hb
    exact ⟨h1, P, hP, hJx _ _ _ h3 (hb.mono hB0.size)⟩
  case assign =>
    rintro l2 pre x X K ⟨⟨P, hP, h1⟩, hz1, hb1, h3, h4⟩ - hz9 hK9
    have hlt := h4.lt
    gi_wp2
    exact hK9 _ _ (Only.alloc X _ (by omega)) ⟨⟨P, hP, hJ _ _ _ h1 (Calm.alloc _ _ (by omega))⟩, hz1.alloc (by omega) _, hb1.alloc _, h3.alloc _, h4.alloc _⟩ ⟨X.heap.size, hlt, Blk.new X _ _, rfl⟩
  case body =>
    rintro l2 pre x a' X hl2 ⟨r2, hr2⟩ ⟨⟨P, hP, h1⟩, hz1, hb1, h3, h4⟩ ⟨Bx, hBx, bX, rfl⟩ ⟨k, hk, hpre⟩ hlt
    obtain ⟨e1, -, -⟩ := firstK_last hk hpre
    have hri : i32 ((spA s x.val).r : Int) := by have := (spA_range s x.val x.isLt).1; unfold i32; omega
    have HF := Lib.hid (bk_Fold (hK.below (by rw [hz]; exact hz1)) hR hri)
    have hPl : P.length = pre.length := by rw [← hP, List.length_map]
    have hbx0 := hb1.lt
    have h4l := h4.lt
    have Hsp : Hid (∀ A9 : Option Addr, ∃ k, k ≤ nS s ∧ (P ++ [(x, A9)]).map (·.1) = firstK s k) := Lib.hid (fun A9 => ⟨k, hk, by rw [List.map_append, hP]; exact hpre⟩)
    have HP2 : Hid (∀ A9 : Option Addr, (P ++ [(x, A9)]).map (·.1) = pre ++ [x]) := Lib.hid (fun A9 => by rw [List.map_append, hP]; rfl)
    have hPn : P.length < nS s := by omega
    have c0 := hb1.cell 0
    have dx0 := bX.cell 0
    simp only [List.getElem?_toArray, List.getElem?_cons_zero] at c0 dx0
    rw [← e1] at h4
    have E1 := Lib.hid e1
    have hln : (x.val : Int) < 9223372036854775807 := by have := x.isLt; omega
    clear hP hpre hk hPl e1
    cases hf : (mapsOf T).fl ((spA s x.val).r : Int) with
    | none =>
      have hfr : Hid (foldR T ((spA s x.val).r : Int) = [((spA s x.val).r : Int)]) := Lib.hid (by unfold foldR; rw [hf])
      have hsm : Hid (sameF T s x.val = !(spA s x.val).bad) := Lib.hid (by unfold sameF; rw [hf]; simp)
      rw [hf] at HF
      clear hf
      cases hbd : (spA s x.val).bad
      all_goals (
        rw [hbd] at hsm bX
        gi_wp2
        refine ⟨trivial, fun h => by omega, (CallsIn.inRound l2 (callsIn_wide.2 HF.out)).mono ?_⟩
        rintro e X2 ⟨h2, hb2⟩
        unfold ToRes at h2
        subst h2
        have dx3 := (bX.below hb2).cell 0
        have hb3 : Below X.heap.size X (X2.alloc (.cells #[.int .i32 ((spA s x.val).r : Int)] 21)) := hb2.alloc hb2.size _
        have dy := (h3.below hb3).cell 0
        have dn := (h4.below hb3).cell 0
        have dx4 := (bX.below hb3).cell 2
        have HO3 : Hid (Only z (fun k => (A k ∨ k = l) ∨ k = W.heap.size + 1) X (X2.alloc (.cells #[.int .i32 ((spA s x.val).r : Int)] 21))) := Lib.hid (Only.new hb3 (by omega))
        have h33 := h3.below hb3
        have h43 := h4.below hb3
        have hb13 := hb1.below hb3
        have hz13 : Below z w0 (X2.alloc (.cells #[.int .i32 ((spA s x.val).r : Int)] 21)) := hz1.trans (hb3.mono (by omega))
        obtain ⟨fn, tmps, assign, body, hy, hRr⟩ := hY P (x, some ⟨X2.heap.size, 0, none⟩) _ (hJ _ _ _ h1 (Calm.new hb3 (by omega))) (by unfold FoldM; rw [hfr.out]; exact one_rune _ _ _) (Hsp.out _) hPn
        dsimp only [encF] at hy
        rw [hfr.out, hsm.out] at hy
        simp only [List.length_cons, List.length_nil, Bool.not_true, Bool.not_false] at hy
        simp only [List.getElem?_toArray, List.getElem?_cons_succ, List.getElem?_cons_zero] at dx3 dy dn dx4
        clear c0 dx0 HF h1
        gi_wp2
        refine ⟨fun h => by omega, (round_deep rfl (round_in hRr)).mono ?_⟩
        rintro e Y ⟨ho, (⟨rfl, hj2⟩ | ⟨rfl, hj2⟩)⟩
        · have h3Y := ho.blk (hAl _ (Nat.le_refl _)) (by decide) h33
          have h4Y := ho.blk (hAl _ (by omega)) (by decide) h43
          have hb1Y := ho.blk (fun h => by rcases h with h | rfl <;> first | exact hAb h | omega) (by decide) hb13
          have hz1Y := hz13.trans ho.below
          have dn2 := h4Y.cell 0
          have fn2 := h4Y.frozen 0
          simp only [List.getElem?_toArray, List.getElem?_cons_zero] at dn2
          clear dn dy dx4
          gi_wp2
          refine ⟨HO3.out.trans ((ho.mono (fun k h => .inl h)).trans (Only.setCell _ _ _ _ (by omega) (.inr rfl))), ⟨_, HP2.out (some ⟨X2.heap.size, 0, none⟩), ?_⟩, hz1Y.setCell (by show z ≤ W.heap.size + 1; omega) _, hb1Y.of (Below.heap_setCell _ _ _ _ (by simp; omega)), h3Y.of (Below.heap_setCell _ _ _ _ (by simp)), ?_⟩
          · exact hJ _ _ _ hj2 (Calm.setCell h4Y (by decide) (by omega) _)
          · rw [show ((pre ++ [x]).length : Int) = (x.val : Int) + 1 by rw [E1.out]; simp]
            exact h4Y.set_ 0 _
        · gi_wp2
          exact ⟨HO3.out.trans (ho.mono (fun k h => .inl h)), rfl, _, HP2.out (some ⟨X2.heap.size, 0, none⟩), hj2⟩)
    | some t =>
      have hfr : Hid (foldR T ((spA s x.val).r : Int) = rn t) := Lib.hid (by unfold foldR; rw [hf])
      have hsm : Hid (sameF T s x.val = false) := Lib.hid (by unfold sameF; rw [hf]; simp)
      rw [hf] at HF
      clear hf
      cases hbd : (spA s x.val).bad
      all_goals (
        rw [hbd] at bX
        gi_wp2
        refine ⟨trivial, fun h => by omega, (CallsIn.inRound l2 (callsIn_wide.2 HF.out)).mono ?_⟩
        rintro e X2 ⟨⟨A9, rfl, hA9⟩, hb3⟩
        have dy := (h3.below hb3).cell 0
        have dn := (h4.below hb3).cell 0
        have dx4 := (bX.below hb3).cell 2
        have HO3 : Hid (Only z (fun k => (A k ∨ k = l) ∨ k = W.heap.size + 1) X X2) := Lib.hid (Only.new hb3 (by omega))
        have h33 := h3.below hb3
        have h43 := h4.below hb3
        have hb13 := hb1.below hb3
        have hz13 : Below z w0 X2 := hz1.trans (hb3.mono (by omega))
        obtain ⟨fn, tmps, assign, body, hy, hRr⟩ := hY P (x, A9) _ (hJ _ _ _ h1 (Calm.new hb3 (by omega))) (by unfold FoldM; rw [hfr.out]; exact hA9) (Hsp.out _) hPn
        dsimp only [encF] at hy
        rw [hfr.out, hsm.out] at hy
        simp only [List.getElem?_toArray, List.getElem?_cons_succ, List.getElem?_cons_zero] at dy dn dx4
        clear c0 dx0 HF h1 hA9
        gi_wp2
        refine ⟨fun h => by omega, (round_deep rfl (round_in hRr)).mono ?_⟩
        rintro e Y ⟨ho, (⟨rfl, hj2⟩ | ⟨rfl, hj2⟩)⟩
        · have h3Y := ho.blk (hAl _ (Nat.le_refl _)) (by decide) h33
          have h4Y := ho.blk (hAl _ (by omega)) (by decide) h43
          have hb1Y := ho.blk (fun h => by rcases h with h | rfl <;> first | exact hAb h | omega) (by decide) hb13
          have hz1Y := hz13.trans ho.below
          have dn2 := h4Y.cell 0
          have fn2 := h4Y.frozen 0
          simp only [List.getElem?_toArray, List.getElem?_cons_zero] at dn2
          clear dn dy dx4
          gi_wp2
          refine ⟨HO3.out.trans ((ho.mono (fun k h => .inl h)).trans (Only.setCell _ _ _ _ (by omega) (.inr rfl))), ⟨_, HP2.out (A9), ?_⟩, hz1Y.setCell (by show z ≤ W.heap.size + 1; omega) _, hb1Y.of (Below.heap_setCell _ _ _ _ (by simp; omega)), h3Y.of (Below.heap_setCell _ _ _ _ (by simp)), ?_⟩
          · exact hJ _ _ _ hj2 (Calm.setCell h4Y (by decide) (by omega) _)
          · rw [show ((pre ++ [x]).length : Int) = (x.val : Int) + 1 by rw [E1.out]; simp]
            exact h4Y.set_ 0 _
        · gi_wp2
          exact ⟨HO3.out.trans (ho.mono (fun k h => .inl h)), rfl, _, HP2.out (A9), hj2⟩)
  case done =>
    rintro D ys V hD rfl ⟨⟨P, hP, h1⟩, hz1, hb1, h3, h4⟩ hK9
    gi_wp2
    refine ⟨by simp, .inl ⟨_, _, rfl, run_takeDeferred hK9, ?_⟩⟩
    exact ⟨_, results_none rfl _ _ _, ⟨_, rfl⟩, .inl ⟨P, hP, hJ _ _ _ h1 (Calm.putObj (by omega) hK9 (fun _ _ e => by cases e))⟩⟩
  case stop =>
    rintro D c pre V hD ⟨k, hk, hpre⟩ ⟨rfl, P, hP, h1⟩ hK9
    gi_wp2
    refine ⟨by simp, .inl ⟨_, _, rfl, run_takeDeferred hK9, ?_⟩⟩
    exact ⟨_, results_none rfl _ _ _, ⟨_, rfl⟩, .inr ⟨P, ⟨k, hk, by rw [hP, hpre]⟩, hJx _ _ _ h1 (Calm.putObj (by omega) hK9 (fun _ _ e => by cases e))⟩⟩

end
section
open Go.RowKit Go.Shelf
set_option linter.unusedVariables false
attribute [local go_sem] Oper.semAt_some
theorem calls_of_marks {P : Program} {f : FuncId} {fn : Func} {c : Code} {args : Array Value} {w : World} {R : Ending → World → Prop} (n : Nat)
    (hf : P.funcs[f]? = some fn) (hb : fn.body = some c)
    (h : c.wpIn Fence.wide n P (bodyPostM Fence.wide n P fn R) { tmps := args ++ Array.replicate (fn.ntmps - args.size) undef, defers := [] } w) : Calls P f args w R :=
  callsIn_wide.1 (callsIn_of_wp_marks hf hb trivial h rfl)
theorem runes_own {W W' : World} {row : Option Nat} {B : Nat} {A : Option Addr} {ns : List Int} (h : RunesAt W A ns) (hg : W.grownBy W' row) (hr : ∀ r, row = some r → B ≤ r ∧ ∃ o : Obj, W.heap[r]? = some o ∧ o.isCells = false) : RunesAt W' A ns := fun h0 => by
  obtain ⟨a, rfl, hl, hc⟩ := h h0
  refine ⟨a, rfl, Nat.lt_of_lt_of_le hl hg.size, fun j hj => ?_⟩
  have hne : some a.block ≠ row := fun e => by
    obtain ⟨-, o, ho, hno⟩ := hr _ e.symm
    have h1 := hc 0 h0
    have hb := addr_block a 0
    unfold World.cell? at h1
    rw [hb, ho] at h1
    cases o <;> simp_all [Obj.isCells]
  rw [World.cell?_of_block (w := W) (hg.block _ (by rw [addr_block]; exact hl) (by rw [addr_block]; exact hne))]
  exact hc j hj
theorem BldL.calm {B n : Nat} {l : List UInt8} {X Y : World} (h : BldL X B l) (hb : Calm n X Y) (hB : B < n) : BldL Y B l := by
  have key : ∀ p, Lib.BuilderAtF 52 5 B B p (Lib.byteCells l) X → Lib.BuilderAtF 52 5 B B p (Lib.byteCells l) Y := fun p h => by
    obtain ⟨h1, v, h2, ⟨h3, h4⟩, h5⟩ := h
    refine ⟨h1, v, (hb.below.block B hB).trans h2, ⟨h3, ?_⟩, h5⟩
    rcases h4 with h4 | ⟨g, cap, cur, fz, a1, a2, a3, a4⟩
    · exact .inl h4
    · exact .inr ⟨g, cap, cur, fz, a1, a2, hb.rows _ _ _ a3, a4⟩
  exact h.elim (fun h => .inl (key _ h)) (fun h => .inr (key _ h))
theorem bldL_StringK {w : World} {B : Nat} {l : List UInt8} (h : BldL w B l) :
    Calls Tryz.prog 21 #[.pointer (some ⟨B, 0, none⟩)] w fun e w' => e = .returned (.string ⟨l.toArray⟩) ∧ Below B w w' ∧ Lib.OthersKept 5 (some B) w w' :=
  (Tryz.Builder_String_any_k B B l w h (Nat.le_of_lt h.lt)).mono (fun e w' h => ⟨h.1, h.2.2.1, h.2.2.2⟩)
def foldS (T : Tab) (s : ByteArray) : ByteArray := strR ((rn s).flatMap (foldR T))
theorem flat_len (f : Int → List Int) (hf : ∀ r, (f r).length ≤ 4) (l : List Int) : (l.flatMap f).length ≤ 4 * l.length := by
  induction l with
  | nil => simp
  | cons x t ih => have := hf x; simp only [List.flatMap_cons, List.length_append, List.length_cons]; omega
/-- the bytes of the first pieces -/
def foldP (T : Tab) (s : ByteArray) (l : List (Fin (nS s))) : List UInt8 := encL (l.flatMap fun i => foldR T ((spA s i.val).r : Int))
theorem foldP_all (T : Tab) (s : ByteArray) : foldP T s (List.finRange (nS s)) = encL ((rn s).flatMap (foldR T)) := by
  unfold foldP
  rw [rn_spA, List.flatMap_map]
theorem foldP_add (T : Tab) (s : ByteArray) (l : List (Fin (nS s))) (i : Fin (nS s)) : foldP T s (l ++ [i]) = foldP T s l ++ encL (foldR T ((spA s i.val).r : Int)) := by
  unfold foldP
  rw [List.flatMap_append, encL_append]
  simp
theorem foldP_len {T : Tab} (hR : RightT T) (s : ByteArray) (l : List (Fin (nS s))) : (foldP T s l).length ≤ 16 * l.length := by
  unfold foldP
  have h1 := encL_length (l.flatMap fun i => foldR T ((spA s i.val).r : Int))
  have h2 : (l.flatMap fun i => foldR T ((spA s i.val).r : Int)).length ≤ 4 * l.length := by
    induction l with
    | nil => simp
    | cons x t ih =>
      have := fold4 hR ((spA s x.val).r : Int)
      simp only [List.flatMap_cons, List.length_append, List.length_cons]
      have := ih (encL_length _)
      omega
  omega
set_option maxRecDepth 100000 in
set_option maxHeartbeats 8000000 in
theorem fold_Fold {w : World} {b : Nat} {T : Tab} (hK : Bk w b T) (hR : RightT T) (s : ByteArray) (hs : s.size ≤ 1000000) :
    Calls Tryz.prog 16 #[.pointer (some ⟨b, 0, none⟩), .string s] w fun e w' => e = .returned (.string (foldS T s)) ∧ Below w.heap.size w w' := by
  have hns := nS_le s
  refine calls_of_marks 9 Tryz.func16 rfl ?_
  simp only [Tryz.ntmps16, List.size_toArray, List.length_cons, List.length_nil, Nat.reduceAdd, Nat.reduceSub, Array.replicate_succ, Array.replicate_zero, List.push_toArray, List.append_toArray, List.nil_append, List.cons_append]
  gi_wp2_with (first | (refine ⟨trivial, ?_⟩; gi_at_call 45; refine (callsIn_wide.2 (fold_steps b _)).mono ?_; rintro e w' ⟨rfl, rfl⟩) | (refine ⟨trivial, ?_⟩; gi_at_call 104; refine (callsIn_wide.2 (fold_steps1 s _ _)).mono ?_; rintro e w' ⟨rfl, rfl⟩))
  obtain ⟨W0, hW0⟩ : ∃ W0, (((w.alloc (.cells #[.pointer none, .slice none 0 0] 52)).alloc (.cells #[.pointer (some ⟨b, 0, none⟩)] 29)).alloc (.cells #[.string s] 9)) = W0 := ⟨_, rfl⟩
  have hb1 : BldL W0 w.heap.size [] := by
    rw [← hW0]
    exact ((BldL.new w).below ((Below.refl _ _).alloc (Nat.le_refl _) _)).below ((Below.refl _ _).alloc (Nat.le_refl _) _)
  have b1 : Blk W0 (w.heap.size + 1) 29 #[.pointer (some ⟨b, 0, none⟩)] := by
    rw [← hW0]; have h := (Blk.new (w.alloc (.cells #[.pointer none, .slice none 0 0] 52)) 29 #[.pointer (some ⟨b, 0, none⟩)]).alloc (.cells #[.string s] 9); simp only [World.size_alloc] at h; exact h
  have b2 : Blk W0 (w.heap.size + 1 + 1) 9 #[.string s] := by
    rw [← hW0]; have h := Blk.new ((w.alloc (.cells #[.pointer none, .slice none 0 0] 52)).alloc (.cells #[.pointer (some ⟨b, 0, none⟩)] 29)) 9 #[.string s]; simp only [World.size_alloc] at h; exact h
  have hB0 : Below w.heap.size w W0 := by
    rw [← hW0]; exact (((Below.refl _ w).alloc (Nat.le_refl _) _).alloc (by simp) _).alloc (by simp; omega) _
  have hsz : W0.heap.size = w.heap.size + 3 := by rw [← hW0]; simp
  rw [hW0]
  clear hW0
  refine wpIn_rangeFunc_ownM rfl (by omega) (gf := 105) (lb := #[.pointer (some ⟨w.heap.size + 1, 0, none⟩), .pointer (some ⟨w.heap.size + 1 + 1, 0, none⟩)]) rfl trivial (enters_of Tryz.func105 (by kernel_rfl) rfl)
    (z := w.heap.size) (A := fun k => k = w.heap.size) (by omega) (fun k hk => by omega)
    (fold_B (z := w.heap.size) rfl hK hR s (w.heap.size + 1) (w.heap.size + 1 + 1) (fun k => k = w.heap.size) W0 hB0 (fun k hk => by omega) (by omega) (by omega) (by omega) b1 b2 (9 - 1) (by omega) hs) (Below.refl _ _) (fun _ => rfl)
    (fun (pre : List (Fin (nS s) × Option Addr)) X => BldL X w.heap.size (foldP T s (pre.map Prod.fst)) ∧ Below w.heap.size w X)
    (fun c pre X => False)
    (fun pre X Y h hb => ⟨h.1.calm hb (by omega), h.2.trans (hb.below.mono (by omega))⟩) (fun c pre X Y h hb => h.elim) ⟨hb1, hB0⟩
    (fun x a' X => ∃ Bp, FoldM T s x X ∧ Blk X Bp 94 #[.int .i64 (bAt s x.1.val : Int), .int .i64 (x.1.val : Int), .slice x.2 (foldR T ((spA s x.1.val).r : Int)).length (foldR T ((spA s x.1.val).r : Int)).length, .bool (sameF T s x.1.val)] ∧ a' = { tmps := #[Value.pointer (some ⟨b, 0, none⟩), Value.string s, undef, undef, Value.string ⟨#[]⟩, Value.pointer (some ⟨w.heap.size, 0, none⟩), Value.pointer (some ⟨Bp, 0, none⟩), Value.pointer (some ⟨b, 0, none⟩), Value.func (.func 104) #[] #[Value.pointer (some ⟨w.heap.size + 1, 0, none⟩)], Value.string s, Value.func (.func 105) #[] #[Value.pointer (some ⟨w.heap.size + 1, 0, none⟩), Value.pointer (some ⟨w.heap.size + 1 + 1, 0, none⟩)], Value.agg #[.int .i64 (bAt s x.1.val : Int), .int .i64 (x.1.val : Int), .slice x.2 (foldR T ((spA s x.1.val).r : Int)).length (foldR T ((spA s x.1.val).r : Int)).length, .bool (sameF T s x.1.val)], undef, undef, undef, undef, undef], defers := [] })
    (fun x a' _ X Y row hs hg hr => by obtain ⟨Bp, h1, h2, h3⟩ := hs; exact ⟨Bp, runes_own h1 hg hr, blk_own h2 hg hr, h3⟩)
    ?assign ?body ?done ?stop
  case assign =>
    rintro l2 pre x X K ⟨h1, h2⟩ hM hz9 hK9
    gi_wp2
    exact hK9 _ _ (Only.alloc X _ (by omega)) ⟨h1.below ((Below.refl _ X).alloc (Nat.le_refl _) _), h2.alloc (by omega) _⟩ ⟨X.heap.size, RunesAt.below hM ((Below.refl _ X).alloc (Nat.le_refl _) _), Blk.new X _ _, rfl⟩
  case body =>
    rintro l2 pre x a' X hl2 - ⟨h1, h2⟩ ⟨Bp, hM, bP, rfl⟩ hsp hlt
    have dp := bP.cell 2
    simp only [List.getElem?_toArray, List.getElem?_cons_succ, List.getElem?_cons_zero] at dp
    have hcr := conv_runes (c := (foldR T ((spA s x.1.val).r : Int)).length) hM
    have hl1 := foldP_len hR s (pre.map Prod.fst)
    rw [List.length_map] at hl1
    have hsz2 := strR_le (foldR T ((spA s x.1.val).r : Int))
    have hf4 := fold4 hR ((spA s x.1.val).r : Int)
    have HB := Lib.hid (bldL_str h1 (by omega) (strR (foldR T ((spA s x.1.val).r : Int))) (by omega))
    have H2 := Lib.hid h2
    clear hsp hl1 h1 h2 hM hsz2 hf4
    gi_wp2
    refine ⟨trivial, (CallsIn.inRound l2 (callsIn_wide.2 HB.out)).mono ?_⟩
    rintro e Y ⟨rfl, hB2, hb2, ho2⟩
    gi_wp2
    refine ⟨Only.others ho2 hb2 rfl, ?_, H2.out.trans hb2⟩
    rw [List.map_append]
    show BldL Y w.heap.size (foldP T s (pre.map Prod.fst ++ [x.1]))
    rw [foldP_add, ← strR_toList]
    exact hB2
  case done =>
    rintro D ys V hD hys9 ⟨h1, h2⟩ hK9
    have hys := Lib.hid hys9
    clear hys9
    have hDl := (Array.getElem?_eq_some_iff.1 hK9).1
    have HS := Lib.hid (bldL_StringK h1)
    gi_wp2
    refine ⟨trivial, (callsIn_wide.2 HS.out).mono ?_⟩
    rintro e Y ⟨rfl, hb2, ho2⟩
    have hK2 := ho2 _ _ hK9 (fun e => by cases e; omega) (fun _ _ e => by cases e)
    have HB2 := Lib.hid (h2.trans hb2)
    clear h1 h2 hb2 ho2
    gi_wp2
    refine ⟨by simp, .inl ⟨_, _, rfl, run_takeDeferred hK2, ?_⟩⟩
    refine ⟨.string (foldS T s), ?_, rfl, HB2.out.trans ⟨rfl, rfl, rfl, (grownBy_putObj' _ _ _).size, fun k hk => World.putObj_heap_other (by omega)⟩⟩
    simp [results, Tryz.results16, go_sem]
    rw [show ys.map Prod.fst = List.finRange (nS s) from hys.out, foldP_all]
    rfl
  case stop =>
    rintro D c pre V hD hsp h1 hK9
    exact h1.elim

end
section
open Go.RowKit
set_option linter.unusedVariables false
def lookS (T : Tab) (s : ByteArray) : ByteArray := strR ((rn s).flatMap (lookR T))
/-- the skeleton of a text -/
def skelS (T : Tab) (s : ByteArray) : ByteArray := lookS T (foldS T (openS T (stripS T s)))
theorem orderF_len (T : Tab) : ∀ (f : Nat) (l : List Int), (orderF T f l).length = l.length
  | 0, l => rfl
  | f + 1, [] => rfl
  | f + 1, r :: t => by
    unfold orderF
    split
    · have h := List.takeWhile_append_dropWhile (p := fun x => decide (0 < clsT T x)) (l := t)
      have h2 := congrArg List.length h
      rw [List.length_append] at h2
      rw [List.length_append, orderF_len T f, sortL_length]
      simp only [List.length_cons]
      omega
    · simp only [List.length_cons, orderF_len T f]
theorem strip_size (T : Tab) (s : ByteArray) : (stripS T s).size ≤ 4 * s.size := by
  unfold stripS
  have h1 := strR_le ((rn s).filter fun r => !ofL r T.drops)
  have h2 := List.length_filter_le (fun r => !ofL r T.drops) (rn s)
  have h3 := rn_le s
  omega
theorem order_size (T : Tab) (s : ByteArray) : (orderS T s).size ≤ 4 * s.size := by
  unfold orderS orderR
  have h1 := strR_le (orderF T (rn s).length (rn s))
  rw [orderF_len] at h1
  have h3 := rn_le s
  omega
theorem flat_len5 (f : Int → List Int) (hf : ∀ r, (f r).length ≤ 5) (l : List Int) : (l.flatMap f).length ≤ 5 * l.length := by
  induction l with
  | nil => simp
  | cons x t ih => have := hf x; simp only [List.flatMap_cons, List.length_append, List.length_cons]; omega
theorem open_size (T : Tab) (s : ByteArray) : (openS T s).size ≤ 80 * s.size := by
  unfold openS
  have h1 := order_size T (strR ((rn s).flatMap (apartT T)))
  have h2 := strR_le ((rn s).flatMap (apartT T))
  have h3 := flat_len5 (apartT T) (fun r => apartF_len T 4 r) (rn s)
  have h4 := rn_le s
  omega
theorem fold_size {T : Tab} (hR : RightT T) (s : ByteArray) : (foldS T s).size ≤ 16 * s.size := by
  unfold foldS
  have h2 := strR_le ((rn s).flatMap (foldR T))
  have h3 := flat_len (foldR T) (fold4 hR) (rn s)
  have h4 := rn_le s
  omega
set_option maxRecDepth 100000 in
set_option maxHeartbeats 8000000 in
theorem look_Skeleton {w : World} {b : Nat} {T : Tab} (hK : Bk w b T) (hR : RightT T) (s : ByteArray) (hs : s.size ≤ 500) :
    Calls Tryz.prog 8 #[.pointer (some ⟨b, 0, none⟩), .string s] w fun e w' => e = .returned (.string (skelS T s)) ∧ Below w.heap.size w w' := by
  have HK := Lib.hid hK
  have HR := Lib.hid hR
  have hz1 := strip_size T s
  have hz2 := open_size T (stripS T s)
  have hz3 := fold_size hR (openS T (stripS T s))
  have H1 : Hid (Below w.heap.size w (w.alloc (.cells #[.pointer none, .slice none 0 0] 52))) := Lib.hid ((Below.refl _ w).alloc (Nat.le_refl _) _)
  have B1 := Lib.hid (BldL.new w)
  have HT : Hid (∀ t : ByteArray, t = foldS T (openS T (stripS T s)) → strR ((rn t).flatMap (lookR T)) = skelS T s) := Lib.hid (fun t ht => by subst ht; rfl)
  clear hK hR
  go_enter Tryz.func8, Tryz.ntmps8
  go_wp2_with (first
    | (go_at_call 18; refine (strip_Strip (HK.out.below H1.out) HR.out s (by omega)).mono ?_; rintro e w2 ⟨rfl, hb2⟩; have H2 := Lib.hid (below_trans H1.out hb2); have B2 := Lib.hid (B1.out.below hb2); clear hb2)
    | (go_at_call 17; refine (open_Open (HK.out.below H2.out) HR.out (stripS T s) (by omega)).mono ?_; rintro e w3 ⟨rfl, hb3⟩; have H3 := Lib.hid (below_trans H2.out hb3); have B3 := Lib.hid (B2.out.below hb3); clear hb3)
    | (go_at_call 16; refine (fold_Fold (HK.out.below H3.out) HR.out (openS T (stripS T s)) (by omega)).mono ?_; rintro e w4 ⟨rfl, hb4⟩; have H4 := Lib.hid (below_trans H3.out hb4); have B4 := Lib.hid (B3.out.below hb4); clear hb4))
  obtain ⟨t, ht⟩ : ∃ t, foldS T (openS T (stripS T s)) = t := ⟨_, rfl⟩
  have HT2 := Lib.hid (HT.out t ht.symm)
  rw [ht] at hz3 ⊢
  have htz : t.size ≤ 2560000 := by omega
  obtain ⟨g, hg⟩ : ∃ g, w4.heap.size = g := ⟨_, rfl⟩
  obtain ⟨B, hB⟩ : ∃ B, w.heap.size = B := ⟨_, rfl⟩
  have HB := Lib.hid hB
  have hgB : B < g := by rw [← hg, ← hB]; exact B4.out.lt
  have HS0 : Hid (StrA w B g t 0 [] (w4.iter t 0)) := Lib.hid (by
    rw [← hg, ← hB]
    exact ⟨B4.out.below ((Below.refl _ w4).alloc (Nat.le_refl _) _), H4.out.alloc H4.out.size _, heap_alloc_new w4 _⟩)
  clear ht hz1 hz2 hz3 HT H1 H2 H3 B1 B2 B3 H4 B4
  rw [hB]
  clear hB
  simp only [hg]
  clear hg
  go_loopw [7] (fun _ wr => ∃ (p : Nat) (l : List UInt8), p ≤ t.size ∧ l.length ≤ 16 * p ∧ Hid (StrA w B g t p l wr) ∧ Hid (l ++ encL ((runesI (t.data.toList.drop p)).flatMap (lookR T)) = encL ((rn t).flatMap (lookR T)))) (fun _ wr => t.size - wr.iterPos g)
  case atStart => exact ⟨0, [], Nat.zero_le _, by simp, HS0, Lib.hid (by rw [rn_def]; rfl)⟩
  case round =>
    clear HS0
    obtain ⟨p, l, hp, hl, HA, HL⟩ := hrel
    by_cases hlt : p < t.size
    · have hnx := fun ty => Lib.run_next_any_at (P := Tryz.prog) wr g t p ty HA.out.it hlt
      obtain ⟨d1, d2, d3⟩ := dec_pos t hlt
      obtain ⟨r, hr⟩ : ∃ r : Nat, (Utf8.decode t p).1 = r := ⟨_, rfl⟩
      obtain ⟨q, hq⟩ : ∃ q, p + (Utf8.decode t p).2 = q := ⟨_, rfl⟩
      have hrc := rn_cons hlt
      rw [hr, hq] at hrc
      have HA2 := Lib.hid (HA.out.next (Nat.le_of_lt hgB) q)
      have Hpos := Lib.hid HA.out.pos
      simp only [hr, hq] at hnx
      obtain ⟨w3, hw3⟩ : ∃ w3, wr.iterAt g t q = w3 := ⟨_, rfl⟩
      rw [hw3] at HA2
      simp only [hw3] at hnx
      have HO := Lib.hid (look_Rune (HK.out.below (by rw [HB.out]; exact HA2.out.below)) HR.out (r := (r : Int)) (by unfold i32; omega))
      rw [hrc, List.flatMap_cons, encL_append, ← List.append_assoc] at HL
      have hq1 : p + 1 ≤ q := by omega
      have hq2 : q ≤ t.size := by omega
      have Hm : Hid (t.size - q < t.size - p) := Lib.hid (by omega)
      have h4 := look4 HR.out (r : Int)
      obtain ⟨lk, hlk⟩ : ∃ x, lookR T (r : Int) = x := ⟨_, rfl⟩
      rw [hlk] at HO HL h4
      have hsz := strR_le lk
      have hel := encL_length lk
      clear hrc hr hq hw3 d1 d2 d3 HA hlk
      have Hle : Hid ((l ++ encL lk).length ≤ 16 * q) := Lib.hid (by rw [List.length_append]; omega)
      have Hll : Hid (l.length ≤ 100000000) := Lib.hid (by omega)
      have Hss : Hid ((strR lk).size ≤ 100000000) := Lib.hid (by omega)
      clear h4 hsz hel
      go_wp2_with (first
        | (go_at_call 20; refine HO.out.mono ?_; rintro e w4 ⟨⟨A, c, rfl, hA⟩, hb4⟩; have HA4 := Lib.hid (HA2.out.step hb4); have hcr := conv_runes (c := c) hA; clear hA hb4)
        | (go_at_call 19; refine (bldL_str HA4.out.bld Hll.out _ Hss.out).mono ?_; rintro e w5 ⟨rfl, hB5, hb5, ho5⟩))
      rw [strR_toList] at hB5
      have HA5 := Lib.hid (HA4.out.write (by omega) hB5 hb5 ho5)
      go_roundw
      case rel => exact ⟨q, _, hq2, Hle.out, HA5, HL⟩
      case measure => rw [HA5.out.pos, Hpos.out]; exact Hm.out
    · have hnx := fun ty => Lib.run_next_end_at (P := Tryz.prog) wr g t p ty HA.out.it hlt
      rw [rn_end hlt] at HL
      have HL3 : Hid ((⟨l.toArray⟩ : ByteArray) = skelS T s) := Lib.hid (by rw [← HT2.out]; unfold strR; rw [← HL.out]; simp [encL])
      clear HL
      go_wp2_with (go_at_call 21; refine (bldL_String HA.out.bld).mono ?_; rintro e w6 ⟨rfl, hb6⟩)
      go_ret
      exact ⟨by rw [← HL3.out]; rfl, by rw [HB.out]; exact HA.out.below.trans hb6⟩
def alikeB (T : Tab) (s t : ByteArray) : Bool := (skelS T s).toList == (skelS T t).toList
set_option maxRecDepth 100000 in
set_option maxHeartbeats 2000000 in
theorem look_Alike {w : World} {b : Nat} {T : Tab} (hK : Bk w b T) (hR : RightT T) (s t : ByteArray) (hs : s.size ≤ 500) (ht : t.size ≤ 500) :
    Calls Tryz.prog 7 #[.pointer (some ⟨b, 0, none⟩), .string s, .string t] w fun e w' => e = .returned (.bool (alikeB T s t)) ∧ Below w.heap.size w w' := by
  have HK := Lib.hid hK
  have HR := Lib.hid hR
  have HS := Lib.hid (look_Skeleton hK hR s hs)
  clear hK hR
  go_enter Tryz.func7, Tryz.ntmps7
  go_wp2_with (first
    | (go_at_call 8; refine HS.out.mono ?_; rintro e w2 ⟨rfl, hb2⟩; have H2 := Lib.hid hb2; clear hb2 HS)
    | (go_at_call 8; refine (look_Skeleton (HK.out.below H2.out) HR.out t ht).mono ?_; rintro e w3 ⟨rfl, hb3⟩))
  go_ret
  exact ⟨rfl, below_trans H2.out hb3⟩

end
section
open Go.RowKit
set_option linter.unusedVariables false
def houseT : Tab where
  scripts := [⟨⟨#[108, 97, 116, 105, 110]⟩, [⟨65, 90⟩, ⟨97, 122⟩, ⟨232, 234⟩, ⟨7865, 7871⟩]⟩, ⟨⟨#[103, 114, 101, 101, 107]⟩, [⟨945, 969⟩]⟩, ⟨⟨#[99, 121, 114, 105, 108, 108, 105, 99]⟩, [⟨1072, 1103⟩]⟩]
  common := [⟨45, 57⟩]
  marks := [⟨769, 230⟩, ⟨770, 230⟩, ⟨803, 220⟩]
  pairs := [⟨233, 101, 769⟩, ⟨234, 101, 770⟩, ⟨7865, 101, 803⟩, ⟨7871, 234, 769⟩]
  folds := [⟨65, ⟨#[97]⟩⟩, ⟨69, ⟨#[101]⟩⟩]
  looks := [⟨1072, ⟨#[97]⟩⟩, ⟨49, ⟨#[108]⟩⟩, ⟨109, ⟨#[114, 110]⟩⟩]
  drops := [⟨8205, 8205⟩]
  allowed := [⟨45, 45⟩, ⟨48, 57⟩, ⟨97, 122⟩, ⟨232, 234⟩, ⟨769, 770⟩, ⟨803, 803⟩, ⟨945, 969⟩, ⟨1072, 1103⟩, ⟨7865, 7871⟩]
theorem house_large : largeT houseT = false := by decide +kernel
theorem alike_list (T : Tab) (s t : ByteArray) : alikeB T s t = ((skelS T s).data.toList == (skelS T t).data.toList) := by
  unfold alikeB
  rw [ByteArray.toList_eq, ByteArray.toList_eq]
theorem house_alike1 : alikeB houseT ⟨#[108, 97, 109, 112]⟩ ⟨#[49, 97, 114, 110, 112]⟩ = true := by
  rw [alike_list]; decide +kernel
theorem house_alike2 : alikeB houseT ⟨#[108, 97, 109, 112]⟩ ⟨#[108, 97, 109, 98]⟩ = false := by
  rw [alike_list]; decide +kernel
theorem house_check : (checkW houseT).isNone = true := by decide +kernel

end
end Go.Proofs.YtjmkdimbbacnfaaGreatDoor
