/- Walk: guiselaw1.UtfRange. -/
import Derived.Test.YtkenffbonnbflaaDoorRangeP
namespace Go.Proofs.YtkenffbonnbflaaDoor
open Go.RowKit Go.Shelf
set_option linter.unusedVariables false
attribute [local go_sem] Oper.semAt_some

set_option maxRecDepth 100000 in
set_option maxHeartbeats 8000000 in
theorem rangeU_walk (s : ByteArray) (w : World) (hs : s.size ≤ 1048576) (hT : Lib.Utf8Tabs 0 1 w) :
    Calls Tryd.prog 10 #[.string s] w fun e w' => e = .returned (.bool true) ∧ Below w.heap.size w w' := by
  obtain ⟨i0, hi, hz0, hz1, hz2⟩ := info_parts infoI32
  obtain ⟨j0, hj, hy0, hy1, hy2⟩ := info_parts infoInt
  have hns := nS_le s
  have HF := Lib.hid (fun w hT => alive_yes w hT)
  have HT := Lib.hid hT
  clear hT
  refine calls_of_marks 6 Tryd.func10 rfl ?_
  simp only [Tryd.ntmps10, List.size_toArray, List.length_cons, List.length_nil, Nat.reduceAdd, Nat.reduceSub, Array.replicate_succ, Array.replicate_zero, List.push_toArray, List.append_toArray, List.nil_append, List.cons_append]
  gi_wp2_with (refine ⟨trivial, ?_⟩; gi_at_call 52; refine (callsIn_wide.2 (Spots_val s _)).mono ?_; rintro e w' ⟨rfl, rfl⟩)
  obtain ⟨W0, hW0⟩ : ∃ W0, ((w.alloc (.cells #[.string s] 9)).alloc (.cells #[.bool false] 4)).alloc (.cells #[.string s] 9) = W0 := ⟨_, rfl⟩
  have b0 : Blk W0 w.heap.size 9 #[.string s] := by rw [← hW0]; exact ((Blk.new w _ _).alloc _).alloc _
  have b1 : Blk W0 (w.heap.size + 1) 4 #[.bool false] := by
    rw [← hW0]; have h := (Blk.new (w.alloc (.cells #[.string s] 9)) 4 #[.bool false]).alloc (.cells #[.string s] 9); simp only [World.size_alloc] at h; exact h
  have b2 : Blk W0 (w.heap.size + 1 + 1) 9 #[.string s] := by
    rw [← hW0]; have h := Blk.new ((w.alloc (.cells #[.string s] 9)).alloc (.cells #[.bool false] 4)) 9 #[.string s]; simp only [World.size_alloc] at h; exact h
  have hB0 : Below w.heap.size w W0 := by
    rw [← hW0]; exact (((Below.refl _ w).alloc (Nat.le_refl _) _).alloc (by simp) _).alloc (by simp; omega) _
  rw [hW0]
  clear hW0
  refine ⟨trivial, (callsIn_wide.2 (HF.out _ (Utf8Tabs_below HT.out hB0))).mono ?_⟩
  rintro e W1 ⟨rfl, hb1⟩
  have c0 := b0.below hb1
  have c1 := b1.below hb1
  have c2 := b2.below hb1
  have hB1 : Below w.heap.size w W1 := hB0.trans (hb1.mono hB0.size)
  clear b0 b1 b2 hb1 hB0
  have hs1 := hB1.size
  have q2 := c2.lt
  have H0 := Lib.hid c0
  have H1 := Lib.hid c1
  have H2 := Lib.hid c2
  have HB1 := Lib.hid hB1
  have d0 := c0.cell 0
  simp only [List.getElem?_toArray, List.getElem?_cons_zero] at d0
  clear c0 c1 c2 hB1
  have d0' : ∀ o, (W1.alloc o).cell? ⟨w.heap.size, 0, none⟩ = some (.string s) := fun o => (H0.out.alloc o).cell 0
  have d0'' : ∀ o o', ((W1.alloc o).alloc o').cell? ⟨w.heap.size, 0, none⟩ = some (.string s) := fun o o' => ((H0.out.alloc o).alloc o').cell 0
  have hnn := fun W => seq_ne_nil 88 (w.heap.size + 1 + 1) W
  gi_wp2
  obtain ⟨W2, hW2⟩ : ∃ W2, ((W1.alloc (.cells #[.slice none 0 0] 75)).alloc (.cells #[.slice none 0 0] 37)).iter s 0 = W2 := ⟨_, rfl⟩
  have hRS0 : RS s W1 W1.heap.size W2 0 0 0 (.slice none 0 0) (.slice none 0 0) := by
    rw [← hW2]
    show RS s W1 W1.heap.size (((W1.alloc (.cells #[.slice none 0 0] 75)).alloc (.cells #[.slice none 0 0] 37)).alloc (.stringIter s 0)) 0 0 0 _ _
    refine ⟨((Blk.new W1 _ _).alloc _).alloc _, ?_, World.ownsRow_nil _ _ _ _, World.ownsRow_nil _ _ _ _, ?_, (((Below.refl _ W1).alloc (Nat.le_refl _) _).alloc (by simp) _).alloc (by simp; omega) _⟩
    · have h := (Blk.new (W1.alloc (.cells #[.slice none 0 0] 75)) 37 #[.slice none 0 0]).alloc (.stringIter s 0)
      simp only [World.size_alloc] at h
      exact h
    · rw [bAt_nil]
      have h := World.alloc_heap_new ((W1.alloc (.cells #[.slice none 0 0] 75)).alloc (.cells #[.slice none 0 0] 37)) (.stringIter s 0)
      simp only [World.size_alloc] at h
      exact h
  have HRS0 := Lib.hid hRS0
  clear hRS0 d0 d0' d0'' hnn
  gi_loopw [6] (fun _ wr => ∃ (k : Nat) (v1 v2 : Value), k ≤ nS s ∧ Hid (RS s W1 W1.heap.size wr k k k v1 v2)) (fun _ wr => s.size - wr.iterPos (W1.heap.size + 1 + 1))
  case atStart => exact ⟨0, _, _, Nat.zero_le _, by rw [hW2]; exact HRS0⟩
  case round =>
    obtain ⟨k, v1, v2, hk, hR⟩ := hrel
    clear HRS0 hW2
    have hit := hR.out.it
    by_cases hlt : k < nS s
    · obtain ⟨hd, hp, hnx1, hlt2, hbad⟩ := spA_dec s k hlt
      have hdec : Utf8.decode s (bAt s k) = ((spA s k).r, (spA s k).n) := by rw [← Lib.decodeL_drop]; exact hd
      have hnx := fun ty => Lib.run_next_any_at (P := Tryd.prog) wr (W1.heap.size + 1 + 1) s (bAt s k) ty hit hlt2
      simp only [hdec, hnx1] at hnx
      have hR1 := Lib.hid (hR.out.next (k + 1))
      have Hm : Hid (wr.iterPos (W1.heap.size + 1 + 1) = bAt s k ∧ bAt s k < bAt s (k + 1) ∧ bAt s (k + 1) ≤ s.size) := Lib.hid ⟨by simp only [World.iterPos, hit], bAt_lt s k (k + 1) (by omega) (by omega), bAt_le s (k + 1)⟩
      generalize wr.iterAt (W1.heap.size + 1 + 1) s (bAt s (k + 1)) = w3 at *
      have p1 := hR1.out.p.cell 0
      have f1 := hR1.out.p.frozen 0
      have p2 := hR1.out.q.cell 0
      have f2 := hR1.out.q.frozen 0
      simp only [List.getElem?_toArray, List.getElem?_cons_zero] at p1 p2
      have h5 := hR1.out.lt
      clear hdec hit hd hp hbad
      have z1 := Lib.hid (plcs_succ s k)
      have z2 := Lib.hid (rnes_succ s k)
      gi_wp2_with (first
        | (gi_at_builtin; refine wpListIn_append_own _ rfl _ _ 75 rfl W1.heap.size 3 j0 _ 1 8 Tryd.underlying75 hj hy0 hy1 hy2 rfl (by decide) v1 k _ rfl (hR1.out.o1.alloc _) ⟨w3.heap.size, 0, none⟩ 1 1 [.int .i64 (bAt s k : Int)] rfl rfl (cells_new _ [_] _ _ rfl) (by simp [Value.oneCell']) (by unfold maxLen; omega) (by omega) (by simp; omega) ?_; intro v1' w4 hown1 hgrow1 _; obtain ⟨g1, cap1, rfl⟩ := ownsRow_succ hown1; have R2 := Lib.hid (hR1.out.more1 hgrow1 (by rw [← z1.out]; exact hown1)); have x1 := (hR1.out.cells1 hgrow1).cell 0; have xf := (hR1.out.cells1 hgrow1).frozen 0; have x2 := R2.out.q.cell 0; have xf2 := R2.out.q.frozen 0; simp only [List.getElem?_toArray, List.getElem?_cons_zero] at x1 x2)
        | (gi_at_builtin; refine wpListIn_append_own _ rfl _ _ 37 rfl W1.heap.size 21 i0 _ 1 4 Tryd.underlying37 hi hz0 hz1 hz2 rfl (by decide) v2 k _ rfl (R2.out.o2.alloc _) ⟨w4.heap.size, 0, none⟩ 1 1 [.int .i32 ((spA s k).r : Int)] rfl rfl (cells_new _ [_] _ _ (by simp)) (by simp [Value.oneCell']) (by unfold maxLen; omega) (by omega) (by have := R2.out.lt; simp at this ⊢; omega) ?_; intro v2' w5 hown2 hgrow2 _; obtain ⟨g2, cap2, rfl⟩ := ownsRow_succ hown2; have R3 := Lib.hid (R2.out.more2 hgrow2 (by rw [← z2.out]; exact hown2)); have y1 := (R2.out.cells2 hgrow2).cell 0; have yf := (R2.out.cells2 hgrow2).frozen 0; simp only [List.getElem?_toArray, List.getElem?_cons_zero] at y1))
      go_roundw
      case rel => exact ⟨k + 1, _, _, by omega, R3⟩
      case measure =>
        have h3 : (w5.setCell ⟨W1.heap.size + 1, 0, none⟩ (.slice (some ⟨g2, 0, none⟩) (k + 1) cap2)).iterPos (W1.heap.size + 1 + 1) = bAt s (k + 1) := by simp only [World.iterPos, R3.out.it]
        rw [h3, Hm.out.1]
        have := Hm.out
        omega
    · obtain rfl : k = nS s := by omega
      have hnx := fun ty => Lib.run_next_end_at (P := Tryd.prog) wr (W1.heap.size + 1 + 1) s (bAt s (nS s)) ty hit (by rw [bAt_end]; omega)
      gi_wp2
      obtain ⟨A1, d1, rfl, hr1⟩ := own_rowB hR.out.o1 (fun j hj => plcs_get s (nS s) j hj)
      obtain ⟨A2, d2, rfl, hr2⟩ := own_rowB hR.out.o2 (fun j hj => rnes_get s (nS s) j hj)
      have h5 := hR.out.lt
      have hI0 : RI s w W1.heap.size wr.heap.size A1 d1 A2 d2 0 (wr.alloc (.cells #[.int .i64 0] 3)) :=
        ⟨(H0.out.below hR.out.below).alloc _, (H1.out.below hR.out.below).alloc _, hR.out.p.alloc _, hR.out.q.alloc _, Blk.new wr _ _, hr1.of (fun g cur _ hB => hB.alloc _), hr2.of (fun g cur _ hB => hB.alloc _), (HB1.out.trans (hR.out.below.mono hs1)).alloc (by omega) _, by have := H1.out.lt; have := H2.out.lt; omega⟩
      have hb2 : Blk (wr.alloc (.cells #[.int .i64 0] 3)) (w.heap.size + 1 + 1) 9 #[.string s] := (H2.out.below hR.out.below).alloc _
      have hfar := hI0.far
      have hq2 := H2.out.lt
      obtain ⟨WS, hWS⟩ : ∃ WS, wr.alloc (.cells #[.int .i64 0] 3) = WS := ⟨_, rfl⟩
      have hsz : WS.heap.size = wr.heap.size + 1 := by rw [← hWS]; simp
      rw [hWS] at hI0 hb2 ⊢
      clear hnx hit hr1 hr2 hWS
      refine wpIn_rangeFunc_ownH rfl (by omega) (gf := 88) (lb := #[.pointer (some ⟨w.heap.size + 1 + 1, 0, none⟩)]) rfl trivial (enters_of Tryd.func88 (by kernel_rfl) rfl)
        (spots_stops s (w.heap.size + 1 + 1) (fun k => k = w.heap.size + 1 ∨ k = wr.heap.size) (by show ¬ (_ = _ ∨ _ = _); omega) WS hb2 (6 - 1) (by omega)) (fun h k => h.trans k) keeps_b (Below.refl _ _) (fun _ => rfl)
        (fun pre W => RI s w W1.heap.size wr.heap.size A1 d1 A2 d2 (pre.length : Int) W) (fun c pre W => c = .ret ∧ ∃ p0 x, pre = p0 ++ [x] ∧ x.val ≠ p0.length)
        (RI.own s w _ _ _ _ _ _ _ (by omega)) (fun _ => ownFrom_pure _ _) hI0
        (fun x a' W => ∃ Bx, wr.heap.size < Bx ∧ Blk W Bx 25 #[.int .i32 ((spA s x.val).r : Int), .int .i64 ((spA s x.val).n : Int), .bool (spA s x.val).bad] ∧ a' = { tmps := #[Value.string s, Value.pointer (some ⟨w.heap.size, 0, none⟩), Value.pointer (some ⟨w.heap.size + 1, 0, none⟩), Value.func (.func 88) #[] #[.pointer (some ⟨w.heap.size + 1 + 1, 0, none⟩)], Value.pointer (some ⟨W1.heap.size, 0, none⟩), Value.pointer (some ⟨W1.heap.size + 1, 0, none⟩), u6, u7, Value.pointer (some ⟨wr.heap.size, 0, none⟩), Value.int .i64 (bAt s x.val : Int), Value.pointer (some ⟨Bx, 0, none⟩), undef, Value.string s, Value.func (.func 88) #[] #[.pointer (some ⟨w.heap.size + 1 + 1, 0, none⟩)], Value.bool true, Value.bool false, Value.bool false, Value.func (.func 88) #[] #[.pointer (some ⟨w.heap.size + 1 + 1, 0, none⟩)], Value.bool false, Value.bool false, Value.string s, Value.pointer (some ⟨W1.heap.size + 1 + 1, 0, none⟩), Value.tuple #[Value.bool false], Value.bool false, u24, u25, u26, u27, u28, u29, u30, u31, u32, u33, Value.func (.func 88) #[] #[.pointer (some ⟨w.heap.size + 1 + 1, 0, none⟩)], Value.int .i64 (bAt s x.val : Int), Value.agg #[.int .i32 ((spA s x.val).r : Int), .int .i64 ((spA s x.val).n : Int), .bool (spA s x.val).bad], undef, undef, undef, undef, undef, undef, undef, undef, undef, undef, undef, undef, undef, undef, undef, undef, undef, undef, undef, undef, undef, undef, undef, undef, undef, undef, undef, undef, undef, undef, undef, undef, undef, undef, undef, undef, undef, undef, undef, undef, undef, undef, undef, undef, undef, undef, undef, undef, undef, undef, undef, undef, undef, undef, undef, undef, undef, undef], defers := [] })
        (fun x a' _ X Y row hs hg hr => by obtain ⟨Bx, h1, h2, h3⟩ := hs; exact ⟨Bx, h1, blk_own h2 hg hr, h3⟩)
        ?assign ?body ?done ?stop
      case assign =>
        rintro l pre x W K hI hK
        have hlt := hI.n.lt
        gi_wp2
        exact hK _ _ ((KeepsOthers.alloc _ _).from _) (Keeps.below ((Below.refl _ W).alloc (Nat.le_refl _) _)) (hI.step ((Below.refl _ W).alloc (Nat.le_refl _) _)) ⟨W.heap.size, hlt, Blk.new W _ _, rfl⟩
      case body =>
        rintro l pre x a' W hl ⟨r, hr⟩ hI ⟨Bx, hBx, bX, rfl⟩ hlt
        clear hsz
        obtain ⟨g1, cur1, e1, l1, bg1, hc1⟩ := hI.r1 (by omega)
        obtain ⟨g2, cur2, e2, l2, bg2, hc2⟩ := hI.r2 (by omega)
        have n0 := hI.n.cell 0
        have p0 := hI.p.cell 0
        have q0 := hI.q.cell 0
        have x0 := bX.cell 0
        rw [e1] at p0
        rw [e2] at q0
        simp only [List.getElem?_toArray, List.getElem?_cons_zero] at n0 p0 q0 x0
        have a1 := (bg1.cell pre.length).trans (hc1 pre.length hlt)
        have a2 := (bg2.cell pre.length).trans (hc2 pre.length hlt)
        have qN := hI.n.lt
        have qP := hI.p.lt
        have qQ := hI.q.lt
        have qX := bX.lt
        have qG1 := bg1.lt
        have qG2 := bg2.lt
        have t0 : decide ((nS s : Int) ≤ (pre.length : Int)) = false := by rw [decide_eq_false_iff_not]; omega
        have t0' : decide (nS s ≤ pre.length) = false := by rw [decide_eq_false_iff_not]; omega
        have k0 : (0 : Int) ≤ (pre.length : Int) := by omega
        have k1 : (pre.length : Int) < (nS s : Int) := by omega
        have hpl : (pre.length : Int) < 9223372036854775807 := by omega
        have HI := Lib.hid hI
        have HbX := Lib.hid bX
        have Hc1 := Lib.hid hc1
        have Hbg1 := Lib.hid bg1
        clear hI bX hc1 hc2 bg1 bg2 e2
        by_cases hx : x.val = pre.length
        · obtain ⟨hd, hp, hnx1, hlt2, hbad⟩ := spA_dec s x.val x.isLt
          have t1 : ((bAt s x.val : Int) != (bAt s pre.length : Int)) = false := by rw [hx]; simp
          have t2 : (((spA s x.val).r : Int) != ((spA s pre.length).r : Int)) = false := by rw [hx]; simp
          have hb : ∃ b1 b2 : Bool, (((spA s x.val).r : Int) == 65533) = b1 ∧ (((spA s x.val).n : Int) == 1) = b2 ∧ (spA s x.val).bad = (b1 && b2) := by
            refine ⟨_, _, rfl, rfl, ?_⟩
            rw [hbad]
            unfold isBad
            congr 1
            · rw [Bool.eq_iff_iff, beq_iff_eq, beq_iff_eq]; dsimp only; omega
            · rw [Bool.eq_iff_iff, beq_iff_eq, beq_iff_eq]; dsimp only; omega
          obtain ⟨b1, b2, z1, z2, z3⟩ := hb
          have Hn1 : Hid ((bAt s x.val + (spA s x.val).n = bAt s (pre.length + 1))) := Lib.hid (by rw [hnx1, hx])
          have R0 : Hid (∀ W', Below W.heap.size W W' → RI s w W1.heap.size wr.heap.size A1 d1 A2 d2 (pre.length : Int) W' ∧ Blk W' Bx 25 #[.int .i32 ((spA s x.val).r : Int), .int .i64 ((spA s x.val).n : Int), .bool (spA s x.val).bad] ∧ Blk W' g1 3 cur1) := Lib.hid (fun W' hb => ⟨HI.out.step hb, HbX.out.below hb, Hbg1.out.below hb⟩)
          have E1 := Lib.hid e1
          clear hd hp hnx1 hlt2 hbad e1 hx
          gi_wp2_with fail
          refine wpIn_round_below (by kernel_rfl) (by kernel_rfl) (by kernel_rfl) ?_
          repeat (first
            | gi_big_quiet_skip
            | (gi_big_quiet_want; gi_big_quiet_op; first
                | go_big_quiet_on
                | (refine ⟨_, fun _ _ => rfl, ?_⟩; go_big_quiet_on)
                | (apply Exists.intro
                   refine ⟨fun w0 hC0 => ?_, ?_⟩
                   · (have n0 := (hC0.cell (p := ⟨wr.heap.size, 0, none⟩) qN).trans n0
                      have p0 := (hC0.cell (p := ⟨W1.heap.size, 0, none⟩) qP).trans p0
                      have q0 := (hC0.cell (p := ⟨W1.heap.size + 1, 0, none⟩) qQ).trans q0
                      have x0 := (hC0.cell (p := ⟨Bx, 0, none⟩) qX).trans x0
                      have a1 := (hC0.cell (p := ⟨g1, pre.length, none⟩) qG1).trans a1
                      have a2 := (hC0.cell (p := ⟨g2, pre.length, none⟩) qG2).trans a2
                      go_simp
                      rfl)
                   go_big_quiet_on)))
          refine wpQuietIn_nil ?_
          intro w8 hb8
          obtain ⟨hI8, hX8, hG8⟩ := R0.out w8 hb8
          have s0 := hI8.str.cell 0
          have n0 := hI8.n.cell 0
          have nf := hI8.n.frozen 0
          have p0 := hI8.p.cell 0
          rw [E1.out] at p0
          have x0 := hX8.cell 0
          have x1 := hX8.cell 1
          have x2 := hX8.cell 2
          simp only [List.getElem?_toArray, List.getElem?_cons_succ, List.getElem?_cons_zero] at s0 n0 p0 x0 x1 x2
          have HI8 := Lib.hid hI8
          have Hb8 := Lib.hid hb8
          rw [z3] at x2
          have hfin : ∀ (m : Int), m = ((pre ++ [x]).length : Int) → KeepsFrom WS.heap.size W (w8.setCell ⟨wr.heap.size, 0, none⟩ (.int .i64 m)) ∧ Keeps (fun k => k = w.heap.size + 1 ∨ k = wr.heap.size) W (w8.setCell ⟨wr.heap.size, 0, none⟩ (.int .i64 m)) ∧ RI s w W1.heap.size wr.heap.size A1 d1 A2 d2 ((pre ++ [x]).length : Int) (w8.setCell ⟨wr.heap.size, 0, none⟩ (.int .i64 m)) := by
            rintro m rfl
            exact ⟨(keepsFrom_below Hb8.out).trans (keepsFrom_set _ _ _ _), (Keeps.below Hb8.out).trans (Keeps.setCell _ _ _ _ (.inr rfl)), HI8.out.bump _⟩
          have Hfin := Lib.hid hfin
          clear hI8 hX8 hb8 hfin a1 a2 q0 R0
          have kb1 : bAt s (pre.length + 1) ≤ 1048576 := Nat.le_trans (bAt_le s _) hs
          have kb2 : bAt s x.val ≤ 1048576 := Nat.le_trans (bAt_le s _) hs
          by_cases hk2 : pre.length + 1 < nS s
          · have a1 : w8.cell? ⟨g1, pre.length + 1, none⟩ = some (.int .i64 (bAt s (pre.length + 1) : Int)) := (hG8.cell (pre.length + 1)).trans (Hc1.out _ hk2)
            have t5 : decide ((pre.length : Int) + 1 < (nS s : Int)) = true := by rw [decide_eq_true_iff]; omega
            have t6 : (((spA s x.val).n : Int) != (bAt s (pre.length + 1) : Int) - (bAt s x.val : Int)) = false := by rw [bne_eq_false_iff_eq]; have := Hn1.out; omega
            have t7 : (((spA s x.val).n : Int) == (bAt s (pre.length + 1) : Int) - (bAt s x.val : Int)) = true := by rw [beq_iff_eq]; have := Hn1.out; omega
            have k2 : (0 : Int) ≤ (pre.length : Int) + 1 := by omega
            have k3 : (pre.length : Int) + 1 < (nS s : Int) := by omega
            clear hG8
            cases b1 <;> cases b2
            all_goals
              gi_wp2
              exact Hfin.out ((pre.length : Int) + 1) (by simp)
          · have t5 : decide ((pre.length : Int) + 1 < (nS s : Int)) = false := by rw [decide_eq_false_iff_not]; omega
            have hend : bAt s (pre.length + 1) = s.size := by rw [show pre.length + 1 = nS s by omega]; exact bAt_end s
            have t6 : (((spA s x.val).n : Int) != (s.size : Int) - (bAt s x.val : Int)) = false := by rw [bne_eq_false_iff_eq]; have := Hn1.out; omega
            have t7 : (((spA s x.val).n : Int) == (s.size : Int) - (bAt s x.val : Int)) = true := by rw [beq_iff_eq]; have := Hn1.out; omega
            have k3 : ¬ ((pre.length : Int) + 1 < (nS s : Int)) := by omega
            clear hG8 hend
            cases b1 <;> cases b2
            all_goals
              gi_wp2
              exact Hfin.out ((pre.length : Int) + 1) (by simp)
        · have hne : ¬ bAt s x.val = bAt s pre.length := fun h => by
            rcases Nat.lt_or_gt_of_ne hx with c | c
            · have := bAt_lt s x.val pre.length c (by omega); omega
            · have := bAt_lt s pre.length x.val c (by omega); omega
          have t1 : ((bAt s x.val : Int) == (bAt s pre.length : Int)) = false := by rw [beq_eq_false_iff_ne]; omega
          have t1' : ((bAt s x.val : Int) != (bAt s pre.length : Int)) = true := by rw [bne_iff_ne]; omega
          have r0 : ∀ W', Below W.heap.size W W' → W'.cell? ⟨w.heap.size + 1, 0, none⟩ = some (.bool false) ∧ W'.frozen? ⟨w.heap.size + 1, 0, none⟩ = false := fun W' hb => ⟨(HI.out.res.below hb).cell 0, (HI.out.res.below hb).frozen 0⟩
          have R0 := Lib.hid r0
          clear r0 hne
          gi_wp2_with fail
          refine wpIn_round_below (by kernel_rfl) (by kernel_rfl) (by kernel_rfl) ?_
          repeat (first
            | gi_big_quiet_skip
            | (gi_big_quiet_want; gi_big_quiet_op; first
                | go_big_quiet_on
                | (refine ⟨_, fun _ _ => rfl, ?_⟩; go_big_quiet_on)
                | (apply Exists.intro
                   refine ⟨fun w0 hC0 => ?_, ?_⟩
                   · (have n0 := (hC0.cell (p := ⟨wr.heap.size, 0, none⟩) qN).trans n0
                      have p0 := (hC0.cell (p := ⟨W1.heap.size, 0, none⟩) qP).trans p0
                      have q0 := (hC0.cell (p := ⟨W1.heap.size + 1, 0, none⟩) qQ).trans q0
                      have x0 := (hC0.cell (p := ⟨Bx, 0, none⟩) qX).trans x0
                      have a1 := (hC0.cell (p := ⟨g1, pre.length, none⟩) qG1).trans a1
                      have a2 := (hC0.cell (p := ⟨g2, pre.length, none⟩) qG2).trans a2
                      go_simp
                      rfl)
                   go_big_quiet_on)))
          refine wpQuietIn_nil ?_
          intro w8 hb8
          obtain ⟨rc, rf⟩ := R0.out w8 hb8
          gi_wp2
          exact ⟨(keepsFrom_below hb8).trans (keepsFrom_set _ _ _ _), rfl, pre, x, rfl, hx⟩
      case done =>
        rintro D ys W hD rfl hI hK
        have hlen : (List.finRange (nS s)).length = nS s := by simp
        rw [hlen] at hI
        have n0 := hI.n.cell 0
        have p0 := hI.p.cell 0
        have r0 := hI.res.cell 0
        have rf := hI.res.frozen 0
        simp only [List.getElem?_toArray, List.getElem?_cons_zero] at n0 p0 r0
        have t0 : ((nS s : Int) == (nS s : Int)) = true := by rw [beq_iff_eq]
        gi_wp2
        have hK' := (Below.heap_setCell W ⟨w.heap.size + 1, 0, none⟩ (.bool true) D (show D ≠ w.heap.size + 1 by omega)).trans hK
        have hB3 := hI.below.setCell (p := ⟨w.heap.size + 1, 0, none⟩) (show w.heap.size ≤ w.heap.size + 1 by omega) (.bool true)
        have e1 := (hI.res.set_ 0 (.bool true))
        have g0 := (e1.of (World.putObj_heap_other (o := .deferred none) (show w.heap.size + 1 ≠ D by omega))).cell 0
        simp at g0
        refine ⟨by simp, .inl ⟨_, _, rfl, run_takeDeferred hK', ?_⟩⟩
        refine ⟨.bool true, ?_, rfl, hB3.trans (belowK_b (w := w) (Nat.le_refl _) _ D _ _ (by omega) hK' rfl rfl)⟩
        simp [results, Tryd.results10, go_sem, g0]
      case stop =>
        rintro D c pre W hD ⟨k, hk, hpre⟩ ⟨rfl, p0, i, rfl, hne⟩ hK
        obtain ⟨h1, h2, h3⟩ := firstK_last hk hpre
        exact absurd h1 hne
end Go.Proofs.YtkenffbonnbflaaDoor
