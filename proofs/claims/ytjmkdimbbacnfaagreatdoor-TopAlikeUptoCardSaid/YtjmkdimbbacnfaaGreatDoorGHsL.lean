/- norm.First where the text is normal. script.meet where the second list is [0]. slices.Clone, script.meet. Book.Names, script.all. script.bound, script.Stop. -/
import Derived.Test.YtjmkdimbbacnfaaGreatDoorGHsQ
namespace Go.Proofs.YtjmkdimbbacnfaaGreatDoor
section
open Go.RowKit Go.Shelf
set_option linter.unusedVariables false
attribute [local go_sem] Oper.semAt_some
def NfI (s : ByteArray) (w : World) (N : Nat) (pre : List (Fin (nS s))) (W : World) : Prop :=
  Blk W w.heap.size 9 #[.string s] ∧ Blk W (w.heap.size + 1) 82 #[.int .i64 0, .int .i64 0] ∧ Blk W (w.heap.size + 1 + 1) 4 #[.bool false] ∧ Blk W N 9 #[.string s] ∧ Blk W (N + 1) 3 #[.int .i64 (pre.length : Int)] ∧ Below w.heap.size w W
set_option maxRecDepth 100000 in
set_option maxHeartbeats 4000000 in
theorem norm_First (s : ByteArray) {w : World} {b : Nat} {T : Tab} (hs : s.size ≤ 10) (hK : Bk w b T) (hR : RightT T) (hn : normS T s = s) (hbad : ∀ k, k < nS s → (spA s k).bad = false) :
    Calls Tryz.prog 167 #[.pointer (some ⟨b, 0, none⟩), .string s] w fun e w' => e = .returned (.tuple #[.agg #[.int .i64 0, .int .i64 0], .bool false]) ∧ Below w.heap.size w w' := by
  have hns := nS_le s
  have HN : Hid (∀ W, Below w.heap.size w W → Calls Tryz.prog 15 #[.pointer (some ⟨b, 0, none⟩), .string s] W fun e w' => e = .returned (.string s) ∧ Below W.heap.size W w') := Lib.hid (fun W hW => by
    have h := norm_Norm (hK.below hW) hR s hs
    rw [hn] at h
    exact h)
  have Hbad := Lib.hid hbad
  clear hK hR hn hbad
  refine calls_of_marks 6 Tryz.func167 rfl ?_
  simp only [Tryz.ntmps167, List.size_toArray, List.length_cons, List.length_nil, Nat.reduceAdd, Nat.reduceSub, Array.replicate_succ, Array.replicate_zero, List.push_toArray, List.append_toArray, List.nil_append, List.cons_append]
  gi_wp2_with (first
    | (refine ⟨trivial, ?_⟩; gi_at_call 106; refine (callsIn_wide.2 (Spots_val s _)).mono ?_; rintro e w' ⟨rfl, rfl⟩)
    | (refine ⟨trivial, ?_⟩; gi_at_call 15; refine (callsIn_wide.2 (HN.out _ ((((Below.refl _ w).alloc (Nat.le_refl _) _).alloc (by simp) _).alloc (by simp; omega) _))).mono ?_; rintro e W1 ⟨rfl, h1⟩; have a0 := (((Blk.new w 9 #[.string s]).alloc (.cells #[.int .i64 0, .int .i64 0] 82)).alloc (.cells #[.bool false] 4)).below h1; have a1 := ((Blk.new (w.alloc (.cells #[.string s] 9)) 82 #[.int .i64 0, .int .i64 0]).alloc (.cells #[.bool false] 4)).below h1; have a2 := (Blk.new ((w.alloc (.cells #[.string s] 9)).alloc (.cells #[.int .i64 0, .int .i64 0] 82)) 4 #[.bool false]).below h1; have hB1 := ((((Below.refl _ w).alloc (Nat.le_refl _) _).alloc (by simp) _).alloc (by simp; omega) _).trans (h1.mono (by simp; omega)); simp only [World.size_alloc] at a1 a2; have a0c := ((a0.alloc (.cells #[.string s] 9)).alloc (.cells #[.int .i64 0] 3)).cell 0; simp only [List.getElem?_toArray, List.getElem?_cons_zero] at a0c; clear h1))
  obtain ⟨N, hN⟩ : ∃ N, W1.heap.size = N := ⟨_, rfl⟩
  have hHN : w.heap.size + 2 < N := by rw [← hN]; exact a2.lt
  obtain ⟨W0, hW0⟩ : ∃ W0, (((W1.alloc (.cells #[.string s] 9)).alloc (.cells #[.int .i64 0] 3)).alloc (.cells #[.string s] 9)) = W0 := ⟨_, rfl⟩
  have b0 : Blk W0 w.heap.size 9 #[.string s] := by rw [← hW0]; exact ((a0.alloc _).alloc _).alloc _
  have b1 : Blk W0 (w.heap.size + 1) 82 #[.int .i64 0, .int .i64 0] := by rw [← hW0]; exact ((a1.alloc _).alloc _).alloc _
  have b2 : Blk W0 (w.heap.size + 1 + 1) 4 #[.bool false] := by rw [← hW0]; exact ((a2.alloc _).alloc _).alloc _
  have b3 : Blk W0 N 9 #[.string s] := by rw [← hW0, ← hN]; exact ((Blk.new W1 _ _).alloc _).alloc _
  have b4 : Blk W0 (N + 1) 3 #[.int .i64 0] := by rw [← hW0, ← hN]; have h := (Blk.new (W1.alloc (.cells #[.string s] 9)) 3 #[.int .i64 0]).alloc (.cells #[.string s] 9); simp only [World.size_alloc] at h; exact h
  have b5 : Blk W0 (N + 1 + 1) 9 #[.string s] := by rw [← hW0, ← hN]; have h := Blk.new ((W1.alloc (.cells #[.string s] 9)).alloc (.cells #[.int .i64 0] 3)) 9 #[.string s]; simp only [World.size_alloc] at h; exact h
  have hB0 : Below w.heap.size w W0 := by rw [← hW0]; exact ((hB1.alloc (by omega) _).alloc (by simp; omega) _).alloc (by simp; omega) _
  have hsz : W0.heap.size = N + 3 := by rw [← hW0, ← hN]; simp
  rw [hW0, hN]
  clear hW0 a0 a1 a2 a0c hB1 HN
  refine wpIn_rangeFunc_ownM rfl (by omega) (gf := 147) (lb := #[.pointer (some ⟨N + 1 + 1, 0, none⟩)]) rfl trivial (enters_of Tryz.func147 (by kernel_rfl) rfl)
    (z := w.heap.size) (A := fun k => k = N + 1) (by omega) (fun k hk => by omega)
    (spots_B s w.heap.size (N + 1 + 1) (fun k => k = N + 1) (by show ¬ _ = _; omega) W0 (fun k hk => by omega) b5 (6 - 1) (by omega)) (Below.refl _ _) (fun _ => rfl)
    (NfI s w N) (fun c pre X => False)
    (fun pre X Y h hb => ⟨h.1.of (hb.below.block _ (by omega)), h.2.1.of (hb.below.block _ (by omega)), h.2.2.1.of (hb.below.block _ (by omega)), h.2.2.2.1.of (hb.below.block _ (by omega)), h.2.2.2.2.1.of (hb.below.block _ (by omega)), h.2.2.2.2.2.trans (hb.below.mono (by omega))⟩) (fun c pre X Y h hb => h.elim) ⟨b0, b1, b2, b3, b4, hB0⟩
    (fun x a' X => ∃ Bx, N + 3 ≤ Bx ∧ Blk X Bx 149 #[.int .i32 ((spA s x.val).r : Int), .int .i64 ((spA s x.val).n : Int), .bool (spA s x.val).bad] ∧ a' = { tmps := #[.pointer (some ⟨b, 0, none⟩), .string s, undef, .pointer (some ⟨w.heap.size, 0, none⟩), .pointer (some ⟨w.heap.size + 1, 0, none⟩), .pointer (some ⟨w.heap.size + 1 + 1, 0, none⟩), .pointer (some ⟨N, 0, none⟩), .pointer (some ⟨N + 1, 0, none⟩), .int .i64 (bAt s x.val : Int), .pointer (some ⟨Bx, 0, none⟩), undef, .pointer (some ⟨b, 0, none⟩), .bool false, undef, .pointer (some ⟨b, 0, none⟩), .string s, .string s, .string s, .func (.func 147) #[] #[.pointer (some ⟨N + 1 + 1, 0, none⟩)], .int .i64 (bAt s x.val : Int), .agg #[.int .i32 ((spA s x.val).r : Int), .int .i64 ((spA s x.val).n : Int), .bool (spA s x.val).bad], undef, undef, undef, undef, undef, undef, undef, undef, undef, undef, undef, undef, undef, undef, undef, undef, undef, undef, undef, undef, undef, undef, undef, undef, undef, undef, undef, undef, undef], defers := [] })
    (fun x a' _ X Y row hs hg hr => by obtain ⟨Bx, h1, h2, h3⟩ := hs; exact ⟨Bx, h1, blk_own h2 hg hr, h3⟩)
    ?assign ?body ?done ?stop
  case assign =>
    rintro l2 pre x X K ⟨c0, c1, c2, c3, c4, hB⟩ hM hz9 hK9
    gi_wp2
    exact hK9 _ _ (Only.alloc X _ (by omega)) ⟨c0.alloc _, c1.alloc _, c2.alloc _, c3.alloc _, c4.alloc _, hB.alloc (by omega) _⟩ ⟨X.heap.size, by omega, Blk.new X _ _, rfl⟩
  case body =>
    rintro l2 pre x a' X hl2 - ⟨c0, c1, c2, c3, c4, hB⟩ ⟨Bx, hBx, bX, rfl⟩ hsp hlt
    have e0 := c0.cell 0
    have e3 := c3.cell 0
    have x1 := bX.cell 1
    have x2 := bX.cell 2
    have hbd := Hbad.out x.val x.isLt
    rw [hbd] at x2
    obtain ⟨-, -, hpq, hps, -⟩ := spA_dec s x.val x.isLt
    have hqs := bAt_le s (x.val + 1)
    obtain ⟨p, hp⟩ : ∃ p, bAt s x.val = p := ⟨_, rfl⟩
    obtain ⟨m, hm⟩ : ∃ m, (spA s x.val).n = m := ⟨_, rfl⟩
    rw [hp] at hpq hps ⊢
    rw [hm] at hpq x1 ⊢
    have hpm : p + m ≤ s.size := by omega
    have i1 : (p : Int) + (m : Int) ≤ (s.size : Int) := by omega
    have i2 : decide ((s.size : Int) < (p : Int) + (m : Int)) = false := decide_eq_false (by omega)
    have i3 : (p : Int) ≤ (p : Int) + (m : Int) := by omega
    have i4 : (0 : Int) ≤ (p : Int) + (m : Int) := by omega
    simp only [List.getElem?_toArray, List.getElem?_cons_succ, List.getElem?_cons_zero] at e0 e3 x1 x2
    have q0 := c0.lt
    have q3 := c3.lt
    have qX := bX.lt
    clear hsp hpq hqs hp hm hbd
    gi_wp2_with fail
    refine wpIn_round_below (by kernel_rfl) (by kernel_rfl) (by kernel_rfl) ?_
    repeat (first
      | gi_big_quiet_skip
      | (gi_big_quiet_want; gi_big_quiet_op; first
          | go_big_quiet_on
          | (refine ⟨_, fun _ _ => rfl, ?_⟩; go_big_quiet_on)
          | (apply Exists.intro
             refine ⟨fun w0 hC0 => ?_, ?_⟩
             · (have e0 := (hC0.cell (p := ⟨w.heap.size, 0, none⟩) q0).trans e0
                have e3 := (hC0.cell (p := ⟨N, 0, none⟩) q3).trans e3
                have x2 := (hC0.cell (p := ⟨Bx, 2, none⟩) qX).trans x2
                go_simp
                rfl)
             go_big_quiet_on)))
    refine wpQuietIn_nil ?_
    intro w8 hb8
    have c0' := c0.below hb8
    have c1' := c1.below hb8
    have c2' := c2.below hb8
    have c3' := c3.below hb8
    have c4' := c4.below hb8
    have hB' := hB.trans (hb8.mono hB.size)
    have HO : Hid (Only w.heap.size (fun k => k = N + 1) X w8) := Lib.hid (Only.new hb8 hB.size)
    have d4 := c4'.cell 0
    have f4 := c4'.frozen 0
    simp only [List.getElem?_toArray, List.getElem?_cons_zero] at d4
    have hpl : (pre.length : Int) < 9223372036854775807 := by omega
    clear e0 e3 x1 x2 i1 i2 i3 i4 hpm hps hb8
    gi_wp2
    refine ⟨HO.out.trans (Only.setCell _ _ _ _ (by omega) rfl), c0'.of (Below.heap_setCell _ _ _ _ (by simp; omega)), c1'.of (Below.heap_setCell _ _ _ _ (by simp; omega)), c2'.of (Below.heap_setCell _ _ _ _ (by simp; omega)), c3'.of (Below.heap_setCell _ _ _ _ (by simp)), ?_, hB'.setCell (by show w.heap.size ≤ N + 1; omega) _⟩
    rw [show ((pre ++ [x]).length : Int) = (pre.length : Int) + 1 by simp]
    exact c4'.set_ 0 _
  case done =>
    rintro D ys V hD hys9 ⟨c0, c1, c2, c3, c4, hB⟩ hK
    have d0 := c1.cell 0
    have d1 := c1.cell 1
    have f0 := c1.frozen 0
    have f1 := c1.frozen 1
    have db := c2.cell 0
    have fb := c2.frozen 0
    simp only [List.getElem?_toArray, List.getElem?_cons_succ, List.getElem?_cons_zero] at d0 d1 db
    gi_wp2
    have e0 := ((c1.set_ 0 (.int .i64 0)).set_ 1 (.int .i64 0)).of (Below.heap_setCell _ ⟨w.heap.size + 1 + 1, 0, none⟩ (.bool false) (w.heap.size + 1) (by simp))
    have e1 := ((c2.of (Below.heap_setCell V ⟨w.heap.size + 1, 0, none⟩ (.int .i64 0) (w.heap.size + 1 + 1) (by simp))).of (Below.heap_setCell _ ⟨w.heap.size + 1, 1, none⟩ (.int .i64 0) (w.heap.size + 1 + 1) (by simp))).set_ 0 (.bool false)
    have hK' := (Below.heap_setCell _ ⟨w.heap.size + 1 + 1, 0, none⟩ (.bool false) D (by simp; omega)).trans ((Below.heap_setCell _ ⟨w.heap.size + 1, 1, none⟩ (.int .i64 0) D (by simp; omega)).trans ((Below.heap_setCell V ⟨w.heap.size + 1, 0, none⟩ (.int .i64 0) D (by simp; omega)).trans hK))
    have hB3 := ((hB.setCell (p := ⟨w.heap.size + 1, 0, none⟩) (by simp) (.int .i64 0)).setCell (p := ⟨w.heap.size + 1, 1, none⟩) (by simp) (.int .i64 0)).setCell (p := ⟨w.heap.size + 1 + 1, 0, none⟩) (by show w.heap.size ≤ w.heap.size + 1 + 1; omega) (.bool false)
    refine ⟨by simp, .inl ⟨_, _, rfl, run_takeDeferred hK', ?_⟩⟩
    have g0 := (e0.of (World.putObj_heap_other (o := .deferred none) (show w.heap.size + 1 ≠ D by omega))).cell 0
    have g1 := (e0.of (World.putObj_heap_other (o := .deferred none) (show w.heap.size + 1 ≠ D by omega))).cell 1
    have g2 := (e1.of (World.putObj_heap_other (o := .deferred none) (show w.heap.size + 1 + 1 ≠ D by omega))).cell 0
    simp at g0 g1 g2
    refine ⟨.tuple #[.agg #[.int .i64 0, .int .i64 0], .bool false], ?_, rfl, hB3.trans ⟨rfl, rfl, rfl, (grownBy_putObj' _ _ _).size, fun k hk => World.putObj_heap_other (by omega)⟩⟩
    simp [results, Tryz.results167, go_sem, g0, g1, g2]
  case stop =>
    rintro D c pre V hD hsp h1 hK9
    exact h1.elim

end
section
open Go.RowKit Go.Shelf
set_option linter.unusedVariables false
set_option maxHeartbeats 2000000 in
theorem ints_Index {w : World} {g c : Nat} (h0 : w.cell? ⟨g, 0, none⟩ = some (.int .i64 0)) (n : Int) {x : Bool} (hx : (n == 0) = x) :
    Calls Tryz.prog 229 #[.slice (some ⟨g, 0, none⟩) 1 c, .int .i64 n] w fun e w' => e = .returned (.int .i64 (if x then 0 else -1)) ∧ w = w' := by
  cases x
  all_goals
    go_enter Tryz.func229, Tryz.ntmps229
    go_wp2_with fail
    refine wp_loop_rounds 2 ?_
    refine Eq.mpr rounds_succ ?_
    go_wp2_with fail
    try (refine Eq.mpr rounds_succ ?_; go_wp2_with fail)
    go_ret
    exact ⟨rfl, rfl⟩
set_option maxHeartbeats 2000000 in
theorem ints_Contains {w : World} {g c : Nat} (h0 : w.cell? ⟨g, 0, none⟩ = some (.int .i64 0)) (n : Int) {x : Bool} (hx : (n == 0) = x) :
    Calls Tryz.prog 219 #[.slice (some ⟨g, 0, none⟩) 1 c, .int .i64 n] w fun e w' => e = .returned (.bool x) ∧ w = w' := by
  have HI := Lib.hid (ints_Index (c := c) h0 n hx)
  clear h0 hx
  cases x
  all_goals
    go_enter Tryz.func219, Tryz.ntmps219
    go_wp2_with (go_at_call 229; refine HI.out.mono ?_; rintro e w' ⟨rfl, rfl⟩)
    go_ret
    exact ⟨rfl, rfl⟩
set_option maxHeartbeats 2000000 in
theorem meet_1 {w : World} {bx g c : Nat} (hb : w.cell? ⟨bx, 0, none⟩ = some (.slice (some ⟨g, 0, none⟩) 1 c)) (h0 : w.cell? ⟨g, 0, none⟩ = some (.int .i64 0)) (n : Int) {x : Bool} (hx : (n == 0) = x) :
    Calls Tryz.prog 218 #[.int .i64 n, .pointer (some ⟨bx, 0, none⟩)] w fun e w' => e = .returned (.bool (!x)) ∧ w = w' := by
  have HI := Lib.hid (ints_Contains (c := c) h0 n hx)
  clear h0 hx
  go_enter Tryz.func218, Tryz.ntmps218
  go_wp2_with (go_at_call 219; refine HI.out.mono ?_; rintro e w' ⟨rfl, rfl⟩)
  go_ret
  exact ⟨rfl, rfl⟩
/-- the function that meet hands on -/
def delF (bx : Nat) : Value := .func (.func 218) #[] #[.pointer (some ⟨bx, 0, none⟩)]
set_option maxHeartbeats 4000000 in
theorem ints_IndexFunc1 {w : World} {bx g c l cl : Nat} (hb : w.cell? ⟨bx, 0, none⟩ = some (.slice (some ⟨g, 0, none⟩) 1 c)) (h0 : w.cell? ⟨g, 0, none⟩ = some (.int .i64 0)) (l0 : w.cell? ⟨l, 0, none⟩ = some (.int .i64 0)) :
    Calls Tryz.prog 228 #[.slice (some ⟨l, 0, none⟩) 1 cl, delF bx] w fun e w' => e = .returned (.int .i64 (-1)) ∧ w = w' := by
  have HF0 := Lib.hid (meet_1 hb h0 0 (x := true) rfl)
  unfold delF
  clear hb h0
  go_enter Tryz.func228, Tryz.ntmps228
  go_wp2_with fail
  refine wp_loop_rounds 2 ?_
  refine Eq.mpr rounds_succ ?_
  go_wp2_with fail
  refine HF0.out.mono ?_
  rintro e w' ⟨rfl, rfl⟩
  go_wp2_with fail
  refine Eq.mpr rounds_succ ?_
  go_wp2_with fail
  go_ret
  exact ⟨rfl, rfl⟩
set_option maxHeartbeats 4000000 in
theorem ints_IndexFunc3 {w : World} {bx g c l cl : Nat} (hb : w.cell? ⟨bx, 0, none⟩ = some (.slice (some ⟨g, 0, none⟩) 1 c)) (h0 : w.cell? ⟨g, 0, none⟩ = some (.int .i64 0)) (l0 : w.cell? ⟨l, 0, none⟩ = some (.int .i64 0)) (l1 : w.cell? ⟨l, 1, none⟩ = some (.int .i64 1)) :
    Calls Tryz.prog 228 #[.slice (some ⟨l, 0, none⟩) 3 cl, delF bx] w fun e w' => e = .returned (.int .i64 1) ∧ w = w' := by
  have HF0 := Lib.hid (meet_1 hb h0 0 (x := true) rfl)
  have HF1 := Lib.hid (meet_1 hb h0 1 (x := false) rfl)
  unfold delF
  clear hb h0
  go_enter Tryz.func228, Tryz.ntmps228
  go_wp2_with fail
  refine wp_loop_rounds 2 ?_
  refine Eq.mpr rounds_succ ?_
  go_wp2_with fail
  refine HF0.out.mono ?_
  rintro e w' ⟨rfl, rfl⟩
  go_wp2_with fail
  refine Eq.mpr rounds_succ ?_
  go_wp2_with fail
  refine HF1.out.mono ?_
  rintro e w' ⟨rfl, rfl⟩
  go_wp2_with fail
  go_ret
  exact ⟨rfl, rfl⟩
set_option maxHeartbeats 4000000 in
theorem ints_Delete1 {w : World} {bx g c l cl : Nat} (hb : w.cell? ⟨bx, 0, none⟩ = some (.slice (some ⟨g, 0, none⟩) 1 c)) (h0 : w.cell? ⟨g, 0, none⟩ = some (.int .i64 0)) (l0 : w.cell? ⟨l, 0, none⟩ = some (.int .i64 0)) :
    Calls Tryz.prog 216 #[.slice (some ⟨l, 0, none⟩) 1 cl, delF bx] w fun e w' => e = .returned (.slice (some ⟨l, 0, none⟩) 1 cl) ∧ w = w' := by
  have HI := Lib.hid (ints_IndexFunc1 (cl := cl) hb h0 l0)
  unfold delF at HI ⊢
  clear hb h0
  go_enter Tryz.func216, Tryz.ntmps216
  go_wp2_with (go_at_call 228; refine HI.out.mono ?_; rintro e w' ⟨rfl, rfl⟩)
  go_ret
  exact ⟨rfl, rfl⟩
theorem zero_int (w : World) : (zeroValue 3).run Tryz.prog w = .ok (.int .i64 0) w := by kernel_rfl
set_option maxRecDepth 100000 in
set_option maxHeartbeats 4000000 in
theorem ints_Delete3 {w : World} {bx g c l cl : Nat} {cs : Array Value} (hb : w.cell? ⟨bx, 0, none⟩ = some (.slice (some ⟨g, 0, none⟩) 1 c)) (h0 : w.cell? ⟨g, 0, none⟩ = some (.int .i64 0)) (hl : Blk w l 3 cs) (l0 : cs[0]? = some (.int .i64 0)) (l1 : cs[1]? = some (.int .i64 1)) (l2 : cs[2]? = some (.int .i64 2)) (hcl : 3 ≤ cl) :
    Calls Tryz.prog 216 #[.slice (some ⟨l, 0, none⟩) 3 cl, delF bx] w fun e w' => e = .returned (.slice (some ⟨l, 0, none⟩) 1 cl) ∧ Below l w w' ∧ ∃ cur, Blk w' l 3 cur ∧ cur[0]? = some (.int .i64 0) := by
  have d0 := (hl.cell 0).trans l0
  have d1 := (hl.cell 1).trans l1
  have d2 := (hl.cell 2).trans l2
  have f1 := hl.frozen 1
  have f2 := hl.frozen 2
  have HI := Lib.hid (ints_IndexFunc3 (cl := cl) hb h0 d0 d1)
  have HF2 := Lib.hid (meet_1 hb h0 2 (x := false) rfl)
  unfold delF at HI ⊢
  have hclr : ∀ ty, (Builtin.clear_ #[126] ty #[.slice (some ⟨l, 1, none⟩) 2 (cl - 1)]).run Tryz.prog w = .ok (.tuple #[]) ((w.setCell ⟨l, 1, none⟩ (.int .i64 0)).setCell ⟨l, 2, none⟩ (.int .i64 0)) := fun ty => by
    have h := Lib.run_clear_slice (P := Tryz.prog) w 126 3 ty (.int .i64 0) Tryz.underlying126 zero_int rfl rfl l 1 2 (cl - 1) (by omega) (fun j hj => by
      match j, hj with
      | 0, _ => rw [d1]; rfl
      | 1, _ => rw [d2]; rfl) (fun j hj => hl.frozen _)
    rw [h]
    rfl
  have HB : Hid (Below l w ((w.setCell ⟨l, 1, none⟩ (.int .i64 0)).setCell ⟨l, 2, none⟩ (.int .i64 0))) := Lib.hid (((Below.refl l w).setCell (p := ⟨l, 1, none⟩) (Nat.le_refl _) _).setCell (p := ⟨l, 2, none⟩) (Nat.le_refl _) _)
  have HC : Hid (∃ cur, Blk ((w.setCell ⟨l, 1, none⟩ (.int .i64 0)).setCell ⟨l, 2, none⟩ (.int .i64 0)) l 3 cur ∧ cur[0]? = some (.int .i64 0)) := Lib.hid ⟨_, (hl.set_ 1 (.int .i64 0)).set_ 2 (.int .i64 0), by simpa using l0⟩
  generalize (w.setCell ⟨l, 1, none⟩ (.int .i64 0)).setCell ⟨l, 2, none⟩ (.int .i64 0) = W2 at hclr HB HC
  clear hb h0 l0 l1 l2
  have e1 : (1 : Int) ≤ (cl : Int) := by omega
  have e3 : (3 : Int) ≤ (cl : Int) := by omega
  go_enter Tryz.func216, Tryz.ntmps216
  go_wp2_with (go_at_call 228; refine HI.out.mono ?_; rintro e w' ⟨rfl, rfl⟩)
  refine wp_loop_rounds 2 ?_
  refine Eq.mpr rounds_succ ?_
  go_wp2_with fail
  refine HF2.out.mono ?_
  rintro e w' ⟨rfl, rfl⟩
  go_wp2_with fail
  refine Eq.mpr rounds_succ ?_
  go_wp2_with fail
  go_ret
  exact ⟨rfl, HB.out, HC.out⟩

end
section
open Go.RowKit Go.Shelf
set_option linter.unusedVariables false
/-- a list of ints in a block -/
def LI (w : World) (l n : Nat) (cs : Array Value) (ns : List Int) : Prop := Blk w l 3 cs ∧ ns.length = n ∧ ∀ (j : Nat) (x : Int), ns[j]? = some x → cs[j]? = some (Value.int .i64 x)
theorem LI.get {w : World} {l n : Nat} {cs : Array Value} {ns : List Int} (h : LI w l n cs ns) {j : Nat} {x : Int} (hj : ns[j]? = some x) : w.cell? ⟨l, j, none⟩ = some (.int .i64 x) := (h.1.cell j).trans (h.2.2 j x hj)
theorem LI.below {w w' : World} {l n : Nat} {cs : Array Value} {ns : List Int} (h : LI w l n cs ns) (hb : Below w.heap.size w w') : LI w' l n cs ns := ⟨h.1.below hb, h.2⟩
theorem own_LI {w : World} {base n : Nat} {v : Value} {ns : List Int} (h : w.ownsRow base 3 1 v n (ns.map (Value.int .i64))) (hn : 0 < n) :
    ∃ g cap cur, v = .slice (some ⟨g, 0, none⟩) n cap ∧ base ≤ g ∧ n ≤ cap ∧ LI w g n cur ns := by
  have hlen := h.1
  rw [List.length_map] at hlen
  rcases h.2 with ⟨_, h0⟩ | ⟨g, cap, cur, hv, hb, hg, hcap, _, hsz, htake⟩
  · omega
  · refine ⟨g, cap, cur, hv, hb, hcap, hg, by omega, fun j x hj => ?_⟩
    have hjl := (List.getElem?_eq_some_iff.1 hj).1
    have : (cur.toList.take (n * 1))[j]? = some (.int .i64 x) := by rw [htake, List.getElem?_map, hj]; rfl
    rw [List.getElem?_take_of_lt (by omega)] at this
    simpa using this
theorem info_int : (Tryz.prog.info? 3).map (fun i => (i.zero, i.size, i.bytes)) = some (some (.int .i64 0), 1, 8) := by kernel_rfl
set_option maxRecDepth 100000 in
set_option maxHeartbeats 4000000 in
theorem ints_Clone {w : World} {l n cl : Nat} {cs : Array Value} {ns : List Int} (h : LI w l n cs ns) (hn : 0 < n) (hm : n ≤ 1000) :
    Calls Tryz.prog 217 #[.slice (some ⟨l, 0, none⟩) n cl] w fun e w' => (∃ g c, e = .returned (.slice (some ⟨g, 0, none⟩) n c) ∧ n ≤ c ∧ w.heap.size ≤ g ∧ ∃ cur, LI w' g n cur ns) ∧ Below w.heap.size w w' := by
  obtain ⟨i0, hi, hz0, hz1, hz2⟩ := info_parts info_int
  have H := Lib.hid h
  have heq := Lib.run_eql_slice_nil (P := Tryz.prog) w 126 3 (some ⟨l, 0, none⟩) n cl 0 0 Tryz.underlying126
  have hown := own_empty w 3 1
  have hB := (Below.refl w.heap.size w).alloc (Nat.le_refl _) (.cells #[] 3)
  have hfl : (ns.map (Value.int .i64)).length = n * 1 := by rw [List.length_map, h.2.1, Nat.mul_one]
  have hnews : ∀ j u, (ns.map (Value.int .i64))[j]? = some u → (w.alloc (.cells #[] 3)).cell? ((⟨l, 0, none⟩ : Addr).add j) = some u := fun j u hj => by
    rw [List.getElem?_map] at hj
    cases hx : ns[j]? with
    | none => rw [hx] at hj; cases hj
    | some x =>
      rw [hx] at hj
      cases hj
      rw [addr_add0, Nat.zero_add]
      exact (h.below hB).get hx
  have h1 : ∀ u ∈ ns.map (Value.int .i64), u.oneCell' = true := fun u hu => by
    obtain ⟨x, -, rfl⟩ := List.mem_map.1 hu
    rfl
  clear h
  go_enter Tryz.func217, Tryz.ntmps217
  go_wp2_with (at_builtin; (refine wpList_append_own _ rfl _ _ 126 rfl w.heap.size 3 i0 _ 1 8 Tryz.underlying126 hi hz0 hz1 hz2 rfl (by decide) _ 0 _ rfl hown ⟨l, 0, none⟩ n cl (ns.map (Value.int .i64)) rfl hfl hnews h1 (by unfold maxLen; omega) (by omega) (by simp) ?_); intro v' w2 hown' hgrow _)
  go_ret
  rw [Nat.zero_add, List.nil_append] at hown'
  obtain ⟨g, cap, cur, rfl, h2, h3, h4⟩ := own_LI hown' hn
  exact ⟨⟨g, cap, rfl, h3, h2, cur, h4⟩, hB.grown hgrow (by simp) (fun j e => by cases e; exact Nat.le_refl _)⟩
set_option maxRecDepth 100000 in
set_option maxHeartbeats 4000000 in
theorem ints_Clip {w : World} {A : Option Addr} {n c : Nat} (hle : n ≤ c) (hm : n ≤ 2097152) :
    Calls Tryz.prog 227 #[.slice A n c] w fun e w' => e = .returned (.slice A n n) ∧ w = w' := by
  have k0 : (0 : Int) ≤ (n : Int) := by omega
  have k1 : (n : Int) ≤ (c : Int) := by omega
  go_enter Tryz.func227, Tryz.ntmps227
  go_wp2_with fail
  go_ret
  exact ⟨rfl, rfl⟩
/-- the list that meet is asked for: all three scripts, or the first alone -/
def metL (l : List Int) : Prop := l = [0, 1, 2] ∨ l = [0]
set_option maxRecDepth 100000 in
set_option maxHeartbeats 4000000 in
theorem script_meet {w : World} {l n cl g c : Nat} {cs ds : Array Value} {ns : List Int} (h : LI w l n cs ns) (hL : metL ns) (hg : LI w g 1 ds [0]) :
    Calls Tryz.prog 199 #[.slice (some ⟨l, 0, none⟩) n cl, .slice (some ⟨g, 0, none⟩) 1 c] w fun e w' => (∃ g' c', e = .returned (.slice (some ⟨g', 0, none⟩) 1 c') ∧ w.heap.size ≤ g' ∧ ∃ cur, LI w' g' 1 cur [0]) ∧ Below w.heap.size w w' := by
  have hb1 := (Below.refl w.heap.size w).alloc (Nat.le_refl _) (.cells #[.slice (some ⟨g, 0, none⟩) 1 c] 126)
  have hg1 := hg.below hb1
  have hbx := Blk.new w 126 #[.slice (some ⟨g, 0, none⟩) 1 c]
  have hn := h.2.1
  have hn0 : 0 < n := by rcases hL with rfl | rfl <;> (rw [← hn]; decide)
  have hn1 : n ≤ 1000 := by rcases hL with rfl | rfl <;> (rw [← hn]; decide)
  have HC := Lib.hid (ints_Clone (cl := cl) (h.below hb1) hn0 hn1)
  simp only [World.size_alloc] at HC
  have HD : Hid (∀ (W : World) (gg cc : Nat) (cur : Array Value), Below (w.heap.size + 1) (w.alloc (.cells #[.slice (some ⟨g, 0, none⟩) 1 c] 126)) W → LI W gg n cur ns → n ≤ cc → Calls Tryz.prog 216 #[.slice (some ⟨gg, 0, none⟩) n cc, .func (.func 218) #[] #[.pointer (some ⟨w.heap.size, 0, none⟩)]] W fun e w' => e = .returned (.slice (some ⟨gg, 0, none⟩) 1 cc) ∧ Below gg W w' ∧ ∃ cur', LI w' gg 1 cur' [0]) := Lib.hid (fun W gg cc cur hW hl hcc => by
    have hW' : Below (w.alloc (.cells #[.slice (some ⟨g, 0, none⟩) 1 c] 126)).heap.size (w.alloc (.cells #[.slice (some ⟨g, 0, none⟩) 1 c] 126)) W := by rw [World.size_alloc]; exact hW
    have x0 : W.cell? ⟨w.heap.size, 0, none⟩ = some (.slice (some ⟨g, 0, none⟩) 1 c) := (hbx.below hW').cell 0
    have y0 : W.cell? ⟨g, 0, none⟩ = some (.int .i64 0) := (hg1.below hW').get rfl
    rcases hL with rfl | rfl
    · have hn3 : n = 3 := by rw [← hn]; rfl
      subst hn3
      refine (ints_Delete3 (cl := cc) x0 y0 hl.1 (hl.2.2 0 _ rfl) (hl.2.2 1 _ rfl) (hl.2.2 2 _ rfl) hcc).mono ?_
      rintro e w' ⟨rfl, h1, cur', h2, h3⟩
      exact ⟨rfl, h1, cur', h2, rfl, fun j x hj => by
        match j, hj with
        | 0, hj => cases hj; exact h3
        | k + 1, hj => simp at hj⟩
    · have hn1 : n = 1 := by rw [← hn]; rfl
      subst hn1
      refine (ints_Delete1 (cl := cc) x0 y0 (hl.get rfl)).mono ?_
      rintro e w' ⟨rfl, rfl⟩
      exact ⟨rfl, Below.refl _ _, cur, hl⟩)
  clear h hL hg hb1 hg1 hbx hn
  go_enter Tryz.func199, Tryz.ntmps199
  go_wp2_with (first
    | (go_at_call 217; refine HC.out.mono ?_; rintro e w1 ⟨⟨gg, cc, rfl, h3, h4, cur, h5⟩, h6⟩)
    | (go_at_call 216; refine (HD.out _ _ _ _ h6 h5 h3).mono ?_; rintro e w2 ⟨rfl, h7, cur', h8⟩))
  go_ret
  exact ⟨⟨gg, cc, rfl, by omega, cur', h8⟩, (((Below.refl w.heap.size w).alloc (Nat.le_refl _) _).trans (h6.mono (by omega))).trans (h7.mono (by omega))⟩

end
section
open Go.RowKit Go.Shelf
set_option linter.unusedVariables false
theorem house_n : houseT.scripts.length = 3 := rfl
theorem make_strs (W : World) : (Instr.makeSlice 135 (.int .i64 3) (.int .i64 3)).run Tryz.prog W = .ok (.slice (some ⟨W.heap.size, 0, none⟩) 3 3) (W.alloc (.cells #[.string ⟨#[]⟩, .string ⟨#[]⟩, .string ⟨#[]⟩] 9)) := by kernel_rfl
theorem make_ints (W : World) : (Instr.makeSlice 126 (.int .i64 3) (.int .i64 3)).run Tryz.prog W = .ok (.slice (some ⟨W.heap.size, 0, none⟩) 3 3) (W.alloc (.cells #[.int .i64 0, .int .i64 0, .int .i64 0] 3)) := by kernel_rfl
set_option maxRecDepth 100000 in
set_option maxHeartbeats 4000000 in
theorem book_Names {w : World} {b : Nat} (hK : Bk w b houseT) :
    Calls Tryz.prog 213 #[.pointer (some ⟨b, 0, none⟩)] w fun e w' => (∃ A c, e = .returned (.slice A 3 c)) ∧ Below w.heap.size w w' := by
  obtain ⟨m1, m2, m3, m4, m5, u0, u1, u2, u3, u4, u5, u6, u7, -, -, -, -, -, -, ht, hM⟩ := hK
  obtain ⟨A0, c0, rfl, hm0⟩ := ht.formS
  rw [house_n] at ht hM
  have HT := Lib.hid ht
  have q0 : w.cell? ⟨b, 0, none⟩ = some (.slice A0 3 c0) := hM.book.cell 0
  have hbl := hM.book.lt
  have hmk := make_strs w
  clear ht hM hm0
  go_enter Tryz.func213, Tryz.ntmps213
  go_wp2_with fail
  obtain ⟨H, hH⟩ : ∃ H, w.heap.size = H := ⟨_, rfl⟩
  rw [hH]
  go_loopw [19] (fun i wr => ∃ (k : Nat) (cs : Array Value), i = .int .i64 (k : Int) ∧ k ≤ 3 ∧ Hid (Blk wr H 9 cs ∧ cs.size = 3) ∧ Hid (Below H w wr)) (fun i _ => 3 - (intOf i).toNat)
  case atStart => exact ⟨0, _, rfl, by omega, Lib.hid ⟨by rw [← hH]; exact Blk.new w _ _, rfl⟩, Lib.hid (by rw [← hH]; exact (Below.refl _ w).alloc (Nat.le_refl _) _)⟩
  case round =>
    obtain ⟨k, cs, rfl, hk, HS, HB⟩ := hrel
    by_cases hlt : k < 3
    · obtain ⟨m, hm⟩ : ∃ m, houseT.scripts[k]? = some m := ⟨_, List.getElem?_eq_getElem (by rw [house_n]; exact hlt)⟩
      obtain ⟨a, v, rfl, e0, e1, hv⟩ := elS HT.out (by rw [hH]; exact HB.out) hm
      obtain ⟨A1, c1, rfl, -, -⟩ := hv
      generalize (m.spans.map encSpan).length = n1 at e1
      have HS2 := Lib.hid (HS.out.1.alloc (.cells #[.string m.name, .slice A1 n1 c1] 59))
      have hcH : ((wr.alloc (.cells #[.string m.name, .slice A1 n1 c1] 59)).cell? ⟨H, k, none⟩) = some cs[k]! := by
        rw [HS2.out.cell]
        rw [Array.getElem?_eq_getElem (by rw [HS.out.2]; exact hlt), Array.getElem!_eq_getD, Array.getD_eq_getD_getElem?, Array.getElem?_eq_getElem (by rw [HS.out.2]; exact hlt)]
        rfl
      have hfH := HS2.out.frozen k
      have hHl := HS.out.1.lt
      have k1 : (k : Int) < 3 := by omega
      clear hm
      go_wp2_with fail
      go_roundw
      case rel => exact ⟨k + 1, _, by go_num, by omega, Lib.hid ⟨(HS.out.1.set_ k (.string m.name)).alloc _, by rw [Array.size_setIfInBounds]; exact HS.out.2⟩, Lib.hid ((HB.out.setCell (p := ⟨H, k, none⟩) (Nat.le_refl _) _).alloc (by simp; omega) _)⟩
      case measure => simp [intOf]; omega
    · have hk3 : k = 3 := by omega
      subst hk3
      go_wp2_with fail
      go_ret
      exact ⟨⟨_, _, rfl⟩, by rw [hH]; exact HB.out⟩
set_option maxRecDepth 100000 in
set_option maxHeartbeats 4000000 in
theorem script_all {w : World} {b : Nat} (hK : Bk w b houseT) :
    Calls Tryz.prog 197 #[.pointer (some ⟨b, 0, none⟩)] w fun e w' => (∃ g cs, e = .returned (.slice (some ⟨g, 0, none⟩) 3 3) ∧ w.heap.size ≤ g ∧ LI w' g 3 cs [0, 1, 2]) ∧ Below w.heap.size w w' := by
  have HN := Lib.hid (book_Names hK)
  clear hK
  go_enter Tryz.func197, Tryz.ntmps197
  go_wp2_with (go_at_call 213; refine HN.out.mono ?_; rintro e w1 ⟨⟨A, c, rfl⟩, h1⟩; have hmk := make_ints w1)
  refine wp_loop_rounds 4 ?_
  refine Eq.mpr rounds_succ ?_
  go_wp2_with fail
  refine Eq.mpr rounds_succ ?_
  go_wp2_with fail
  refine Eq.mpr rounds_succ ?_
  go_wp2_with fail
  refine Eq.mpr rounds_succ ?_
  go_wp2_with fail
  go_ret
  exact ⟨⟨_, _, rfl, h1.size, Blk.new w1 _ _, rfl, fun j x hj => by
    match j, hj with
    | 0, hj => cases hj; rfl
    | 1, hj => cases hj; rfl
    | 2, hj => cases hj; rfl
    | k + 3, hj => simp at hj⟩, h1.alloc h1.size _⟩
/-- the runes of the closed name's labels are of the first script alone -/
theorem good_of {r : Int} (h : r = 233 ∨ r = 97 ∨ r = 98) : ofL r houseT.common = false ∧ clsT houseT r = 0 ∧ i32 r ∧ ∀ i s, houseT.scripts[i]? = some s → ofL r s.spans = decide (i = 0) := by
  have key : ∀ l : List ScrT, houseT.scripts = l → True := fun _ _ => trivial
  rcases h with rfl | rfl | rfl
  all_goals
    refine ⟨by decide +kernel, by decide +kernel, by decide, fun i s hs => ?_⟩
    match i, hs with
    | 0, hs => cases hs; decide +kernel
    | 1, hs => cases hs; decide +kernel
    | 2, hs => cases hs; decide +kernel
    | k + 3, hs => simp [houseT] at hs
theorem house_order : ∀ s ∈ houseT.scripts, InOrder s.spans := fun s hs => by
  have h : ∀ s ∈ houseT.scripts, spansW s.spans 0 = none := by decide +kernel
  exact inOrder_of (h s hs)
set_option maxRecDepth 100000 in
set_option maxHeartbeats 4000000 in
theorem book_Scripts {w : World} {b : Nat} (hK : Bk w b houseT) {r : Int} (h : r = 233 ∨ r = 97 ∨ r = 98) :
    Calls Tryz.prog 215 #[.pointer (some ⟨b, 0, none⟩), .int .i32 r] w fun e w' => (∃ g cs, e = .returned (.slice (some ⟨g, 0, none⟩) 1 1) ∧ w.heap.size ≤ g ∧ LI w' g 1 cs [0]) ∧ Below w.heap.size w w' := by
  obtain ⟨i0, hi, hz0, hz1, hz2⟩ := info_parts info_int
  have HG := Lib.hid (good_of h).2.2.2
  obtain ⟨m1, m2, m3, m4, m5, u0, u1, u2, u3, u4, u5, u6, u7, -, -, -, -, -, -, ht, hM⟩ := hK
  obtain ⟨A0, c0, rfl, hm0⟩ := ht.formS
  rw [house_n] at ht hM
  have HT := Lib.hid ht
  have q0 : w.cell? ⟨b, 0, none⟩ = some (.slice A0 3 c0) := hM.book.cell 0
  have hbl := hM.book.lt
  clear ht hM hm0 h
  go_enter Tryz.func215, Tryz.ntmps215
  go_wp2_with fail
  obtain ⟨H, hH⟩ : ∃ H, w.heap.size = H := ⟨_, rfl⟩
  go_loopw [5, 14] (fun v i wr => ∃ k : Nat, i = .int .i64 (k : Int) ∧ k ≤ 3 ∧ ((k = 0 ∧ v = .slice none 0 0) ∨ (0 < k ∧ ∃ g c, v = .slice (some ⟨g, 0, none⟩) 1 c ∧ 1 ≤ c ∧ H ≤ g ∧ Hid (∃ cs, LI wr g 1 cs [0]))) ∧ Hid (Below H w wr)) (fun _ i _ => 3 - (intOf i).toNat)
  case atStart => exact ⟨0, rfl, by omega, .inl ⟨rfl, rfl⟩, Lib.hid (Below.refl _ _)⟩
  case round =>
    obtain ⟨k, rfl, hk, hv, HB⟩ := hrel
    by_cases hlt : k < 3
    · obtain ⟨m, hm⟩ : ∃ m, houseT.scripts[k]? = some m := ⟨_, List.getElem?_eq_getElem (by rw [house_n]; exact hlt)⟩
      obtain ⟨a, v, rfl, e0, e1, hv0⟩ := elS HT.out (by rw [hH]; exact HB.out) hm
      have HO := Lib.hid (fun W (hW : Below wr.heap.size wr W) => tab_of m.spans (hv0.below hW) (house_order m (List.mem_of_getElem? hm)) r)
      rw [HG.out k m hm] at HO
      obtain ⟨A1, c1, rfl, -, -⟩ := hv0
      generalize (m.spans.map encSpan).length = n1 at e1 HO
      have k1 : (k : Int) < 3 := by omega
      clear hm
      rcases hv with ⟨rfl, rfl⟩ | ⟨hk0, g, c, rfl, hc1, hHg, HL⟩
      · have ha0 : a.add (0 * 2) = a := by rw [Nat.zero_mul]; exact Addr.add_zero' a
        rw [ha0] at e0 e1
        have h3 := HB.out.size
        rw [hH] at h3
        go_wp2_with (first
          | (go_at_call 60; refine (HO.out _ ((Below.refl _ _).alloc (Nat.le_refl _) _)).mono ?_; rintro e w2 ⟨rfl, hb2⟩)
          | (at_builtin; (refine wpList_append_own _ rfl _ _ 126 rfl H 3 i0 _ 1 8 Tryz.underlying126 hi hz0 hz1 hz2 rfl (by decide) (.slice none 0 0) 0 [] rfl (World.ownsRow_nil _ _ _ _) ⟨w2.heap.size, 0, none⟩ 1 1 [.int .i64 0] rfl rfl (cells_new _ _ _ _ rfl) (by simp [Value.oneCell']) (by unfold maxLen; omega) (by omega) (by rw [World.size_alloc]; have h4 := hb2.size; rw [World.size_alloc] at h4; omega) ?_); intro v' w5 hown' hgrow _; obtain ⟨gg, cap, cur, rfl, hg1, hg2, hLI⟩ := own_LI (ns := [0]) hown' (by omega)))
        have HB5 : Hid (Below H w w5) := Lib.hid (((HB.out.alloc h3 _).trans (hb2.mono (by rw [World.size_alloc]; omega))).trans (((Below.refl H w2).alloc (by have h4 := hb2.size; rw [World.size_alloc] at h4; omega) _).grown hgrow (by rw [World.size_alloc]; have h4 := hb2.size; rw [World.size_alloc] at h4; omega) (fun k e => by cases e)))
        go_roundw
        case rel => exact ⟨1, by go_num, by omega, .inr ⟨by omega, gg, cap, rfl, hg2, hg1, Lib.hid ⟨cur, hLI⟩⟩, HB5⟩
        case measure => simp [intOf]
      · have hk1 : decide (k = 0) = false := decide_eq_false (by omega)
        rw [hk1] at HO
        go_wp2_with (first | (go_at_call 60; refine (HO.out _ ((Below.refl _ _).alloc (Nat.le_refl _) _)).mono ?_; rintro e w2 ⟨rfl, hb2⟩))
        have HB5 : Hid (Below wr.heap.size wr w2) := Lib.hid (((Below.refl _ wr).alloc (Nat.le_refl _) _).trans (hb2.mono (by rw [World.size_alloc]; omega)))
        go_roundw
        case rel => exact ⟨k + 1, by go_num, by omega, .inr ⟨by omega, g, c, rfl, hc1, hHg, Lib.hid (by obtain ⟨cs, hcs⟩ := HL.out; exact ⟨cs, hcs.below HB5.out⟩)⟩, Lib.hid (HB.out.trans (HB5.out.mono (by rw [← hH]; exact (HB.out.size)))) ⟩
        case measure => simp [intOf]; omega
    · have hk3 : k = 3 := by omega
      subst hk3
      rcases hv with ⟨h0, -⟩ | ⟨-, g, c, rfl, hc1, hHg, HL⟩
      · omega
      · have HCl := Lib.hid (ints_Clip (A := some ⟨g, 0, none⟩) hc1 (by omega) (w := wr))
        go_wp2_with (go_at_call 227; refine HCl.out.mono ?_; rintro e w2 ⟨rfl, rfl⟩)
        go_ret
        obtain ⟨cs, hcs⟩ := HL.out
        exact ⟨⟨g, cs, rfl, by rw [hH]; exact hHg, hcs⟩, by rw [hH]; exact HB.out⟩

end
section
open Go.RowKit Go.Shelf
set_option linter.unusedVariables false
attribute [local go_sem] Oper.semAt_some
set_option maxRecDepth 100000 in
set_option maxHeartbeats 4000000 in
theorem script_bound {w : World} {b : Nat} (hK : Bk w b houseT) (hR : RightT houseT) {r m : Int} (h : r = 233 ∨ r = 97 ∨ r = 98) :
    Calls Tryz.prog 198 #[.pointer (some ⟨b, 0, none⟩), .agg #[.int .i32 r, .int .i64 m, .bool false]] w fun e w' => (∃ g cs, e = .returned (.tuple #[.slice (some ⟨g, 0, none⟩) 1 1, .bool true]) ∧ w.heap.size ≤ g ∧ LI w' g 1 cs [0]) ∧ Below w.heap.size w w' := by
  obtain ⟨g1, g2, g3, -⟩ := good_of h
  have HC := Lib.hid (fun W (hW : Below w.heap.size w W) => bk_Common (hK.below hW) hR.common r g1)
  have HCl := Lib.hid (fun W (hW : Below w.heap.size w W) => bk_Class (hK.below hW) g3)
  rw [g2] at HCl
  have HS := Lib.hid (fun W (hW : Below w.heap.size w W) => book_Scripts (hK.below hW) h)
  clear h g1 g2 g3 hK hR
  go_enter Tryz.func198, Tryz.ntmps198
  go_wp2_with (first
    | (go_at_call 214; refine (HC.out _ ((Below.refl _ w).alloc (Nat.le_refl _) _)).mono ?_; rintro e w2 ⟨rfl, hb2⟩; have k2 := (Blk.new w _ _).below hb2; have x0 := k2.cell 0; simp only [List.getElem?_toArray, List.getElem?_cons_zero] at x0; have hB2 := Lib.hid (((Below.refl _ w).alloc (Nat.le_refl _) _).trans (hb2.mono (by rw [World.size_alloc]; omega))))
    | (go_at_call 102; refine (HCl.out _ hB2.out).mono ?_; rintro e w3 ⟨rfl, rfl⟩)
    | (go_at_call 215; refine (HS.out _ hB2.out).mono ?_; rintro e w4 ⟨⟨g, cs, rfl, hg, hcs⟩, hb4⟩))
  go_ret2
  exact ⟨⟨g, cs, rfl, by have h5 := hB2.out.size; omega, hcs⟩, hB2.out.trans (hb4.mono hB2.out.size)⟩

end
end Go.Proofs.YtjmkdimbbacnfaaGreatDoor
