/- Walk: guiselaw1.UtfSpots. -/
import Derived.Test.YtkenffbonnbflaaDoorMarks
namespace Go.Proofs.YtkenffbonnbflaaDoor
open Go.RowKit Go.Shelf
set_option linter.unusedVariables false
attribute [local go_sem] Oper.semAt_some
attribute [local simp] wide_fn wide_round_fn

/-- what the walk holds on to, at the head of a round -/
structure RU (s : ByteArray) (w : World) (L : Nat) (A : Option Addr) (c : Nat) (st : Int) (R8 : Nat) (r : Int) (Ds : List Nat) (V : World) : Prop where
  sto : Blk V w.heap.size 3 #[.int .i64 st]
  res : Blk V (w.heap.size + 1) 4 #[.bool false]
  l : Blk V L 22 #[.slice A (nS s) c]
  bs : Blk V (L + 1) 9 #[.string s]
  bb : Blk V (L + 1 + 1) 9 #[.string s]
  row : SpotsAre V A s
  below : Below w.heap.size w V
  rnd : Blk V R8 3 #[.int .i64 r]
  ds : ∀ D ∈ Ds, V.heap[D]? = some (.deferred (some []))
  nd : Ds.Nodup
  far : w.heap.size + 1 < L ∧ L + 1 + 1 < R8 ∧ ∀ D ∈ Ds, w.heap.size ≤ D
theorem RU.step {s : ByteArray} {w : World} {L : Nat} {A : Option Addr} {c : Nat} {st : Int} {R8 : Nat} {r : Int} {Ds : List Nat} {V V' : World} (h : RU s w L A c st R8 r Ds V) (hb : Below V.heap.size V V') : RU s w L A c st R8 r Ds V' :=
  ⟨h.sto.below hb, h.res.below hb, h.l.below hb, h.bs.below hb, h.bb.below hb, h.row.below hb, h.below.trans (hb.mono h.below.size), h.rnd.below hb, fun D hD => (hb.block D (Array.getElem?_eq_some_iff.1 (h.ds D hD)).1).trans (h.ds D hD), h.nd, h.far⟩

theorem RU.next {s : ByteArray} {w : World} {L : Nat} {A : Option Addr} {c : Nat} {st : Int} {R8 : Nat} {r : Int} {Ds : List Nat} {W V : World} (h : RU s w L A c st R8 r Ds W) (hb : Below W.heap.size W V) {D D2 : Nat}
    (hD : V.heap[D]? = some (.deferred (some []))) (hD2 : V.heap[D2]? = some (.deferred (some []))) (h1 : W.heap.size ≤ D) (h2 : D < D2) (r' : Int) : RU s w L A c st V.heap.size r' (D2 :: D :: Ds) (V.alloc (.cells #[.int .i64 r'] 3)) := by
  have hV := (h.step hb).step ((Below.refl _ V).alloc (Nat.le_refl _) (.cells #[.int .i64 r'] 3))
  have hlt : ∀ E ∈ Ds, E < W.heap.size := fun E hE => (Array.getElem?_eq_some_iff.1 (h.ds E hE)).1
  have hsz := hb.size
  have hr := h.rnd.lt
  have hw := h.below.size
  have lD := (Array.getElem?_eq_some_iff.1 hD).1
  have lD2 := (Array.getElem?_eq_some_iff.1 hD2).1
  obtain ⟨f1, f2, f3⟩ := h.far
  refine ⟨hV.sto, hV.res, hV.l, hV.bs, hV.bb, hV.row, hV.below, Blk.new V _ _, fun E hE => ?_, ?_, f1, by omega, fun E hE => ?_⟩
  · rcases List.mem_cons.1 hE with rfl | hE
    · exact (Below.heap_alloc _ _ _ lD2).trans hD2
    · rcases List.mem_cons.1 hE with rfl | hE
      · exact (Below.heap_alloc _ _ _ lD).trans hD
      · exact hV.ds E hE
  · rw [List.nodup_cons, List.nodup_cons]
    refine ⟨fun hm => ?_, fun hm => ?_, h.nd⟩
    · rcases List.mem_cons.1 hm with e | hm
      · omega
      · have := hlt _ hm; omega
    · have := hlt _ hm; omega
  · rcases List.mem_cons.1 hE with rfl | hE
    · omega
    · rcases List.mem_cons.1 hE with rfl | hE
      · omega
      · exact f3 E hE
/-- the k-th of a list of values -/
def ofL : List Value → Nat → Value
  | [], _ => undef
  | x :: _, 0 => x
  | _ :: r, k + 1 => ofL r k
/-- the activation at the head of a round -/
def RInv (s : ByteArray) (stop : Int) (w : World) (L : Nat) (A : Option Addr) (c : Nat) (st : Int) (j : Nat) (a : Act) (W : World) : Prop :=
  ∃ (R8 : Nat) (Ds : List Nat) (u : Nat → Value), a = { tmps := #[Value.string s, Value.int .i64 stop, undef, Value.pointer (some ⟨w.heap.size, 0, none⟩), Value.pointer (some ⟨w.heap.size + 1, 0, none⟩), Value.pointer (some ⟨L, 0, none⟩), Value.func (.func 88) #[] #[.pointer (some ⟨L + 1, 0, none⟩)], Value.func (.func 93) #[] #[.pointer (some ⟨L + 1 + 1, 0, none⟩)], Value.pointer (some ⟨R8, 0, none⟩), u 9, u 10, u 11, u 12, u 13, u 14, u 15, u 16, u 17, u 18, u 19, u 20, u 21, u 22, u 23, u 24, u 25, u 26, u 27, u 28, u 29, u 30, u 31, u 32, u 33, u 34, u 35, u 36, u 37, u 38, u 39, u 40, u 41, u 42, u 43, u 44, u 45, u 46, u 47, u 48, u 49, u 50, u 51, u 52, u 53, u 54, u 55, u 56, u 57, u 58, u 59, u 60, u 61, u 62, u 63, u 64, u 65, u 66, u 67, u 68, u 69, u 70, u 71, u 72, u 73, u 74, u 75, u 76, u 77, u 78, u 79, u 80, u 81, u 82, u 83, u 84, u 85, u 86, u 87, u 88, u 89, u 90, u 91, u 92, u 93, u 94, u 95, u 96, u 97, u 98, u 99, u 100, u 101, u 102, u 103, u 104, u 105, u 106, u 107, u 108, u 109, u 110, u 111, u 112, u 113, u 114, u 115, u 116, u 117, u 118, u 119, u 120, u 121, u 122, u 123, u 124, u 125, u 126, u 127], defers := marks Ds } ∧ RU s w L A c st R8 (j : Int) Ds W

set_option maxRecDepth 100000 in
set_option maxHeartbeats 8000000 in
theorem spotsU_walk (s : ByteArray) (stop : Int) (w : World) (hs : s.size ≤ 1048576) (hst : -9223372036854775808 ≤ stop ∧ stop ≤ 9223372036854775807) (hT : Lib.Utf8Tabs 0 1 w) :
    Calls Tryd.prog 13 #[.string s, .int .i64 stop] w fun e w' => e = .returned (.bool true) ∧ Below w.heap.size w w' := by
  have hns := nS_le s
  have HF := Lib.hid (fun w hT => alive_yes w hT)
  have HCt := Lib.hid (fun w => utfCount s w (by omega))
  have HW := Lib.hid (fun w => Within_any stop 0 (nS s : Int) w (by omega) (by omega) (by omega) hst.1 hst.2)
  have HT := Lib.hid hT
  clear hT
  refine calls_of_marks 6 Tryd.func13 rfl ?_
  simp only [Tryd.ntmps13, List.size_toArray, List.length_cons, List.length_nil, Nat.reduceAdd, Nat.reduceSub, Array.replicate_succ, Array.replicate_zero, List.push_toArray, List.append_toArray, List.nil_append, List.cons_append]
  gi_wp2_with fail
  refine (callsIn_wide.2 (Spots_is s _ hs)).mono ?_
  rintro e W1 ⟨⟨A, c, rfl, hA⟩, hb1⟩
  have b0 : Blk W1 w.heap.size 3 #[.int .i64 stop] := ((Blk.new w _ _).alloc _).below hb1
  have b1 : Blk W1 (w.heap.size + 1) 4 #[.bool false] := by
    have h := (Blk.new (w.alloc (.cells #[.int .i64 stop] 3)) 4 #[.bool false]).below hb1
    simp only [World.size_alloc] at h
    exact h
  have hB1 : Below w.heap.size w W1 := (((Below.refl _ w).alloc (Nat.le_refl _) _).alloc (by simp) _).trans (hb1.mono (by simp; omega))
  clear hb1
  gi_wp2_with (first
    | (gi_at_call 52; refine (callsIn_wide.2 (Spots_val s _)).mono ?_; rintro e w' ⟨rfl, rfl⟩)
    | (gi_at_call 66; refine (callsIn_wide.2 (Back_val s _)).mono ?_; rintro e w' ⟨rfl, rfl⟩))
  have HA := Lib.hid hA
  obtain ⟨W2, hW2⟩ : ∃ W2, ((W1.alloc (.cells #[.slice A (nS s) c] 22)).alloc (.cells #[.string s] 9)).alloc (.cells #[.string s] 9) = W2 := ⟨_, rfl⟩
  have h12 : Below W1.heap.size W1 W2 := by rw [← hW2]; exact (((Below.refl _ W1).alloc (Nat.le_refl _) _).alloc (by simp) _).alloc (by simp; omega) _
  have b2 : Blk W2 W1.heap.size 22 #[.slice A (nS s) c] := by rw [← hW2]; exact ((Blk.new W1 _ _).alloc _).alloc _
  have b3 : Blk W2 (W1.heap.size + 1) 9 #[.string s] := by
    rw [← hW2]; have h := (Blk.new (W1.alloc (.cells #[.slice A (nS s) c] 22)) 9 #[.string s]).alloc (.cells #[.string s] 9); simp only [World.size_alloc] at h; exact h
  have b4 : Blk W2 (W1.heap.size + 1 + 1) 9 #[.string s] := by
    rw [← hW2]; have h := Blk.new ((W1.alloc (.cells #[.slice A (nS s) c] 22)).alloc (.cells #[.string s] 9)) 9 #[.string s]; simp only [World.size_alloc] at h; exact h
  have hs1 := hB1.size
  have hB2 := hB1.trans (h12.mono hs1)
  have b0' := b0.below h12
  have b1' := b1.below h12
  have hA2 := hA.below h12
  have hl0 := b1.lt
  rw [hW2]
  clear hW2 hA h12 b0 b1 hB1
  have x2 := b2.cell 0
  have q2 := b2.lt
  simp only [List.getElem?_toArray, List.getElem?_cons_zero] at x2
  have HB2 := Lib.hid hB2
  have hnn := fun f b W => seq_ne_nil f b W
  have t0 : ((nS s : Int) != (nS s : Int)) = false := by simp
  refine wpIn_wide_below (by kernel_rfl) (by kernel_rfl) ?_
  repeat (first
    | gi_big_quiet_skip
    | (gi_big_quiet_want; gi_big_quiet_op; first
        | go_big_quiet_on
        | (refine ⟨_, fun _ _ => rfl, ?_⟩; go_big_quiet_on)
        | (apply Exists.intro
           refine ⟨fun w0 hC0 => ?_, ?_⟩
           · (gi_at_call 24
              refine (callsIn_wide.2 (HF.out w0 (Utf8Tabs_below HT.out (HB2.out.trans (hC0.mono (by have := HB2.out.size; omega)))))).mono ?_
              rintro e w8 ⟨rfl, hb8⟩
              exact ⟨rfl, hC0.trans (hb8.mono hC0.size)⟩)
           go_big_quiet_on)
        | (apply Exists.intro
           refine ⟨fun w0 hC0 => ?_, ?_⟩
           · (gi_at_call 67
              refine (callsIn_wide.2 (HCt.out w0)).mono ?_
              rintro e w8 ⟨rfl, hb8⟩
              exact ⟨rfl, hC0.trans (hb8.mono hC0.size)⟩)
           go_big_quiet_on)
        | (apply Exists.intro
           refine ⟨fun w0 hC0 => ?_, ?_⟩
           · (have x2 := (hC0.cell (p := ⟨W1.heap.size, 0, none⟩) q2).trans x2
              go_simp
              rfl)
           go_big_quiet_on)))
  refine wpQuietIn_nil ?_
  intro W3 hb3
  have c0 := b0'.below hb3
  have c1 := b1'.below hb3
  have c2 := b2.below hb3
  have c3 := b3.below hb3
  have c4 := b4.below hb3
  have hA3 := hA2.below hb3
  have hB3 := hB2.trans (hb3.mono hB2.size)
  have y0 := c0.cell 0
  have f0 := c0.frozen 0
  have y2 := c2.cell 0
  simp only [List.getElem?_toArray, List.getElem?_cons_zero] at y0 y2
  clear b0' b1' b2 b3 b4 hA2 hB2 hb3 x2 q2 hnn HB2
  gi_wp2_with fail
  refine (callsIn_wide.2 (HW.out _)).mono ?_
  unfold InRange
  rintro e w4 ⟨st, st1, st2, rfl, rfl⟩
  gi_wp2
  have g1 : w.heap.size < W3.heap.size := c0.lt
  have hne1 : w.heap.size + 1 ≠ w.heap.size := by omega
  have hRU : RU s w W1.heap.size A c st W3.heap.size ((0 : Nat) : Int) [] ((W3.setCell ⟨w.heap.size, 0, none⟩ (.int .i64 st)).alloc (.cells #[.int .i64 0] 3)) := by
    have hsz : (W3.setCell ⟨w.heap.size, 0, none⟩ (.int .i64 st)).heap.size = W3.heap.size := by simp [World.setCell]
    have l4 := c4.lt
    have l1 := hl0
    refine ⟨(c0.set_ 0 _).alloc _, (c1.of (Below.heap_setCell _ _ _ _ hne1)).alloc _, (c2.of (Below.heap_setCell _ _ _ _ (show W1.heap.size ≠ w.heap.size by omega))).alloc _, (c3.of (Below.heap_setCell _ _ _ _ (show W1.heap.size + 1 ≠ w.heap.size by omega))).alloc _, (c4.of (Below.heap_setCell _ _ _ _ (show W1.heap.size + 1 + 1 ≠ w.heap.size by omega))).alloc _, ?_, (hB3.setCell (Nat.le_refl _) _).alloc (by rw [hsz]; omega) _, ?_, fun D hD => by simp at hD, List.nodup_nil, by omega, by omega, fun D hD => by simp at hD⟩
    · intro hn
      obtain ⟨g, eg, hg, hc⟩ := HA.out hn
      obtain ⟨g', eg', hg', hc'⟩ := hA3 hn
      rw [eg] at eg'
      cases eg'
      refine ⟨g, eg, by rw [World.size_alloc, hsz]; omega, fun k hk => ?_⟩
      rw [World.cell?_alloc_lt _ _ _ (by rw [hsz]; exact hg')]
      have hgw : g ≠ w.heap.size := by
        rintro rfl
        have e0 := hc' 0 (by omega)
        rw [c0.cell 0] at e0
        have hx := spA_get s 0 hn
        have hz := sptsCells_get (sp s) 0 0 _ hx (by omega)
        rw [show 0 * 4 + 0 = 0 by rfl] at hz
        rw [hz] at e0
        simp [sptCells] at e0
      rw [← hc' k hk]
      exact World.cell?_of_block (Below.heap_setCell _ _ _ _ hgw)
    · have h := Blk.new (W3.setCell ⟨w.heap.size, 0, none⟩ (.int .i64 st)) 3 #[.int .i64 0]
      rw [hsz] at h
      exact h
  clear c0 c1 c2 c3 c4 hA3 hB3 y0 f0 y2 HA HCt HW
  refine wpIn_loop_rounds 3 (rounds_of (RInv s stop w W1.heap.size A c st) 2 0 _ _ ?h0 ?step ?last)
  case h0 =>
    exact ⟨W3.heap.size, [], ofL [undef, undef, undef, undef, undef, undef, undef, undef, undef, _, _, _, _, _, _, _, _, _, _, _, _, _, _, _, _, _, _, _, _, _, _, _, _, _, _, _, _, _, _, _, _, _, _, _, _, _, _, _, _, _, _, _, _, _, _, _, _, _, _, _, _, _, _, _, _, _, _, _, _, _, _, _, _, _, _, _, _, _, _, _, _, _, _, _, _, _, _, _, _, _, _, _, _, _, _, _, _, _, _, _, _, _, _, _, _, _, _, _, _, _, _, _, _, _, _, _, _, _, _, _, _, _, _, _, _, _, _, _], rfl, hRU⟩
  case last =>
    rintro a W ⟨R8, Ds, u, rfl, hR⟩
    have r0 := hR.rnd.cell 0
    simp only [List.getElem?_toArray, List.getElem?_cons_zero] at r0
    replace r0 : W.cell? ⟨R8, 0, none⟩ = some (.int .i64 2) := r0
    have e0 := hR.res.cell 0
    have ef := hR.res.frozen 0
    have hfr := hR.far
    gi_wp2
    refine leaves_marks Ds _ hR.nd (fun D hD => (Below.heap_setCell _ _ _ _ (show D ≠ w.heap.size + 1 from ?_)).trans (hR.ds D hD)) (fun W' hB => ⟨.bool true, ?_, rfl, ?_⟩)
    · rintro rfl
      have h1 := hR.ds _ hD
      have h2 : W.heap[w.heap.size + 1]? = _ := hR.res
      rw [h1] at h2
      cases h2
    · have h2 : ¬ (w.heap.size + 1) ∈ Ds := fun hD => by
        have h1 := hR.ds _ hD
        have h2 : W.heap[w.heap.size + 1]? = _ := hR.res
        rw [h1] at h2
        cases h2
      have g0 := ((hR.res.set_ 0 (.bool true)).of (hB.block _ h2)).cell 0
      simp at g0
      simp [results, Tryd.results13, go_sem, g0]
    · exact (hR.below.setCell (by simp) _).trans ((hB.below hfr.2.2))
  case step =>
    rintro j a W - hj ⟨R8, Ds, u, rfl, hR⟩
    clear hRU g1 hne1
    have hj2 : j = 0 ∨ j = 1 := by omega
    rcases hj2 with rfl | rfl
    · have r0 := hR.rnd.cell 0
      simp only [List.getElem?_toArray, List.getElem?_cons_zero] at r0
      gi_wp2
      rename_i Kc hKc Kb hKb Ka hKa
      have HA1 : ∀ (D m : Nat) (W' : World), Below W.heap.size W W' → Blk W' W.heap.size 3 #[.int .i64 (m : Int)] → W'.heap[D]? = some (.deferred (some [])) → W.heap.size + 1 ≤ D → m ≤ nS s → (0 = 1 → m = nS s) →
          Ka { tmps := #[Value.string s, Value.int .i64 stop, undef, Value.pointer (some ⟨w.heap.size, 0, none⟩), Value.pointer (some ⟨w.heap.size + 1, 0, none⟩), Value.pointer (some ⟨W1.heap.size, 0, none⟩), Value.func (.func 88) #[] #[.pointer (some ⟨W1.heap.size + 1, 0, none⟩)], Value.func (.func 93) #[] #[.pointer (some ⟨W1.heap.size + 1 + 1, 0, none⟩)], Value.pointer (some ⟨R8, 0, none⟩), Value.pointer (some ⟨W.heap.size, 0, none⟩), u 10, u 11, u 12, u 13, u 14, u 15, u 16, u 17, u 18, u 19, u 20, u 21, u 22, u 23, u 24, u 25, u 26, u 27, u 28, u 29, u 30, u 31, u 32, u 33, u 34, u 35, u 36, u 37, u 38, u 39, u 40, Value.int .i64 0, Value.bool true, u 43, u 44, Value.func (.func 88) #[] #[.pointer (some ⟨W1.heap.size + 1, 0, none⟩)], u 46, u 47, u 48, u 49, u 50, u 51, u 52, u 53, u 54, u 55, u 56, u 57, u 58, u 59, u 60, u 61, u 62, u 63, u 64, u 65, u 66, u 67, u 68, u 69, u 70, u 71, u 72, u 73, u 74, u 75, u 76, u 77, u 78, u 79, u 80, u 81, u 82, u 83, u 84, u 85, u 86, u 87, u 88, u 89, u 90, u 91, u 92, u 93, u 94, u 95, u 96, u 97, u 98, u 99, u 100, u 101, u 102, u 103, u 104, u 105, u 106, u 107, u 108, u 109, u 110, u 111, u 112, u 113, u 114, u 115, u 116, u 117, u 118, u 119, u 120, u 121, u 122, u 123, u 124, u 125, u 126, u 127], defers := { target := .collected D, args := #[] } :: marks Ds } W' := by
        intro D m W' hb hN hD hD1 hm hj1
        have hRV := hR.step hb
        have lt1 := hR.rnd.lt
        have lt2 := hR.l.lt
        have ne1 : ¬ R8 = W.heap.size := by omega
        have ne2 : ¬ W1.heap.size = W.heap.size := by omega
        have r8 := hRV.rnd.cell 0
        have l8 := hRV.l.cell 0
        have n8 := hN.cell 0
        have nf := hN.frozen 0
        simp only [List.getElem?_toArray, List.getElem?_cons_zero] at r8 l8 n8
        replace r8 : W'.cell? ⟨R8, 0, none⟩ = some (.int .i64 0) := r8
        refine hKa _ _ ?_
        gi_wp2
        rename_i Kd hKd
        have HB1 : ∀ (D2 m2 : Nat) (V' : World), Below W.heap.size W V' → Blk V' W.heap.size 3 #[.int .i64 (m2 : Int)] → V'.heap[D2]? = some (.deferred (some [])) → V'.heap[D]? = some (.deferred (some [])) → D < D2 → (0 = 1 → m2 = 0) →
            Kd { tmps := #[Value.string s, Value.int .i64 stop, undef, Value.pointer (some ⟨w.heap.size, 0, none⟩), Value.pointer (some ⟨w.heap.size + 1, 0, none⟩), Value.pointer (some ⟨W1.heap.size, 0, none⟩), Value.func (.func 88) #[] #[.pointer (some ⟨W1.heap.size + 1, 0, none⟩)], Value.func (.func 93) #[] #[.pointer (some ⟨W1.heap.size + 1 + 1, 0, none⟩)], Value.pointer (some ⟨R8, 0, none⟩), Value.pointer (some ⟨W.heap.size, 0, none⟩), u 10, u 11, u 12, u 13, u 14, u 15, u 16, u 17, u 18, u 19, u 20, u 21, u 22, u 23, u 24, u 25, u 26, u 27, u 28, u 29, u 30, u 31, u 32, u 33, u 34, u 35, u 36, u 37, u 38, u 39, u 40, Value.int .i64 0, Value.bool true, u 43, u 44, Value.func (.func 88) #[] #[.pointer (some ⟨W1.heap.size + 1, 0, none⟩)], u 46, u 47, u 48, u 49, u 50, u 51, u 52, u 53, u 54, u 55, u 56, u 57, u 58, u 59, u 60, u 61, u 62, u 63, u 64, u 65, u 66, u 67, u 68, u 69, u 70, u 71, u 72, u 73, u 74, u 75, u 76, u 77, u 78, Value.int .i64 0, Value.bool false, Value.bool false, undef, undef, undef, undef, Value.bool false, Value.slice A (nS s) c, Value.int .i64 (nS s : Int), Value.func (.func 93) #[] #[.pointer (some ⟨W1.heap.size + 1 + 1, 0, none⟩)], u 90, u 91, u 92, u 93, u 94, u 95, u 96, u 97, u 98, u 99, u 100, u 101, u 102, u 103, u 104, u 105, u 106, u 107, u 108, u 109, u 110, u 111, u 112, u 113, u 114, u 115, u 116, u 117, u 118, u 119, u 120, u 121, u 122, u 123, u 124, u 125, u 126, u 127], defers := { target := .collected D2, args := #[] } :: { target := .collected D, args := #[] } :: marks Ds } V' := by
          intro D2 m2 V' hb' hN' hD2 hDV hDD hj1'
          have hRV' := hR.step hb'
          have r8' := hRV'.rnd.cell 0
          have n8' := hN'.cell 0
          simp only [List.getElem?_toArray, List.getElem?_cons_zero] at r8' n8'
          replace r8' : V'.cell? ⟨R8, 0, none⟩ = some (.int .i64 0) := r8'
          have qV := hb'.size
          have hds := hR.ds
          have hnd := hR.nd
          have hfr := hR.far
          clear r8 l8 n8 nf hRV
          refine hKd _ _ ?_
          gi_wp2
          exact ⟨V'.heap.size, D2 :: D :: Ds, ofL [undef, undef, undef, undef, undef, undef, undef, undef, undef, _, _, _, _, _, _, _, _, _, _, _, _, _, _, _, _, _, _, _, _, _, _, _, _, _, _, _, _, _, _, _, _, _, _, _, _, _, _, _, _, _, _, _, _, _, _, _, _, _, _, _, _, _, _, _, _, _, _, _, _, _, _, _, _, _, _, _, _, _, _, _, _, _, _, _, _, _, _, _, _, _, _, _, _, _, _, _, _, _, _, _, _, _, _, _, _, _, _, _, _, _, _, _, _, _, _, _, _, _, _, _, _, _, _, _, _, _, _, _], rfl, hR.next hb' hDV hD2 (by omega) hDD _⟩
        have hq0 := lt_of_cell (HT.out.2 0 (by omega)).1
        have hfr := hR.far
        have hlb := hR.bb.lt
        have hlw := hR.sto.lt
        have hsW := hb.size
        have lD := (Array.getElem?_eq_some_iff.1 hD).1
        obtain ⟨WS2, hWS2⟩ : ∃ WS2, W'.setCell ⟨W.heap.size, 0, none⟩ (.int .i64 (nS s : Int)) = WS2 := ⟨_, rfl⟩
        have hz2 : WS2.heap.size = W'.heap.size := by rw [← hWS2]; simp [World.setCell]
        have hB2 : Below W.heap.size W WS2 := by rw [← hWS2]; exact hb.setCell (Nat.le_refl _) _
        have hN2 : Blk WS2 W.heap.size 3 #[.int .i64 (nS s : Int)] := by rw [← hWS2]; exact hN.set_ 0 _
        have hDS : WS2.heap[D]? = some (.deferred (some [])) := by rw [← hWS2]; exact (Below.heap_setCell _ _ _ _ (show D ≠ W.heap.size by omega)).trans hD
        have hR2 := hR.step hB2
        rw [hWS2]
        clear hWS2 r8 l8 n8 nf hRV
        refine wpIn_rangeFunc_ownH rfl (by omega) (gf := 93) (lb := #[.pointer (some ⟨W1.heap.size + 1 + 1, 0, none⟩)]) rfl trivial (enters_of Tryd.func93 (by kernel_rfl) rfl)
          (back_stops s (W1.heap.size + 1 + 1) (fun k => k = w.heap.size + 1 ∨ k = W.heap.size) (by show ¬ (_ = _ ∨ _ = _); omega) (by show ¬ (_ = _ ∨ _ = _); omega) (by show ¬ (_ = _ ∨ _ = _); omega) WS2 hR2.bb (Utf8Tabs_below HT.out hR2.below) (by omega) (6 - 1) (by omega)) (fun h k => h.trans k) keeps_b (Below.refl _ _) (fun _ => rfl)
          (fun pre V => Below W.heap.size W V ∧ Blk V W.heap.size 3 #[.int .i64 ((nS s - pre.length : Nat) : Int)] ∧ V.heap[D]? = some (.deferred (some []))) (fun c pre V => (c = .ret ∧ ∃ p0 x, pre = p0 ++ [x] ∧ x.val ≠ p0.length) ∨ (c = .exit 4 ∧ 0 = 0 ∧ Below W.heap.size W V ∧ Blk V W.heap.size 3 #[.int .i64 ((nS s - pre.length : Nat) : Int)] ∧ V.heap[D]? = some (.deferred (some []))))
          ?ownb1 ?ownb2 ⟨hB2, hN2, hDS⟩
          (fun x a' V => ∃ Bx, W.heap.size < Bx ∧ Blk V Bx 25 #[.int .i32 ((spA s (nS s - (x.val + 1))).r : Int), .int .i64 ((spA s (nS s - (x.val + 1))).n : Int), .bool (spA s (nS s - (x.val + 1))).bad] ∧ a' = { tmps := #[Value.string s, Value.int .i64 stop, undef, Value.pointer (some ⟨w.heap.size, 0, none⟩), Value.pointer (some ⟨w.heap.size + 1, 0, none⟩), Value.pointer (some ⟨W1.heap.size, 0, none⟩), Value.func (.func 88) #[] #[.pointer (some ⟨W1.heap.size + 1, 0, none⟩)], Value.func (.func 93) #[] #[.pointer (some ⟨W1.heap.size + 1 + 1, 0, none⟩)], Value.pointer (some ⟨R8, 0, none⟩), Value.pointer (some ⟨W.heap.size, 0, none⟩), u 10, u 11, Value.int .i64 (bAt s (nS s - (x.val + 1)) : Int), Value.pointer (some ⟨Bx, 0, none⟩), u 14, u 15, u 16, u 17, u 18, u 19, u 20, u 21, u 22, u 23, u 24, u 25, u 26, u 27, u 28, u 29, u 30, u 31, u 32, u 33, u 34, u 35, u 36, u 37, u 38, u 39, u 40, Value.int .i64 0, Value.bool true, u 43, u 44, Value.func (.func 88) #[] #[.pointer (some ⟨W1.heap.size + 1, 0, none⟩)], u 46, u 47, u 48, u 49, u 50, u 51, u 52, u 53, u 54, u 55, u 56, u 57, u 58, u 59, u 60, u 61, u 62, u 63, u 64, u 65, u 66, u 67, u 68, u 69, u 70, u 71, u 72, u 73, u 74, u 75, u 76, u 77, u 78, Value.int .i64 0, Value.bool false, Value.bool false, undef, undef, undef, undef, Value.bool false, Value.slice A (nS s) c, Value.int .i64 (nS s : Int), Value.func (.func 93) #[] #[.pointer (some ⟨W1.heap.size + 1 + 1, 0, none⟩)], Value.int .i64 (bAt s (nS s - (x.val + 1)) : Int), Value.agg #[.int .i32 ((spA s (nS s - (x.val + 1))).r : Int), .int .i64 ((spA s (nS s - (x.val + 1))).n : Int), .bool (spA s (nS s - (x.val + 1))).bad], u 92, u 93, u 94, u 95, u 96, u 97, u 98, u 99, u 100, u 101, u 102, u 103, u 104, u 105, u 106, u 107, u 108, u 109, u 110, u 111, u 112, u 113, u 114, u 115, u 116, u 117, u 118, u 119, u 120, u 121, u 122, u 123, u 124, u 125, u 126, u 127], defers := [] })
          (fun x a' _ X Y row hs hg hr => by obtain ⟨Bx, h1, h2, h3⟩ := hs; exact ⟨Bx, h1, blk_own h2 hg hr, h3⟩)
          ?assignb ?bodyb ?doneb ?stopb
        case ownb1 =>
          rintro pre V V' row ⟨h1, h2, h3⟩ hg hr
          exact ⟨below_own h1 hg hr (Nat.le_refl _) (by omega), blk_own h2 hg hr, (hg.block D (Array.getElem?_eq_some_iff.1 h3).1 (fun e => by have := (hr _ e.symm).1; omega)).trans h3⟩
        case ownb2 =>
          rintro cc pre V V' row h hg hr
          rcases h with h | ⟨h0, h4, h1, h2, h3⟩
          · exact .inl h
          · exact .inr ⟨h0, h4, below_own h1 hg hr (Nat.le_refl _) (by omega), blk_own h2 hg hr, (hg.block D (Array.getElem?_eq_some_iff.1 h3).1 (fun e => by have := (hr _ e.symm).1; omega)).trans h3⟩
        case assignb =>
          rintro l pre x V K ⟨h1, h2, h3⟩ hK
          have hlt := h2.lt
          gi_wp2
          exact hK _ _ ((KeepsOthers.alloc _ _).from _) (Keeps.below ((Below.refl _ V).alloc (Nat.le_refl _) _)) ⟨h1.alloc h1.size _, h2.alloc _, (Below.heap_alloc _ _ _ (Array.getElem?_eq_some_iff.1 h3).1).trans h3⟩ ⟨V.heap.size, hlt, Blk.new V _ _, rfl⟩
        case bodyb =>
          rintro l pre x a' V hl ⟨r, hr⟩ ⟨h1, h2, h3⟩ ⟨Bx, hBx, bX, rfl⟩ hlt
          obtain ⟨q, hq⟩ : ∃ q, nS s - (pre.length + 1) = q := ⟨_, rfl⟩
          obtain ⟨z, hz⟩ : ∃ z, nS s - (x.val + 1) = z := ⟨_, rfl⟩
          have hq1 : nS s - pre.length = q + 1 := by omega
          have hqn : q < nS s := by omega
          have hxl := x.isLt
          have hzn : z < nS s := by omega
          have hxq : x.val = pre.length ↔ z = q := by omega
          rw [hq1] at h2
          rw [hz] at bX
          simp only [hz]
          have n0 := h2.cell 0
          have nf := h2.frozen 0
          simp only [List.getElem?_toArray, List.getElem?_cons_zero] at n0
          replace n0 : V.cell? ⟨W.heap.size, 0, none⟩ = some (.int .i64 ((q : Int) + 1)) := n0
          have hqb : (q : Int) < 9223372036854775807 := by omega
          have qX := bX.lt
          obtain ⟨V2, hV2⟩ : ∃ V2, V.setCell ⟨W.heap.size, 0, none⟩ (.int .i64 (q : Int)) = V2 := ⟨_, rfl⟩
          have h1' : Below W.heap.size W V2 := by rw [← hV2]; exact h1.setCell (Nat.le_refl _) _
          have h2' : Blk V2 W.heap.size 3 #[.int .i64 (q : Int)] := by rw [← hV2]; exact h2.set_ 0 _
          have bX' : Blk V2 Bx 25 #[.int .i32 ((spA s z).r : Int), .int .i64 ((spA s z).n : Int), .bool (spA s z).bad] := by rw [← hV2]; exact bX.of (Below.heap_setCell _ _ _ _ (show Bx ≠ W.heap.size by omega))
          have lD' := (Array.getElem?_eq_some_iff.1 h3).1
          have h3' : V2.heap[D]? = some (.deferred (some [])) := by rw [← hV2]; exact (Below.heap_setCell _ _ _ _ (show D ≠ W.heap.size by omega)).trans h3
          have hkf : KeepsFrom WS2.heap.size V V2 := by rw [← hV2]; exact keepsFrom_set _ _ _ _
          have hkk : Keeps (fun k => k = w.heap.size + 1 ∨ k = W.heap.size) V V2 := by rw [← hV2]; exact Keeps.setCell _ _ _ _ (.inr rfl)
          have hRV := hR.step h1'
          have hR0 := Lib.hid hR
          clear h1 h2 bX h3 hR2
          gi_wp2_with fail
          try rw [hV2]
          clear hV2 n0 nf
          have n0 := h2'.cell 0
          have l0 := hRV.l.cell 0
          have x0 := bX'.cell 0
          have x1 := bX'.cell 1
          have x2 := bX'.cell 2
          obtain ⟨g, y, eA, hg, hy, hyp, _, y0, y1, y2, y3⟩ := hRV.row.at q hqn
          obtain rfl : spA s q = y := spA_eq hy
          rw [eA] at l0
          rw [hyp] at y1
          simp only [List.getElem?_toArray, List.getElem?_cons_succ, List.getElem?_cons_zero] at n0 l0 x0 x1 x2
          have qN := h2'.lt
          have qL := hRV.l.lt
          have qX := bX'.lt
          have t0 : decide ((q : Int) < 0) = false := by rw [decide_eq_false_iff_not]; omega
          have k0 : (0 : Int) ≤ (q : Int) := by omega
          have k1 : (q : Int) < (nS s : Int) := by omega
          have HRV := Lib.hid hRV
          have Hh1 := Lib.hid h1'
          have Hh2 := Lib.hid h2'
          have Hh3 := Lib.hid h3'
          have Hkf := Lib.hid hkf
          have Hkk := Lib.hid hkk
          clear h1' h2' h3' hkf hkk bX' hRV hy hyp eA
          by_cases hx : z = q
          · have t1 : ((bAt s z : Int) != (bAt s q : Int)) = false := by rw [hx]; simp
            have R0 : Hid (∀ V', Below V2.heap.size V2 V' → RU s w W1.heap.size A c st R8 ((0 : Nat) : Int) Ds V' ∧ Blk V' W.heap.size 3 #[.int .i64 (q : Int)] ∧ V'.heap[D]? = some (.deferred (some []))) := Lib.hid (fun V' hb => ⟨HRV.out.step hb, Hh2.out.below hb, (hb.block D (Array.getElem?_eq_some_iff.1 Hh3.out).1).trans Hh3.out⟩)
            subst hx
            have t1 : ((bAt s z : Int) != (bAt s z : Int)) = false := by simp
            refine wpIn_round_below (by kernel_rfl) (by kernel_rfl) (by kernel_rfl) ?_
            repeat (first
              | gi_big_quiet_skip
              | (gi_big_quiet_want; gi_big_quiet_op; first
                  | go_big_quiet_on
                  | (refine ⟨_, fun _ _ => rfl, ?_⟩; go_big_quiet_on)
                  | (apply Exists.intro
                     refine ⟨fun w0 hC0 => ?_, ?_⟩
                     · (gi_at_call 25
                        refine (callsIn_wide.2 (same_any _ _ _ _ w0)).mono ?_
                        rintro e w8 ⟨rfl, hb8⟩
                        exact ⟨rfl, hC0.trans (hb8.mono hC0.size)⟩)
                     go_big_quiet_on)
                  | (apply Exists.intro
                     refine ⟨fun w0 hC0 => ?_, ?_⟩
                     · (have n0 := (hC0.cell (p := ⟨W.heap.size, 0, none⟩) qN).trans n0
                        have l0 := (hC0.cell (p := ⟨W1.heap.size, 0, none⟩) qL).trans l0
                        have x0 := (hC0.cell (p := ⟨Bx, 0, none⟩) qX).trans x0
                        have x1 := (hC0.cell (p := ⟨Bx, 1, none⟩) qX).trans x1
                        have x2 := (hC0.cell (p := ⟨Bx, 2, none⟩) qX).trans x2
                        have y0 := (hC0.cell (p := ⟨g, z * 4, none⟩) hg).trans y0
                        have y1 := (hC0.cell (p := ⟨g, z * 4 + 1, none⟩) hg).trans y1
                        have y2 := (hC0.cell (p := ⟨g, z * 4 + 2, none⟩) hg).trans y2
                        have y3 := (hC0.cell (p := ⟨g, z * 4 + 3, none⟩) hg).trans y3
                        go_simp
                        rfl)
                     go_big_quiet_on)))
            refine wpQuietIn_nil ?_
            intro w8 hb8
            obtain ⟨hR8', hN8, hD8⟩ := R0.out w8 hb8
            have n8 := hN8.cell 0
            have s8 := hR8'.sto.cell 0
            have r8 := hR8'.rnd.cell 0
            simp only [List.getElem?_toArray, List.getElem?_cons_zero] at n8 s8 r8
            replace r8 : w8.cell? ⟨R8, 0, none⟩ = some (.int .i64 0) := r8
            have hle : (pre ++ [x]).length = pre.length + 1 := by simp
            have Hfin : Hid (KeepsFrom WS2.heap.size V w8 ∧ Keeps (fun k => k = w.heap.size + 1 ∨ k = W.heap.size) V w8 ∧ Below W.heap.size W w8 ∧ Blk w8 W.heap.size 3 #[.int .i64 ((nS s - (pre ++ [x]).length : Nat) : Int)] ∧ w8.heap[D]? = some (.deferred (some []))) := Lib.hid (by
              rw [hle, hq]
              exact ⟨Hkf.out.trans (keepsFrom_below hb8), Hkk.out.trans (Keeps.below hb8), Hh1.out.trans (hb8.mono Hh1.out.size), hN8, hD8⟩)
            clear hR8' hN8 hb8 y0 y1 y2 y3 l0 x0 x1 x2 R0 t0 n0 hD8
            by_cases hst8 : (z : Int) < st
            · gi_wp2
              obtain ⟨f1, f2, f3, f4, f5⟩ := Hfin.out
              try rw [hz2] at f1
              first | exact ⟨f1, .inr ⟨rfl, rfl, f3, f4, f5⟩⟩ | exact ⟨f1, .inr ⟨rfl, f3, f4, f5⟩⟩
            · gi_wp2
              obtain ⟨f1, f2, f3, f4, f5⟩ := Hfin.out
              try rw [hz2] at f1
              exact ⟨f1, f2, f3, f4, f5⟩
          · have hne : ¬ bAt s z = bAt s q := fun h => by
              rcases Nat.lt_or_gt_of_ne hx with c | c
              · have := bAt_lt s z q c (by omega); omega
              · have := bAt_lt s q z c (by omega); omega
            have t1 : ((bAt s z : Int) != (bAt s q : Int)) = true := by rw [bne_iff_ne]; omega
            have R0 := Lib.hid (fun V' (hb : Below V2.heap.size V2 V') => (⟨(HRV.out.res.below hb).cell 0, (HRV.out.res.below hb).frozen 0⟩ : V'.cell? ⟨w.heap.size + 1, 0, none⟩ = some (.bool false) ∧ V'.frozen? ⟨w.heap.size + 1, 0, none⟩ = false))
            clear hne
            refine wpIn_round_below (by kernel_rfl) (by kernel_rfl) (by kernel_rfl) ?_
            repeat (first
              | gi_big_quiet_skip
              | (gi_big_quiet_want; gi_big_quiet_op; first
                  | go_big_quiet_on
                  | (refine ⟨_, fun _ _ => rfl, ?_⟩; go_big_quiet_on)
                  | (apply Exists.intro
                     refine ⟨fun w0 hC0 => ?_, ?_⟩
                     · (gi_at_call 25
                        refine (callsIn_wide.2 (same_any _ _ _ _ w0)).mono ?_
                        rintro e w8 ⟨rfl, hb8⟩
                        exact ⟨rfl, hC0.trans (hb8.mono hC0.size)⟩)
                     go_big_quiet_on)
                  | (apply Exists.intro
                     refine ⟨fun w0 hC0 => ?_, ?_⟩
                     · (have n0 := (hC0.cell (p := ⟨W.heap.size, 0, none⟩) qN).trans n0
                        have l0 := (hC0.cell (p := ⟨W1.heap.size, 0, none⟩) qL).trans l0
                        have x0 := (hC0.cell (p := ⟨Bx, 0, none⟩) qX).trans x0
                        have x1 := (hC0.cell (p := ⟨Bx, 1, none⟩) qX).trans x1
                        have x2 := (hC0.cell (p := ⟨Bx, 2, none⟩) qX).trans x2
                        have y0 := (hC0.cell (p := ⟨g, q * 4, none⟩) hg).trans y0
                        have y1 := (hC0.cell (p := ⟨g, q * 4 + 1, none⟩) hg).trans y1
                        have y2 := (hC0.cell (p := ⟨g, q * 4 + 2, none⟩) hg).trans y2
                        have y3 := (hC0.cell (p := ⟨g, q * 4 + 3, none⟩) hg).trans y3
                        go_simp
                        rfl)
                     go_big_quiet_on)))
            refine wpQuietIn_nil ?_
            intro w8 hb8
            obtain ⟨rc, rf⟩ := R0.out w8 hb8
            gi_wp2
            exact ⟨(Hkf.out.trans (keepsFrom_below hb8)).trans (keepsFrom_set _ _ _ _), .inl ⟨rfl, pre, x, rfl, fun h => hx (hxq.1 h)⟩⟩
        case doneb =>
          rintro D2 ys V hD2 rfl ⟨h1, h2, h3⟩ hK
          have hlen : (List.finRange (nS s)).length = nS s := by simp
          rw [hlen] at h2
          simp only [Exit.then, Exit.inBlock]
          exact HB1 D2 (nS s - nS s) V h1 h2 hK h3 (by omega) (fun _ => by omega)
        case stopb =>
          rintro D2 cc pre V hD2 ⟨k, hk, hpre⟩ (⟨rfl, p0, i, rfl, hne⟩ | ⟨rfl, h0, h1, h2, h3⟩) hK
          · obtain ⟨h1, h2, h3⟩ := firstK_last hk hpre
            exact absurd h1 hne
          · apply wpIn_exit
            simp only [Exit.then, Exit.inBlock, ↓reduceIte]
            exact HB1 D2 (nS s - pre.length) V h1 h2 hK h3 (by omega) (fun h => by omega)
      have HI := Lib.hid hR
      have hlR := hR.l.lt
      have hfar := hR.far
      obtain ⟨WS, hWS⟩ : ∃ WS, W.alloc (.cells #[.int .i64 0] 3) = WS := ⟨_, rfl⟩
      have hsz : WS.heap.size = W.heap.size + 1 := by rw [← hWS]; simp
      have hW1 : Below W.heap.size W WS := by rw [← hWS]; exact (Below.refl _ W).alloc (Nat.le_refl _) _
      have hN1 : Blk WS W.heap.size 3 #[.int .i64 0] := by rw [← hWS]; exact Blk.new W _ _
      have hbS := (hR.step hW1).bs
      have hqq := (hR.bb).lt
      rw [hWS]
      clear hWS
      refine wpIn_rangeFunc_ownH rfl (by omega) (gf := 88) (lb := #[.pointer (some ⟨W1.heap.size + 1, 0, none⟩)]) rfl trivial (enters_of Tryd.func88 (by kernel_rfl) rfl)
        (spots_stops s (W1.heap.size + 1) (fun k => k = w.heap.size + 1 ∨ k = W.heap.size) (by show ¬ (_ = _ ∨ _ = _); omega) WS hbS (6 - 1) (by omega)) (fun h k => h.trans k) keeps_b (Below.refl _ _) (fun _ => rfl)
        (fun pre V => Below W.heap.size W V ∧ Blk V W.heap.size 3 #[.int .i64 (pre.length : Int)]) (fun c pre V => (c = .ret ∧ ∃ p0 x, pre = p0 ++ [x] ∧ x.val ≠ p0.length) ∨ (c = .exit 2 ∧ 0 = 0 ∧ Below W.heap.size W V ∧ Blk V W.heap.size 3 #[.int .i64 (pre.length : Int)]))
        ?own1 ?own2 ⟨hW1, hN1⟩
        (fun x a' V => ∃ Bx, W.heap.size < Bx ∧ Blk V Bx 25 #[.int .i32 ((spA s x.val).r : Int), .int .i64 ((spA s x.val).n : Int), .bool (spA s x.val).bad] ∧ a' = { tmps := #[Value.string s, Value.int .i64 stop, undef, Value.pointer (some ⟨w.heap.size, 0, none⟩), Value.pointer (some ⟨w.heap.size + 1, 0, none⟩), Value.pointer (some ⟨W1.heap.size, 0, none⟩), Value.func (.func 88) #[] #[.pointer (some ⟨W1.heap.size + 1, 0, none⟩)], Value.func (.func 93) #[] #[.pointer (some ⟨W1.heap.size + 1 + 1, 0, none⟩)], Value.pointer (some ⟨R8, 0, none⟩), Value.pointer (some ⟨W.heap.size, 0, none⟩), Value.int .i64 (bAt s x.val : Int), Value.pointer (some ⟨Bx, 0, none⟩), u 12, u 13, u 14, u 15, u 16, u 17, u 18, u 19, u 20, u 21, u 22, u 23, u 24, u 25, u 26, u 27, u 28, u 29, u 30, u 31, u 32, u 33, u 34, u 35, u 36, u 37, u 38, u 39, u 40, Value.int .i64 0, Value.bool true, u 43, u 44, Value.func (.func 88) #[] #[.pointer (some ⟨W1.heap.size + 1, 0, none⟩)], Value.int .i64 (bAt s x.val : Int), Value.agg #[.int .i32 ((spA s x.val).r : Int), .int .i64 ((spA s x.val).n : Int), .bool (spA s x.val).bad], u 48, u 49, u 50, u 51, u 52, u 53, u 54, u 55, u 56, u 57, u 58, u 59, u 60, u 61, u 62, u 63, u 64, u 65, u 66, u 67, u 68, u 69, u 70, u 71, u 72, u 73, u 74, u 75, u 76, u 77, u 78, u 79, u 80, u 81, u 82, u 83, u 84, u 85, u 86, u 87, u 88, u 89, u 90, u 91, u 92, u 93, u 94, u 95, u 96, u 97, u 98, u 99, u 100, u 101, u 102, u 103, u 104, u 105, u 106, u 107, u 108, u 109, u 110, u 111, u 112, u 113, u 114, u 115, u 116, u 117, u 118, u 119, u 120, u 121, u 122, u 123, u 124, u 125, u 126, u 127], defers := [] })
        (fun x a' _ X Y row hs hg hr => by obtain ⟨Bx, h1, h2, h3⟩ := hs; exact ⟨Bx, h1, blk_own h2 hg hr, h3⟩)
        ?assign ?body ?done ?stop
      case own1 =>
        rintro pre V V' row ⟨h1, h2⟩ hg hr
        exact ⟨below_own h1 hg hr (Nat.le_refl _) (by omega), blk_own h2 hg hr⟩
      case own2 =>
        rintro cc pre V V' row h hg hr
        rcases h with h | ⟨h0, h3, h1, h2⟩
        · exact .inl h
        · exact .inr ⟨h0, h3, below_own h1 hg hr (Nat.le_refl _) (by omega), blk_own h2 hg hr⟩
      case assign =>
        rintro l pre x V K ⟨h1, h2⟩ hK
        have hlt := h2.lt
        gi_wp2
        exact hK _ _ ((KeepsOthers.alloc _ _).from _) (Keeps.below ((Below.refl _ V).alloc (Nat.le_refl _) _)) ⟨h1.alloc h1.size _, h2.alloc _⟩ ⟨V.heap.size, hlt, Blk.new V _ _, rfl⟩
      case body =>
        rintro l pre x a' V hl ⟨r, hr⟩ ⟨h1, h2⟩ ⟨Bx, hBx, bX, rfl⟩ hlt
        have hRV := HI.out.step h1
        have n0 := h2.cell 0
        have l0 := hRV.l.cell 0
        have x0 := bX.cell 0
        have x1 := bX.cell 1
        have x2 := bX.cell 2
        obtain ⟨g, y, eA, hg, hy, hyp, _, y0, y1, y2, y3⟩ := hRV.row.at pre.length hlt
        obtain rfl : spA s pre.length = y := spA_eq hy
        rw [eA] at l0
        rw [hyp] at y1
        simp only [List.getElem?_toArray, List.getElem?_cons_succ, List.getElem?_cons_zero] at n0 l0 x0 x1 x2
        have qN := h2.lt
        have qL := hRV.l.lt
        have qX := bX.lt
        have t0 : decide ((nS s : Int) ≤ (pre.length : Int)) = false := by rw [decide_eq_false_iff_not]; omega
        have t0' : decide (nS s ≤ pre.length) = false := by rw [decide_eq_false_iff_not]; omega
        have k0 : (0 : Int) ≤ (pre.length : Int) := by omega
        have k1 : (pre.length : Int) < (nS s : Int) := by omega
        have hpl : (pre.length : Int) < 9223372036854775807 := by omega
        have HRV := Lib.hid hRV
        have Hh1 := Lib.hid h1
        have Hh2 := Lib.hid h2
        clear h1 h2 bX hRV hy hyp eA hsz
        by_cases hx : x.val = pre.length
        · have t1 : ((bAt s x.val : Int) != (bAt s pre.length : Int)) = false := by rw [hx]; simp
          have R0 : Hid (∀ V', Below V.heap.size V V' → RU s w W1.heap.size A c st R8 ((0 : Nat) : Int) Ds V' ∧ Blk V' W.heap.size 3 #[.int .i64 (pre.length : Int)]) := Lib.hid (fun V' hb => ⟨HRV.out.step hb, Hh2.out.below hb⟩)
          rw [← hx] at y0 y1 y2 y3
          have y0' : V.cell? ⟨g, pre.length * 4, none⟩ = some (.int .i32 ((spA s x.val).r : Int)) := by rw [← hx]; exact y0
          have y1' : V.cell? ⟨g, pre.length * 4 + 1, none⟩ = some (.int .i64 (bAt s x.val : Int)) := by rw [← hx]; exact y1
          have y2' : V.cell? ⟨g, pre.length * 4 + 2, none⟩ = some (.int .i64 ((spA s x.val).n : Int)) := by rw [← hx]; exact y2
          have y3' : V.cell? ⟨g, pre.length * 4 + 3, none⟩ = some (.bool (spA s x.val).bad) := by rw [← hx]; exact y3
          clear y0 y1 y2 y3 hx t1
          have y0 := y0'
          have y1 := y1'
          have y2 := y2'
          have y3 := y3'
          have t1 : ((bAt s x.val : Int) != (bAt s x.val : Int)) = false := by simp
          clear y0' y1' y2' y3'
          gi_wp2_with fail
          refine wpIn_round_below (by kernel_rfl) (by kernel_rfl) (by kernel_rfl) ?_
          repeat (first
            | gi_big_quiet_skip
            | (gi_big_quiet_want; gi_big_quiet_op; first
                | go_big_quiet_on
                | (refine ⟨_, fun _ _ => rfl, ?_⟩; go_big_quiet_on)
                | (apply Exists.intro
                   refine ⟨fun w0 hC0 => ?_, ?_⟩
                   · (gi_at_call 25
                      refine (callsIn_wide.2 (same_any _ _ _ _ w0)).mono ?_
                      rintro e w8 ⟨rfl, hb8⟩
                      exact ⟨rfl, hC0.trans (hb8.mono hC0.size)⟩)
                   go_big_quiet_on)
                | (apply Exists.intro
                   refine ⟨fun w0 hC0 => ?_, ?_⟩
                   · (have n0 := (hC0.cell (p := ⟨W.heap.size, 0, none⟩) qN).trans n0
                      have l0 := (hC0.cell (p := ⟨W1.heap.size, 0, none⟩) qL).trans l0
                      have x0 := (hC0.cell (p := ⟨Bx, 0, none⟩) qX).trans x0
                      have x1 := (hC0.cell (p := ⟨Bx, 1, none⟩) qX).trans x1
                      have x2 := (hC0.cell (p := ⟨Bx, 2, none⟩) qX).trans x2
                      have y0 := (hC0.cell (p := ⟨g, pre.length * 4, none⟩) hg).trans y0
                      have y1 := (hC0.cell (p := ⟨g, pre.length * 4 + 1, none⟩) hg).trans y1
                      have y2 := (hC0.cell (p := ⟨g, pre.length * 4 + 2, none⟩) hg).trans y2
                      have y3 := (hC0.cell (p := ⟨g, pre.length * 4 + 3, none⟩) hg).trans y3
                      go_simp
                      rfl)
                   go_big_quiet_on)))
          refine wpQuietIn_nil ?_
          intro w8 hb8
          obtain ⟨hR8', hN8⟩ := R0.out w8 hb8
          have n8 := hN8.cell 0
          have nf := hN8.frozen 0
          have s8 := hR8'.sto.cell 0
          have r8 := hR8'.rnd.cell 0
          simp only [List.getElem?_toArray, List.getElem?_cons_zero] at n8 s8 r8
          replace r8 : w8.cell? ⟨R8, 0, none⟩ = some (.int .i64 0) := r8
          have Hfin : Hid (∀ m : Int, m = ((pre ++ [x]).length : Int) → KeepsFrom WS.heap.size V (w8.setCell ⟨W.heap.size, 0, none⟩ (.int .i64 m)) ∧ Keeps (fun k => k = w.heap.size + 1 ∨ k = W.heap.size) V (w8.setCell ⟨W.heap.size, 0, none⟩ (.int .i64 m)) ∧ Below W.heap.size W (w8.setCell ⟨W.heap.size, 0, none⟩ (.int .i64 m)) ∧ Blk (w8.setCell ⟨W.heap.size, 0, none⟩ (.int .i64 m)) W.heap.size 3 #[.int .i64 ((pre ++ [x]).length : Int)]) := Lib.hid (by
            rintro m rfl
            exact ⟨(keepsFrom_below hb8).trans (keepsFrom_set _ _ _ _), (Keeps.below hb8).trans (Keeps.setCell _ _ _ _ (.inr rfl)), (Hh1.out.trans (hb8.mono Hh1.out.size)).setCell (Nat.le_refl _) _, hN8.set_ 0 _⟩)
          clear hR8' hN8 hb8 y0 y1 y2 y3 l0 x0 x1 x2 R0 t0 t0' n0
          have lt1 := HI.out.rnd.lt
          have lt2 := HI.out.sto.lt
          have ne1 : ¬ R8 = W.heap.size := by omega
          have ne2 : ¬ w.heap.size = W.heap.size := by omega
          have ne3 : ¬ W.heap.size = R8 := by omega
          have ne4 : ¬ W.heap.size = w.heap.size := by omega
          have r9 : ∀ m : Int, (w8.setCell ⟨W.heap.size, 0, none⟩ (.int .i64 m)).cell? ⟨R8, 0, none⟩ = some (.int .i64 0) := fun m => (World.cell?_of_block (Below.heap_setCell _ _ _ _ ne1)).trans r8
          have s9 : ∀ m : Int, (w8.setCell ⟨W.heap.size, 0, none⟩ (.int .i64 m)).cell? ⟨w.heap.size, 0, none⟩ = some (.int .i64 st) := fun m => (World.cell?_of_block (Below.heap_setCell _ _ _ _ ne2)).trans s8
          by_cases hst8 : st < (pre.length : Int) + 1
          · gi_wp2
            obtain ⟨f1, _, f3, f4⟩ := Hfin.out ((pre.length : Int) + 1) (by simp)
            first | exact ⟨f1, .inr ⟨rfl, rfl, f3, f4⟩⟩ | exact ⟨f1, .inr ⟨rfl, f3, f4⟩⟩
          · gi_wp2
            obtain ⟨f1, f2, f3, f4⟩ := Hfin.out ((pre.length : Int) + 1) (by simp)
            exact ⟨f1, f2, f3, f4⟩
        · have hne : ¬ bAt s x.val = bAt s pre.length := fun h => by
            rcases Nat.lt_or_gt_of_ne hx with c | c
            · have := bAt_lt s x.val pre.length c (by omega); omega
            · have := bAt_lt s pre.length x.val c (by omega); omega
          have t1 : ((bAt s x.val : Int) != (bAt s pre.length : Int)) = true := by rw [bne_iff_ne]; omega
          have R0 := Lib.hid (fun V' (hb : Below V.heap.size V V') => (⟨(HRV.out.res.below hb).cell 0, (HRV.out.res.below hb).frozen 0⟩ : V'.cell? ⟨w.heap.size + 1, 0, none⟩ = some (.bool false) ∧ V'.frozen? ⟨w.heap.size + 1, 0, none⟩ = false))
          clear hne
          gi_wp2_with fail
          refine wpIn_round_below (by kernel_rfl) (by kernel_rfl) (by kernel_rfl) ?_
          repeat (first
            | gi_big_quiet_skip
            | (gi_big_quiet_want; gi_big_quiet_op; first
                | go_big_quiet_on
                | (refine ⟨_, fun _ _ => rfl, ?_⟩; go_big_quiet_on)
                | (apply Exists.intro
                   refine ⟨fun w0 hC0 => ?_, ?_⟩
                   · (gi_at_call 25
                      refine (callsIn_wide.2 (same_any _ _ _ _ w0)).mono ?_
                      rintro e w8 ⟨rfl, hb8⟩
                      exact ⟨rfl, hC0.trans (hb8.mono hC0.size)⟩)
                   go_big_quiet_on)
                | (apply Exists.intro
                   refine ⟨fun w0 hC0 => ?_, ?_⟩
                   · (have n0 := (hC0.cell (p := ⟨W.heap.size, 0, none⟩) qN).trans n0
                      have l0 := (hC0.cell (p := ⟨W1.heap.size, 0, none⟩) qL).trans l0
                      have x0 := (hC0.cell (p := ⟨Bx, 0, none⟩) qX).trans x0
                      have x1 := (hC0.cell (p := ⟨Bx, 1, none⟩) qX).trans x1
                      have x2 := (hC0.cell (p := ⟨Bx, 2, none⟩) qX).trans x2
                      have y0 := (hC0.cell (p := ⟨g, pre.length * 4, none⟩) hg).trans y0
                      have y1 := (hC0.cell (p := ⟨g, pre.length * 4 + 1, none⟩) hg).trans y1
                      have y2 := (hC0.cell (p := ⟨g, pre.length * 4 + 2, none⟩) hg).trans y2
                      have y3 := (hC0.cell (p := ⟨g, pre.length * 4 + 3, none⟩) hg).trans y3
                      go_simp
                      rfl)
                   go_big_quiet_on)))
          refine wpQuietIn_nil ?_
          intro w8 hb8
          obtain ⟨rc, rf⟩ := R0.out w8 hb8
          gi_wp2
          exact ⟨(keepsFrom_below hb8).trans (keepsFrom_set _ _ _ _), .inl ⟨rfl, pre, x, rfl, hx⟩⟩
      case done =>
        rintro D ys V hD rfl ⟨h1, h2⟩ hK
        have hlen : (List.finRange (nS s)).length = nS s := by simp
        rw [hlen] at h2
        simp only [Exit.then, Exit.inBlock]
        exact HA1 D (nS s) V h1 h2 hK (by omega) (Nat.le_refl _) (fun _ => rfl)
      case stop =>
        rintro D cc pre V hD ⟨k, hk, hpre⟩ (⟨rfl, p0, i, rfl, hne⟩ | ⟨rfl, h0, h1, h2⟩) hK
        · obtain ⟨h1, h2, h3⟩ := firstK_last hk hpre
          exact absurd h1 hne
        · apply wpIn_exit
          simp only [Exit.then, Exit.inBlock, ↓reduceIte]
          exact HA1 D pre.length V h1 h2 hK (by omega) (by rw [hpre, firstK_length s k hk]; exact hk) (fun h => by omega)
    · have r0 := hR.rnd.cell 0
      simp only [List.getElem?_toArray, List.getElem?_cons_zero] at r0
      gi_wp2
      rename_i Kc hKc Kb hKb Ka hKa
      have HA1 : ∀ (D m : Nat) (W' : World), Below W.heap.size W W' → Blk W' W.heap.size 3 #[.int .i64 (m : Int)] → W'.heap[D]? = some (.deferred (some [])) → W.heap.size + 1 ≤ D → m ≤ nS s → (1 = 1 → m = nS s) →
          Ka { tmps := #[Value.string s, Value.int .i64 stop, undef, Value.pointer (some ⟨w.heap.size, 0, none⟩), Value.pointer (some ⟨w.heap.size + 1, 0, none⟩), Value.pointer (some ⟨W1.heap.size, 0, none⟩), Value.func (.func 88) #[] #[.pointer (some ⟨W1.heap.size + 1, 0, none⟩)], Value.func (.func 93) #[] #[.pointer (some ⟨W1.heap.size + 1 + 1, 0, none⟩)], Value.pointer (some ⟨R8, 0, none⟩), Value.pointer (some ⟨W.heap.size, 0, none⟩), u 10, u 11, u 12, u 13, u 14, u 15, u 16, u 17, u 18, u 19, u 20, u 21, u 22, u 23, u 24, u 25, u 26, u 27, u 28, u 29, u 30, u 31, u 32, u 33, u 34, u 35, u 36, u 37, u 38, u 39, u 40, Value.int .i64 1, Value.bool true, u 43, u 44, Value.func (.func 88) #[] #[.pointer (some ⟨W1.heap.size + 1, 0, none⟩)], u 46, u 47, u 48, u 49, u 50, u 51, u 52, u 53, u 54, u 55, u 56, u 57, u 58, u 59, u 60, u 61, u 62, u 63, u 64, u 65, u 66, u 67, u 68, u 69, u 70, u 71, u 72, u 73, u 74, u 75, u 76, u 77, u 78, u 79, u 80, u 81, u 82, u 83, u 84, u 85, u 86, u 87, u 88, u 89, u 90, u 91, u 92, u 93, u 94, u 95, u 96, u 97, u 98, u 99, u 100, u 101, u 102, u 103, u 104, u 105, u 106, u 107, u 108, u 109, u 110, u 111, u 112, u 113, u 114, u 115, u 116, u 117, u 118, u 119, u 120, u 121, u 122, u 123, u 124, u 125, u 126, u 127], defers := { target := .collected D, args := #[] } :: marks Ds } W' := by
        intro D m W' hb hN hD hD1 hm hj1
        obtain rfl : m = nS s := hj1 rfl
        have t0 : ((nS s : Int) != (nS s : Int)) = false := by simp
        have hRV := hR.step hb
        have lt1 := hR.rnd.lt
        have lt2 := hR.l.lt
        have ne1 : ¬ R8 = W.heap.size := by omega
        have ne2 : ¬ W1.heap.size = W.heap.size := by omega
        have r8 := hRV.rnd.cell 0
        have l8 := hRV.l.cell 0
        have n8 := hN.cell 0
        have nf := hN.frozen 0
        simp only [List.getElem?_toArray, List.getElem?_cons_zero] at r8 l8 n8
        replace r8 : W'.cell? ⟨R8, 0, none⟩ = some (.int .i64 1) := r8
        refine hKa _ _ ?_
        gi_wp2
        rename_i Kd hKd
        have HB1 : ∀ (D2 m2 : Nat) (V' : World), Below W.heap.size W V' → Blk V' W.heap.size 3 #[.int .i64 (m2 : Int)] → V'.heap[D2]? = some (.deferred (some [])) → V'.heap[D]? = some (.deferred (some [])) → D < D2 → (1 = 1 → m2 = 0) →
            Kd { tmps := #[Value.string s, Value.int .i64 stop, undef, Value.pointer (some ⟨w.heap.size, 0, none⟩), Value.pointer (some ⟨w.heap.size + 1, 0, none⟩), Value.pointer (some ⟨W1.heap.size, 0, none⟩), Value.func (.func 88) #[] #[.pointer (some ⟨W1.heap.size + 1, 0, none⟩)], Value.func (.func 93) #[] #[.pointer (some ⟨W1.heap.size + 1 + 1, 0, none⟩)], Value.pointer (some ⟨R8, 0, none⟩), Value.pointer (some ⟨W.heap.size, 0, none⟩), u 10, u 11, u 12, u 13, u 14, u 15, u 16, u 17, u 18, u 19, u 20, u 21, u 22, u 23, u 24, u 25, u 26, u 27, u 28, u 29, u 30, u 31, u 32, u 33, u 34, u 35, u 36, u 37, u 38, u 39, u 40, Value.int .i64 1, Value.bool true, u 43, u 44, Value.func (.func 88) #[] #[.pointer (some ⟨W1.heap.size + 1, 0, none⟩)], u 46, u 47, u 48, u 49, u 50, u 51, u 52, u 53, u 54, u 55, u 56, u 57, u 58, u 59, u 60, u 61, u 62, u 63, u 64, u 65, u 66, u 67, u 68, u 69, u 70, u 71, u 72, u 73, u 74, u 75, u 76, u 77, u 78, Value.int .i64 1, Value.bool true, Value.bool true, Value.int .i64 (nS s : Int), Value.slice A (nS s) c, Value.int .i64 (nS s : Int), Value.bool false, Value.bool false, Value.slice A (nS s) c, Value.int .i64 (nS s : Int), Value.func (.func 93) #[] #[.pointer (some ⟨W1.heap.size + 1 + 1, 0, none⟩)], u 90, u 91, u 92, u 93, u 94, u 95, u 96, u 97, u 98, u 99, u 100, u 101, u 102, u 103, u 104, u 105, u 106, u 107, u 108, u 109, u 110, u 111, u 112, u 113, u 114, u 115, u 116, u 117, u 118, u 119, u 120, u 121, u 122, u 123, u 124, u 125, u 126, u 127], defers := { target := .collected D2, args := #[] } :: { target := .collected D, args := #[] } :: marks Ds } V' := by
          intro D2 m2 V' hb' hN' hD2 hDV hDD hj1'
          have hRV' := hR.step hb'
          have r8' := hRV'.rnd.cell 0
          have n8' := hN'.cell 0
          simp only [List.getElem?_toArray, List.getElem?_cons_zero] at r8' n8'
          replace r8' : V'.cell? ⟨R8, 0, none⟩ = some (.int .i64 1) := r8'
          have qV := hb'.size
          have hds := hR.ds
          have hnd := hR.nd
          have hfr := hR.far
          clear r8 l8 n8 nf hRV
          refine hKd _ _ ?_
          gi_wp2
          exact ⟨V'.heap.size, D2 :: D :: Ds, ofL [undef, undef, undef, undef, undef, undef, undef, undef, undef, _, _, _, _, _, _, _, _, _, _, _, _, _, _, _, _, _, _, _, _, _, _, _, _, _, _, _, _, _, _, _, _, _, _, _, _, _, _, _, _, _, _, _, _, _, _, _, _, _, _, _, _, _, _, _, _, _, _, _, _, _, _, _, _, _, _, _, _, _, _, _, _, _, _, _, _, _, _, _, _, _, _, _, _, _, _, _, _, _, _, _, _, _, _, _, _, _, _, _, _, _, _, _, _, _, _, _, _, _, _, _, _, _, _, _, _, _, _, _], rfl, hR.next hb' hDV hD2 (by omega) hDD _⟩
        have hq0 := lt_of_cell (HT.out.2 0 (by omega)).1
        have hfr := hR.far
        have hlb := hR.bb.lt
        have hlw := hR.sto.lt
        have hsW := hb.size
        have lD := (Array.getElem?_eq_some_iff.1 hD).1
        obtain ⟨WS2, hWS2⟩ : ∃ WS2, W'.setCell ⟨W.heap.size, 0, none⟩ (.int .i64 (nS s : Int)) = WS2 := ⟨_, rfl⟩
        have hz2 : WS2.heap.size = W'.heap.size := by rw [← hWS2]; simp [World.setCell]
        have hB2 : Below W.heap.size W WS2 := by rw [← hWS2]; exact hb.setCell (Nat.le_refl _) _
        have hN2 : Blk WS2 W.heap.size 3 #[.int .i64 (nS s : Int)] := by rw [← hWS2]; exact hN.set_ 0 _
        have hDS : WS2.heap[D]? = some (.deferred (some [])) := by rw [← hWS2]; exact (Below.heap_setCell _ _ _ _ (show D ≠ W.heap.size by omega)).trans hD
        have hR2 := hR.step hB2
        rw [hWS2]
        clear hWS2 r8 l8 n8 nf hRV
        refine wpIn_rangeFunc_ownH rfl (by omega) (gf := 93) (lb := #[.pointer (some ⟨W1.heap.size + 1 + 1, 0, none⟩)]) rfl trivial (enters_of Tryd.func93 (by kernel_rfl) rfl)
          (back_stops s (W1.heap.size + 1 + 1) (fun k => k = w.heap.size + 1 ∨ k = W.heap.size) (by show ¬ (_ = _ ∨ _ = _); omega) (by show ¬ (_ = _ ∨ _ = _); omega) (by show ¬ (_ = _ ∨ _ = _); omega) WS2 hR2.bb (Utf8Tabs_below HT.out hR2.below) (by omega) (6 - 1) (by omega)) (fun h k => h.trans k) keeps_b (Below.refl _ _) (fun _ => rfl)
          (fun pre V => Below W.heap.size W V ∧ Blk V W.heap.size 3 #[.int .i64 ((nS s - pre.length : Nat) : Int)] ∧ V.heap[D]? = some (.deferred (some []))) (fun c pre V => (c = .ret ∧ ∃ p0 x, pre = p0 ++ [x] ∧ x.val ≠ p0.length) ∨ (c = .exit 4 ∧ 1 = 0 ∧ Below W.heap.size W V ∧ Blk V W.heap.size 3 #[.int .i64 ((nS s - pre.length : Nat) : Int)] ∧ V.heap[D]? = some (.deferred (some []))))
          ?ownb1 ?ownb2 ⟨hB2, hN2, hDS⟩
          (fun x a' V => ∃ Bx, W.heap.size < Bx ∧ Blk V Bx 25 #[.int .i32 ((spA s (nS s - (x.val + 1))).r : Int), .int .i64 ((spA s (nS s - (x.val + 1))).n : Int), .bool (spA s (nS s - (x.val + 1))).bad] ∧ a' = { tmps := #[Value.string s, Value.int .i64 stop, undef, Value.pointer (some ⟨w.heap.size, 0, none⟩), Value.pointer (some ⟨w.heap.size + 1, 0, none⟩), Value.pointer (some ⟨W1.heap.size, 0, none⟩), Value.func (.func 88) #[] #[.pointer (some ⟨W1.heap.size + 1, 0, none⟩)], Value.func (.func 93) #[] #[.pointer (some ⟨W1.heap.size + 1 + 1, 0, none⟩)], Value.pointer (some ⟨R8, 0, none⟩), Value.pointer (some ⟨W.heap.size, 0, none⟩), u 10, u 11, Value.int .i64 (bAt s (nS s - (x.val + 1)) : Int), Value.pointer (some ⟨Bx, 0, none⟩), u 14, u 15, u 16, u 17, u 18, u 19, u 20, u 21, u 22, u 23, u 24, u 25, u 26, u 27, u 28, u 29, u 30, u 31, u 32, u 33, u 34, u 35, u 36, u 37, u 38, u 39, u 40, Value.int .i64 1, Value.bool true, u 43, u 44, Value.func (.func 88) #[] #[.pointer (some ⟨W1.heap.size + 1, 0, none⟩)], u 46, u 47, u 48, u 49, u 50, u 51, u 52, u 53, u 54, u 55, u 56, u 57, u 58, u 59, u 60, u 61, u 62, u 63, u 64, u 65, u 66, u 67, u 68, u 69, u 70, u 71, u 72, u 73, u 74, u 75, u 76, u 77, u 78, Value.int .i64 1, Value.bool true, Value.bool true, Value.int .i64 (nS s : Int), Value.slice A (nS s) c, Value.int .i64 (nS s : Int), Value.bool false, Value.bool false, Value.slice A (nS s) c, Value.int .i64 (nS s : Int), Value.func (.func 93) #[] #[.pointer (some ⟨W1.heap.size + 1 + 1, 0, none⟩)], Value.int .i64 (bAt s (nS s - (x.val + 1)) : Int), Value.agg #[.int .i32 ((spA s (nS s - (x.val + 1))).r : Int), .int .i64 ((spA s (nS s - (x.val + 1))).n : Int), .bool (spA s (nS s - (x.val + 1))).bad], u 92, u 93, u 94, u 95, u 96, u 97, u 98, u 99, u 100, u 101, u 102, u 103, u 104, u 105, u 106, u 107, u 108, u 109, u 110, u 111, u 112, u 113, u 114, u 115, u 116, u 117, u 118, u 119, u 120, u 121, u 122, u 123, u 124, u 125, u 126, u 127], defers := [] })
          (fun x a' _ X Y row hs hg hr => by obtain ⟨Bx, h1, h2, h3⟩ := hs; exact ⟨Bx, h1, blk_own h2 hg hr, h3⟩)
          ?assignb ?bodyb ?doneb ?stopb
        case ownb1 =>
          rintro pre V V' row ⟨h1, h2, h3⟩ hg hr
          exact ⟨below_own h1 hg hr (Nat.le_refl _) (by omega), blk_own h2 hg hr, (hg.block D (Array.getElem?_eq_some_iff.1 h3).1 (fun e => by have := (hr _ e.symm).1; omega)).trans h3⟩
        case ownb2 =>
          rintro cc pre V V' row h hg hr
          rcases h with h | ⟨h0, h4, h1, h2, h3⟩
          · exact .inl h
          · exact .inr ⟨h0, h4, below_own h1 hg hr (Nat.le_refl _) (by omega), blk_own h2 hg hr, (hg.block D (Array.getElem?_eq_some_iff.1 h3).1 (fun e => by have := (hr _ e.symm).1; omega)).trans h3⟩
        case assignb =>
          rintro l pre x V K ⟨h1, h2, h3⟩ hK
          have hlt := h2.lt
          gi_wp2
          exact hK _ _ ((KeepsOthers.alloc _ _).from _) (Keeps.below ((Below.refl _ V).alloc (Nat.le_refl _) _)) ⟨h1.alloc h1.size _, h2.alloc _, (Below.heap_alloc _ _ _ (Array.getElem?_eq_some_iff.1 h3).1).trans h3⟩ ⟨V.heap.size, hlt, Blk.new V _ _, rfl⟩
        case bodyb =>
          rintro l pre x a' V hl ⟨r, hr⟩ ⟨h1, h2, h3⟩ ⟨Bx, hBx, bX, rfl⟩ hlt
          obtain ⟨q, hq⟩ : ∃ q, nS s - (pre.length + 1) = q := ⟨_, rfl⟩
          obtain ⟨z, hz⟩ : ∃ z, nS s - (x.val + 1) = z := ⟨_, rfl⟩
          have hq1 : nS s - pre.length = q + 1 := by omega
          have hqn : q < nS s := by omega
          have hxl := x.isLt
          have hzn : z < nS s := by omega
          have hxq : x.val = pre.length ↔ z = q := by omega
          rw [hq1] at h2
          rw [hz] at bX
          simp only [hz]
          have n0 := h2.cell 0
          have nf := h2.frozen 0
          simp only [List.getElem?_toArray, List.getElem?_cons_zero] at n0
          replace n0 : V.cell? ⟨W.heap.size, 0, none⟩ = some (.int .i64 ((q : Int) + 1)) := n0
          have hqb : (q : Int) < 9223372036854775807 := by omega
          have qX := bX.lt
          obtain ⟨V2, hV2⟩ : ∃ V2, V.setCell ⟨W.heap.size, 0, none⟩ (.int .i64 (q : Int)) = V2 := ⟨_, rfl⟩
          have h1' : Below W.heap.size W V2 := by rw [← hV2]; exact h1.setCell (Nat.le_refl _) _
          have h2' : Blk V2 W.heap.size 3 #[.int .i64 (q : Int)] := by rw [← hV2]; exact h2.set_ 0 _
          have bX' : Blk V2 Bx 25 #[.int .i32 ((spA s z).r : Int), .int .i64 ((spA s z).n : Int), .bool (spA s z).bad] := by rw [← hV2]; exact bX.of (Below.heap_setCell _ _ _ _ (show Bx ≠ W.heap.size by omega))
          have lD' := (Array.getElem?_eq_some_iff.1 h3).1
          have h3' : V2.heap[D]? = some (.deferred (some [])) := by rw [← hV2]; exact (Below.heap_setCell _ _ _ _ (show D ≠ W.heap.size by omega)).trans h3
          have hkf : KeepsFrom WS2.heap.size V V2 := by rw [← hV2]; exact keepsFrom_set _ _ _ _
          have hkk : Keeps (fun k => k = w.heap.size + 1 ∨ k = W.heap.size) V V2 := by rw [← hV2]; exact Keeps.setCell _ _ _ _ (.inr rfl)
          have hRV := hR.step h1'
          have hR0 := Lib.hid hR
          clear h1 h2 bX h3 hR2
          gi_wp2_with fail
          try rw [hV2]
          clear hV2 n0 nf
          have n0 := h2'.cell 0
          have l0 := hRV.l.cell 0
          have x0 := bX'.cell 0
          have x1 := bX'.cell 1
          have x2 := bX'.cell 2
          obtain ⟨g, y, eA, hg, hy, hyp, _, y0, y1, y2, y3⟩ := hRV.row.at q hqn
          obtain rfl : spA s q = y := spA_eq hy
          rw [eA] at l0
          rw [hyp] at y1
          simp only [List.getElem?_toArray, List.getElem?_cons_succ, List.getElem?_cons_zero] at n0 l0 x0 x1 x2
          have qN := h2'.lt
          have qL := hRV.l.lt
          have qX := bX'.lt
          have t0 : decide ((q : Int) < 0) = false := by rw [decide_eq_false_iff_not]; omega
          have k0 : (0 : Int) ≤ (q : Int) := by omega
          have k1 : (q : Int) < (nS s : Int) := by omega
          have HRV := Lib.hid hRV
          have Hh1 := Lib.hid h1'
          have Hh2 := Lib.hid h2'
          have Hh3 := Lib.hid h3'
          have Hkf := Lib.hid hkf
          have Hkk := Lib.hid hkk
          clear h1' h2' h3' hkf hkk bX' hRV hy hyp eA
          by_cases hx : z = q
          · have t1 : ((bAt s z : Int) != (bAt s q : Int)) = false := by rw [hx]; simp
            have R0 : Hid (∀ V', Below V2.heap.size V2 V' → RU s w W1.heap.size A c st R8 ((1 : Nat) : Int) Ds V' ∧ Blk V' W.heap.size 3 #[.int .i64 (q : Int)] ∧ V'.heap[D]? = some (.deferred (some []))) := Lib.hid (fun V' hb => ⟨HRV.out.step hb, Hh2.out.below hb, (hb.block D (Array.getElem?_eq_some_iff.1 Hh3.out).1).trans Hh3.out⟩)
            subst hx
            have t1 : ((bAt s z : Int) != (bAt s z : Int)) = false := by simp
            refine wpIn_round_below (by kernel_rfl) (by kernel_rfl) (by kernel_rfl) ?_
            repeat (first
              | gi_big_quiet_skip
              | (gi_big_quiet_want; gi_big_quiet_op; first
                  | go_big_quiet_on
                  | (refine ⟨_, fun _ _ => rfl, ?_⟩; go_big_quiet_on)
                  | (apply Exists.intro
                     refine ⟨fun w0 hC0 => ?_, ?_⟩
                     · (gi_at_call 25
                        refine (callsIn_wide.2 (same_any _ _ _ _ w0)).mono ?_
                        rintro e w8 ⟨rfl, hb8⟩
                        exact ⟨rfl, hC0.trans (hb8.mono hC0.size)⟩)
                     go_big_quiet_on)
                  | (apply Exists.intro
                     refine ⟨fun w0 hC0 => ?_, ?_⟩
                     · (have n0 := (hC0.cell (p := ⟨W.heap.size, 0, none⟩) qN).trans n0
                        have l0 := (hC0.cell (p := ⟨W1.heap.size, 0, none⟩) qL).trans l0
                        have x0 := (hC0.cell (p := ⟨Bx, 0, none⟩) qX).trans x0
                        have x1 := (hC0.cell (p := ⟨Bx, 1, none⟩) qX).trans x1
                        have x2 := (hC0.cell (p := ⟨Bx, 2, none⟩) qX).trans x2
                        have y0 := (hC0.cell (p := ⟨g, z * 4, none⟩) hg).trans y0
                        have y1 := (hC0.cell (p := ⟨g, z * 4 + 1, none⟩) hg).trans y1
                        have y2 := (hC0.cell (p := ⟨g, z * 4 + 2, none⟩) hg).trans y2
                        have y3 := (hC0.cell (p := ⟨g, z * 4 + 3, none⟩) hg).trans y3
                        go_simp
                        rfl)
                     go_big_quiet_on)))
            refine wpQuietIn_nil ?_
            intro w8 hb8
            obtain ⟨hR8', hN8, hD8⟩ := R0.out w8 hb8
            have n8 := hN8.cell 0
            have s8 := hR8'.sto.cell 0
            have r8 := hR8'.rnd.cell 0
            simp only [List.getElem?_toArray, List.getElem?_cons_zero] at n8 s8 r8
            replace r8 : w8.cell? ⟨R8, 0, none⟩ = some (.int .i64 1) := r8
            have hle : (pre ++ [x]).length = pre.length + 1 := by simp
            have Hfin : Hid (KeepsFrom WS2.heap.size V w8 ∧ Keeps (fun k => k = w.heap.size + 1 ∨ k = W.heap.size) V w8 ∧ Below W.heap.size W w8 ∧ Blk w8 W.heap.size 3 #[.int .i64 ((nS s - (pre ++ [x]).length : Nat) : Int)] ∧ w8.heap[D]? = some (.deferred (some []))) := Lib.hid (by
              rw [hle, hq]
              exact ⟨Hkf.out.trans (keepsFrom_below hb8), Hkk.out.trans (Keeps.below hb8), Hh1.out.trans (hb8.mono Hh1.out.size), hN8, hD8⟩)
            clear hR8' hN8 hb8 y0 y1 y2 y3 l0 x0 x1 x2 R0 t0 n0 hD8
            gi_wp2
            obtain ⟨f1, f2, f3, f4, f5⟩ := Hfin.out
            try rw [hz2] at f1
            exact ⟨f1, f2, f3, f4, f5⟩
          · have hne : ¬ bAt s z = bAt s q := fun h => by
              rcases Nat.lt_or_gt_of_ne hx with c | c
              · have := bAt_lt s z q c (by omega); omega
              · have := bAt_lt s q z c (by omega); omega
            have t1 : ((bAt s z : Int) != (bAt s q : Int)) = true := by rw [bne_iff_ne]; omega
            have R0 := Lib.hid (fun V' (hb : Below V2.heap.size V2 V') => (⟨(HRV.out.res.below hb).cell 0, (HRV.out.res.below hb).frozen 0⟩ : V'.cell? ⟨w.heap.size + 1, 0, none⟩ = some (.bool false) ∧ V'.frozen? ⟨w.heap.size + 1, 0, none⟩ = false))
            clear hne
            refine wpIn_round_below (by kernel_rfl) (by kernel_rfl) (by kernel_rfl) ?_
            repeat (first
              | gi_big_quiet_skip
              | (gi_big_quiet_want; gi_big_quiet_op; first
                  | go_big_quiet_on
                  | (refine ⟨_, fun _ _ => rfl, ?_⟩; go_big_quiet_on)
                  | (apply Exists.intro
                     refine ⟨fun w0 hC0 => ?_, ?_⟩
                     · (gi_at_call 25
                        refine (callsIn_wide.2 (same_any _ _ _ _ w0)).mono ?_
                        rintro e w8 ⟨rfl, hb8⟩
                        exact ⟨rfl, hC0.trans (hb8.mono hC0.size)⟩)
                     go_big_quiet_on)
                  | (apply Exists.intro
                     refine ⟨fun w0 hC0 => ?_, ?_⟩
                     · (have n0 := (hC0.cell (p := ⟨W.heap.size, 0, none⟩) qN).trans n0
                        have l0 := (hC0.cell (p := ⟨W1.heap.size, 0, none⟩) qL).trans l0
                        have x0 := (hC0.cell (p := ⟨Bx, 0, none⟩) qX).trans x0
                        have x1 := (hC0.cell (p := ⟨Bx, 1, none⟩) qX).trans x1
                        have x2 := (hC0.cell (p := ⟨Bx, 2, none⟩) qX).trans x2
                        have y0 := (hC0.cell (p := ⟨g, q * 4, none⟩) hg).trans y0
                        have y1 := (hC0.cell (p := ⟨g, q * 4 + 1, none⟩) hg).trans y1
                        have y2 := (hC0.cell (p := ⟨g, q * 4 + 2, none⟩) hg).trans y2
                        have y3 := (hC0.cell (p := ⟨g, q * 4 + 3, none⟩) hg).trans y3
                        go_simp
                        rfl)
                     go_big_quiet_on)))
            refine wpQuietIn_nil ?_
            intro w8 hb8
            obtain ⟨rc, rf⟩ := R0.out w8 hb8
            gi_wp2
            exact ⟨(Hkf.out.trans (keepsFrom_below hb8)).trans (keepsFrom_set _ _ _ _), .inl ⟨rfl, pre, x, rfl, fun h => hx (hxq.1 h)⟩⟩
        case doneb =>
          rintro D2 ys V hD2 rfl ⟨h1, h2, h3⟩ hK
          have hlen : (List.finRange (nS s)).length = nS s := by simp
          rw [hlen] at h2
          simp only [Exit.then, Exit.inBlock]
          exact HB1 D2 (nS s - nS s) V h1 h2 hK h3 (by omega) (fun _ => by omega)
        case stopb =>
          rintro D2 cc pre V hD2 ⟨k, hk, hpre⟩ (⟨rfl, p0, i, rfl, hne⟩ | ⟨rfl, h0, h1, h2, h3⟩) hK
          · obtain ⟨h1, h2, h3⟩ := firstK_last hk hpre
            exact absurd h1 hne
          · apply wpIn_exit
            simp only [Exit.then, Exit.inBlock, ↓reduceIte]
            exact HB1 D2 (nS s - pre.length) V h1 h2 hK h3 (by omega) (fun h => by omega)
      have HI := Lib.hid hR
      have hlR := hR.l.lt
      have hfar := hR.far
      obtain ⟨WS, hWS⟩ : ∃ WS, W.alloc (.cells #[.int .i64 0] 3) = WS := ⟨_, rfl⟩
      have hsz : WS.heap.size = W.heap.size + 1 := by rw [← hWS]; simp
      have hW1 : Below W.heap.size W WS := by rw [← hWS]; exact (Below.refl _ W).alloc (Nat.le_refl _) _
      have hN1 : Blk WS W.heap.size 3 #[.int .i64 0] := by rw [← hWS]; exact Blk.new W _ _
      have hbS := (hR.step hW1).bs
      have hqq := (hR.bb).lt
      rw [hWS]
      clear hWS
      refine wpIn_rangeFunc_ownH rfl (by omega) (gf := 88) (lb := #[.pointer (some ⟨W1.heap.size + 1, 0, none⟩)]) rfl trivial (enters_of Tryd.func88 (by kernel_rfl) rfl)
        (spots_stops s (W1.heap.size + 1) (fun k => k = w.heap.size + 1 ∨ k = W.heap.size) (by show ¬ (_ = _ ∨ _ = _); omega) WS hbS (6 - 1) (by omega)) (fun h k => h.trans k) keeps_b (Below.refl _ _) (fun _ => rfl)
        (fun pre V => Below W.heap.size W V ∧ Blk V W.heap.size 3 #[.int .i64 (pre.length : Int)]) (fun c pre V => (c = .ret ∧ ∃ p0 x, pre = p0 ++ [x] ∧ x.val ≠ p0.length) ∨ (c = .exit 2 ∧ 1 = 0 ∧ Below W.heap.size W V ∧ Blk V W.heap.size 3 #[.int .i64 (pre.length : Int)]))
        ?own1 ?own2 ⟨hW1, hN1⟩
        (fun x a' V => ∃ Bx, W.heap.size < Bx ∧ Blk V Bx 25 #[.int .i32 ((spA s x.val).r : Int), .int .i64 ((spA s x.val).n : Int), .bool (spA s x.val).bad] ∧ a' = { tmps := #[Value.string s, Value.int .i64 stop, undef, Value.pointer (some ⟨w.heap.size, 0, none⟩), Value.pointer (some ⟨w.heap.size + 1, 0, none⟩), Value.pointer (some ⟨W1.heap.size, 0, none⟩), Value.func (.func 88) #[] #[.pointer (some ⟨W1.heap.size + 1, 0, none⟩)], Value.func (.func 93) #[] #[.pointer (some ⟨W1.heap.size + 1 + 1, 0, none⟩)], Value.pointer (some ⟨R8, 0, none⟩), Value.pointer (some ⟨W.heap.size, 0, none⟩), Value.int .i64 (bAt s x.val : Int), Value.pointer (some ⟨Bx, 0, none⟩), u 12, u 13, u 14, u 15, u 16, u 17, u 18, u 19, u 20, u 21, u 22, u 23, u 24, u 25, u 26, u 27, u 28, u 29, u 30, u 31, u 32, u 33, u 34, u 35, u 36, u 37, u 38, u 39, u 40, Value.int .i64 1, Value.bool true, u 43, u 44, Value.func (.func 88) #[] #[.pointer (some ⟨W1.heap.size + 1, 0, none⟩)], Value.int .i64 (bAt s x.val : Int), Value.agg #[.int .i32 ((spA s x.val).r : Int), .int .i64 ((spA s x.val).n : Int), .bool (spA s x.val).bad], u 48, u 49, u 50, u 51, u 52, u 53, u 54, u 55, u 56, u 57, u 58, u 59, u 60, u 61, u 62, u 63, u 64, u 65, u 66, u 67, u 68, u 69, u 70, u 71, u 72, u 73, u 74, u 75, u 76, u 77, u 78, u 79, u 80, u 81, u 82, u 83, u 84, u 85, u 86, u 87, u 88, u 89, u 90, u 91, u 92, u 93, u 94, u 95, u 96, u 97, u 98, u 99, u 100, u 101, u 102, u 103, u 104, u 105, u 106, u 107, u 108, u 109, u 110, u 111, u 112, u 113, u 114, u 115, u 116, u 117, u 118, u 119, u 120, u 121, u 122, u 123, u 124, u 125, u 126, u 127], defers := [] })
        (fun x a' _ X Y row hs hg hr => by obtain ⟨Bx, h1, h2, h3⟩ := hs; exact ⟨Bx, h1, blk_own h2 hg hr, h3⟩)
        ?assign ?body ?done ?stop
      case own1 =>
        rintro pre V V' row ⟨h1, h2⟩ hg hr
        exact ⟨below_own h1 hg hr (Nat.le_refl _) (by omega), blk_own h2 hg hr⟩
      case own2 =>
        rintro cc pre V V' row h hg hr
        rcases h with h | ⟨h0, h3, h1, h2⟩
        · exact .inl h
        · exact .inr ⟨h0, h3, below_own h1 hg hr (Nat.le_refl _) (by omega), blk_own h2 hg hr⟩
      case assign =>
        rintro l pre x V K ⟨h1, h2⟩ hK
        have hlt := h2.lt
        gi_wp2
        exact hK _ _ ((KeepsOthers.alloc _ _).from _) (Keeps.below ((Below.refl _ V).alloc (Nat.le_refl _) _)) ⟨h1.alloc h1.size _, h2.alloc _⟩ ⟨V.heap.size, hlt, Blk.new V _ _, rfl⟩
      case body =>
        rintro l pre x a' V hl ⟨r, hr⟩ ⟨h1, h2⟩ ⟨Bx, hBx, bX, rfl⟩ hlt
        have hRV := HI.out.step h1
        have n0 := h2.cell 0
        have l0 := hRV.l.cell 0
        have x0 := bX.cell 0
        have x1 := bX.cell 1
        have x2 := bX.cell 2
        obtain ⟨g, y, eA, hg, hy, hyp, _, y0, y1, y2, y3⟩ := hRV.row.at pre.length hlt
        obtain rfl : spA s pre.length = y := spA_eq hy
        rw [eA] at l0
        rw [hyp] at y1
        simp only [List.getElem?_toArray, List.getElem?_cons_succ, List.getElem?_cons_zero] at n0 l0 x0 x1 x2
        have qN := h2.lt
        have qL := hRV.l.lt
        have qX := bX.lt
        have t0 : decide ((nS s : Int) ≤ (pre.length : Int)) = false := by rw [decide_eq_false_iff_not]; omega
        have t0' : decide (nS s ≤ pre.length) = false := by rw [decide_eq_false_iff_not]; omega
        have k0 : (0 : Int) ≤ (pre.length : Int) := by omega
        have k1 : (pre.length : Int) < (nS s : Int) := by omega
        have hpl : (pre.length : Int) < 9223372036854775807 := by omega
        have HRV := Lib.hid hRV
        have Hh1 := Lib.hid h1
        have Hh2 := Lib.hid h2
        clear h1 h2 bX hRV hy hyp eA hsz
        by_cases hx : x.val = pre.length
        · have t1 : ((bAt s x.val : Int) != (bAt s pre.length : Int)) = false := by rw [hx]; simp
          have R0 : Hid (∀ V', Below V.heap.size V V' → RU s w W1.heap.size A c st R8 ((1 : Nat) : Int) Ds V' ∧ Blk V' W.heap.size 3 #[.int .i64 (pre.length : Int)]) := Lib.hid (fun V' hb => ⟨HRV.out.step hb, Hh2.out.below hb⟩)
          rw [← hx] at y0 y1 y2 y3
          have y0' : V.cell? ⟨g, pre.length * 4, none⟩ = some (.int .i32 ((spA s x.val).r : Int)) := by rw [← hx]; exact y0
          have y1' : V.cell? ⟨g, pre.length * 4 + 1, none⟩ = some (.int .i64 (bAt s x.val : Int)) := by rw [← hx]; exact y1
          have y2' : V.cell? ⟨g, pre.length * 4 + 2, none⟩ = some (.int .i64 ((spA s x.val).n : Int)) := by rw [← hx]; exact y2
          have y3' : V.cell? ⟨g, pre.length * 4 + 3, none⟩ = some (.bool (spA s x.val).bad) := by rw [← hx]; exact y3
          clear y0 y1 y2 y3 hx t1
          have y0 := y0'
          have y1 := y1'
          have y2 := y2'
          have y3 := y3'
          have t1 : ((bAt s x.val : Int) != (bAt s x.val : Int)) = false := by simp
          clear y0' y1' y2' y3'
          gi_wp2_with fail
          refine wpIn_round_below (by kernel_rfl) (by kernel_rfl) (by kernel_rfl) ?_
          repeat (first
            | gi_big_quiet_skip
            | (gi_big_quiet_want; gi_big_quiet_op; first
                | go_big_quiet_on
                | (refine ⟨_, fun _ _ => rfl, ?_⟩; go_big_quiet_on)
                | (apply Exists.intro
                   refine ⟨fun w0 hC0 => ?_, ?_⟩
                   · (gi_at_call 25
                      refine (callsIn_wide.2 (same_any _ _ _ _ w0)).mono ?_
                      rintro e w8 ⟨rfl, hb8⟩
                      exact ⟨rfl, hC0.trans (hb8.mono hC0.size)⟩)
                   go_big_quiet_on)
                | (apply Exists.intro
                   refine ⟨fun w0 hC0 => ?_, ?_⟩
                   · (have n0 := (hC0.cell (p := ⟨W.heap.size, 0, none⟩) qN).trans n0
                      have l0 := (hC0.cell (p := ⟨W1.heap.size, 0, none⟩) qL).trans l0
                      have x0 := (hC0.cell (p := ⟨Bx, 0, none⟩) qX).trans x0
                      have x1 := (hC0.cell (p := ⟨Bx, 1, none⟩) qX).trans x1
                      have x2 := (hC0.cell (p := ⟨Bx, 2, none⟩) qX).trans x2
                      have y0 := (hC0.cell (p := ⟨g, pre.length * 4, none⟩) hg).trans y0
                      have y1 := (hC0.cell (p := ⟨g, pre.length * 4 + 1, none⟩) hg).trans y1
                      have y2 := (hC0.cell (p := ⟨g, pre.length * 4 + 2, none⟩) hg).trans y2
                      have y3 := (hC0.cell (p := ⟨g, pre.length * 4 + 3, none⟩) hg).trans y3
                      go_simp
                      rfl)
                   go_big_quiet_on)))
          refine wpQuietIn_nil ?_
          intro w8 hb8
          obtain ⟨hR8', hN8⟩ := R0.out w8 hb8
          have n8 := hN8.cell 0
          have nf := hN8.frozen 0
          have s8 := hR8'.sto.cell 0
          have r8 := hR8'.rnd.cell 0
          simp only [List.getElem?_toArray, List.getElem?_cons_zero] at n8 s8 r8
          replace r8 : w8.cell? ⟨R8, 0, none⟩ = some (.int .i64 1) := r8
          have Hfin : Hid (∀ m : Int, m = ((pre ++ [x]).length : Int) → KeepsFrom WS.heap.size V (w8.setCell ⟨W.heap.size, 0, none⟩ (.int .i64 m)) ∧ Keeps (fun k => k = w.heap.size + 1 ∨ k = W.heap.size) V (w8.setCell ⟨W.heap.size, 0, none⟩ (.int .i64 m)) ∧ Below W.heap.size W (w8.setCell ⟨W.heap.size, 0, none⟩ (.int .i64 m)) ∧ Blk (w8.setCell ⟨W.heap.size, 0, none⟩ (.int .i64 m)) W.heap.size 3 #[.int .i64 ((pre ++ [x]).length : Int)]) := Lib.hid (by
            rintro m rfl
            exact ⟨(keepsFrom_below hb8).trans (keepsFrom_set _ _ _ _), (Keeps.below hb8).trans (Keeps.setCell _ _ _ _ (.inr rfl)), (Hh1.out.trans (hb8.mono Hh1.out.size)).setCell (Nat.le_refl _) _, hN8.set_ 0 _⟩)
          clear hR8' hN8 hb8 y0 y1 y2 y3 l0 x0 x1 x2 R0 t0 t0' n0
          have lt1 := HI.out.rnd.lt
          have lt2 := HI.out.sto.lt
          have ne1 : ¬ R8 = W.heap.size := by omega
          have ne2 : ¬ w.heap.size = W.heap.size := by omega
          have ne3 : ¬ W.heap.size = R8 := by omega
          have ne4 : ¬ W.heap.size = w.heap.size := by omega
          have r9 : ∀ m : Int, (w8.setCell ⟨W.heap.size, 0, none⟩ (.int .i64 m)).cell? ⟨R8, 0, none⟩ = some (.int .i64 1) := fun m => (World.cell?_of_block (Below.heap_setCell _ _ _ _ ne1)).trans r8
          have s9 : ∀ m : Int, (w8.setCell ⟨W.heap.size, 0, none⟩ (.int .i64 m)).cell? ⟨w.heap.size, 0, none⟩ = some (.int .i64 st) := fun m => (World.cell?_of_block (Below.heap_setCell _ _ _ _ ne2)).trans s8
          gi_wp2
          obtain ⟨f1, f2, f3, f4⟩ := Hfin.out ((pre.length : Int) + 1) (by simp)
          exact ⟨f1, f2, f3, f4⟩
        · have hne : ¬ bAt s x.val = bAt s pre.length := fun h => by
            rcases Nat.lt_or_gt_of_ne hx with c | c
            · have := bAt_lt s x.val pre.length c (by omega); omega
            · have := bAt_lt s pre.length x.val c (by omega); omega
          have t1 : ((bAt s x.val : Int) != (bAt s pre.length : Int)) = true := by rw [bne_iff_ne]; omega
          have R0 := Lib.hid (fun V' (hb : Below V.heap.size V V') => (⟨(HRV.out.res.below hb).cell 0, (HRV.out.res.below hb).frozen 0⟩ : V'.cell? ⟨w.heap.size + 1, 0, none⟩ = some (.bool false) ∧ V'.frozen? ⟨w.heap.size + 1, 0, none⟩ = false))
          clear hne
          gi_wp2_with fail
          refine wpIn_round_below (by kernel_rfl) (by kernel_rfl) (by kernel_rfl) ?_
          repeat (first
            | gi_big_quiet_skip
            | (gi_big_quiet_want; gi_big_quiet_op; first
                | go_big_quiet_on
                | (refine ⟨_, fun _ _ => rfl, ?_⟩; go_big_quiet_on)
                | (apply Exists.intro
                   refine ⟨fun w0 hC0 => ?_, ?_⟩
                   · (gi_at_call 25
                      refine (callsIn_wide.2 (same_any _ _ _ _ w0)).mono ?_
                      rintro e w8 ⟨rfl, hb8⟩
                      exact ⟨rfl, hC0.trans (hb8.mono hC0.size)⟩)
                   go_big_quiet_on)
                | (apply Exists.intro
                   refine ⟨fun w0 hC0 => ?_, ?_⟩
                   · (have n0 := (hC0.cell (p := ⟨W.heap.size, 0, none⟩) qN).trans n0
                      have l0 := (hC0.cell (p := ⟨W1.heap.size, 0, none⟩) qL).trans l0
                      have x0 := (hC0.cell (p := ⟨Bx, 0, none⟩) qX).trans x0
                      have x1 := (hC0.cell (p := ⟨Bx, 1, none⟩) qX).trans x1
                      have x2 := (hC0.cell (p := ⟨Bx, 2, none⟩) qX).trans x2
                      have y0 := (hC0.cell (p := ⟨g, pre.length * 4, none⟩) hg).trans y0
                      have y1 := (hC0.cell (p := ⟨g, pre.length * 4 + 1, none⟩) hg).trans y1
                      have y2 := (hC0.cell (p := ⟨g, pre.length * 4 + 2, none⟩) hg).trans y2
                      have y3 := (hC0.cell (p := ⟨g, pre.length * 4 + 3, none⟩) hg).trans y3
                      go_simp
                      rfl)
                   go_big_quiet_on)))
          refine wpQuietIn_nil ?_
          intro w8 hb8
          obtain ⟨rc, rf⟩ := R0.out w8 hb8
          gi_wp2
          exact ⟨(keepsFrom_below hb8).trans (keepsFrom_set _ _ _ _), .inl ⟨rfl, pre, x, rfl, hx⟩⟩
      case done =>
        rintro D ys V hD rfl ⟨h1, h2⟩ hK
        have hlen : (List.finRange (nS s)).length = nS s := by simp
        rw [hlen] at h2
        simp only [Exit.then, Exit.inBlock]
        exact HA1 D (nS s) V h1 h2 hK (by omega) (Nat.le_refl _) (fun _ => rfl)
      case stop =>
        rintro D cc pre V hD ⟨k, hk, hpre⟩ (⟨rfl, p0, i, rfl, hne⟩ | ⟨rfl, h0, h1, h2⟩) hK
        · obtain ⟨h1, h2, h3⟩ := firstK_last hk hpre
          exact absurd h1 hne
        · apply wpIn_exit
          simp only [Exit.then, Exit.inBlock, ↓reduceIte]
          exact HA1 D pre.length V h1 h2 hK (by omega) (by rw [hpre, firstK_length s k hk]; exact hk) (fun h => by omega)
end Go.Proofs.YtkenffbonnbflaaDoor
