/- Walk: guisebook.Book at runes: Keep. -/
import Derived.Test.YtkenffbonnbflaaBookSC
import Derived.Deep.RegionLaw
namespace Go.Proofs.Ytkenffbonnbflaa
open Go.RowKit
set_option linter.unusedVariables false

/-- the end of Keep -/
def KeepEnd (w' : World) (base B : Nat) (E : List (Option Addr × Nat)) (A : Option Addr) (c : Nat) (ns : List ByteArray) : Prop :=
  (∃ vl vw hd V, KeepR w' base B vl vw hd (E ++ [(A, c)]) V ns ∧ V.length = E.length + 1) ∨
  (E.length = 1 ∧ ∃ gl cl gw cw hd A' C' V D, BookR w' B gl 1 cl gw 1 cw hd 1 A' C' V D ns ∧ A' 0 = A ∧ C' 0 = c)

def lenOf : Option Value → Nat | some (.slice _ n _) => n | _ => 0
/-- the book behind its first list's leaving -/
def DropR (wr : World) (B : Nat) (E : List (Option Addr × Nat)) (A : Option Addr) (c : Nat) (ns : List ByteArray) : Prop :=
  E.length = 1 ∧ ∃ gl cl gw cw hd A' C' V D, BookR wr B gl 1 cl gw 1 cw hd 1 A' C' V D ns ∧ A' 0 = A ∧ C' 0 = c
def LoopR (w wr : World) (base B : Nat) (vl vw : Value) (hd : Int) (E F V : List (Option Addr × Nat)) (A : Option Addr) (c : Nat) (ns : List ByteArray) : Prop :=
  (KeepR wr base B vl vw hd F V ns ∨ DropR wr B E A c ns) ∧ BelowR base w wr

theorem drop_end {W : World} {base B gl gw cl cw : Nat} {hd x : Int} {A : Nat → Option Addr} {C : Nat → Nat} {V : Nat → Option Addr} {D : Nat → Nat} {ns : List ByteArray} (h : BookR W B gl 0 cl gw 0 cw hd 2 A C V D ns) (hbB : base ≤ B) :
    BookR (((W.setCell ⟨B, 2, none⟩ (.int .i64 x)).setCell ⟨B, 0, none⟩ (.slice (some ⟨gl, 1, none⟩) 1 (cl - 1))).setCell ⟨B, 1, none⟩ (.slice (some ⟨gw, 1, none⟩) 1 (cw - 1))).drew B gl 1 (cl - 1) gw 1 (cw - 1) x 1 (fun j => A (j + 1)) (fun j => C (j + 1)) (fun j => V (j + 1)) (fun j => D (j + 1)) ns ∧
    BelowR base W (((W.setCell ⟨B, 2, none⟩ (.int .i64 x)).setCell ⟨B, 0, none⟩ (.slice (some ⟨gl, 1, none⟩) 1 (cl - 1))).setCell ⟨B, 1, none⟩ (.slice (some ⟨gw, 1, none⟩) 1 (cw - 1))).drew := by
  refine ⟨?_, ((((Below.refl base W).setCell hbB _).setCell hbB _).setCell hbB _).drew, fun b t row ht1 ht2 hb => ((Below.heap_setCell _ _ _ _ (blk_ne hb h.blk ht1)).trans (Below.heap_setCell _ _ _ _ (blk_ne hb h.blk ht1))).trans (Below.heap_setCell _ _ _ _ (blk_ne hb h.blk ht1))⟩
  have ho : OnlyR B W (((W.setCell ⟨B, 2, none⟩ (.int .i64 x)).setCell ⟨B, 0, none⟩ (.slice (some ⟨gl, 1, none⟩) 1 (cl - 1))).setCell ⟨B, 1, none⟩ (.slice (some ⟨gw, 1, none⟩) 1 (cw - 1))).drew :=
    (((OnlyR.refl B W).setCell 2 _).setCell 0 _).setCell 1 _ |>.trans ⟨rfl, rfl, rfl, rfl, fun _ _ => rfl⟩
  exact h.drop ((((h.blk.set_ 2 _).set_ 0 _).set_ 1 _).of rfl) (by rw [ho.size]; exact Nat.le_refl _) ho.block

set_option maxRecDepth 100000 in
set_option maxHeartbeats 8000000 in
theorem keepR {base B : Nat} {vl vw : Value} {hd : Int} {E V : List (Option Addr × Nat)} {ns : List ByteArray} {A : Option Addr} {c : Nat} (w : World) (h : KeepR w base B vl vw hd E V ns) (hx : EntR w A c ns)
    (hE : E.length ≤ 1) (hV : V.length = E.length) (hbB : base ≤ B) (hl : ns.length ≤ 1000000)
    (hap : ∀ i j, i < (E ++ [(A, c)]).length → j < (E ++ [(A, c)]).length → i ≠ j → ∀ g, ((E ++ [(A, c)]).getD i (none, 0)).1 = some ⟨g, 0, none⟩ → ((E ++ [(A, c)]).getD j (none, 0)).1 ≠ some ⟨g, 0, none⟩) :
    Calls Try.prog 20 #[.pointer (some ⟨B, 0, none⟩), .slice A ns.length c] w fun e w' => e = .returned (.tuple #[]) ∧ KeepEnd w' base B E A c ns ∧ BelowR base w w' := by
  obtain ⟨i0, hi, hz0, hz1, hz2⟩ := info_parts infoSl
  have H := Lib.hid h
  have HX := Lib.hid hx
  have HAp := Lib.hid hap
  have HSm := Lib.hid (fun (A B : Option Addr) (c d : Nat) (w : World) (h1 : RunesAt w A ns) (h2 : RunesAt w B ns) => sameR ns A B c d w h1 h2 (by omega))
  have HCp := Lib.hid (fun w (h : RunesAt w A ns) => app_copy w A c ns h hl)
  have hBw := h.blk.lt
  have c0 := h.blk.cell 0
  have f0 := h.blk.frozen 0
  simp only [List.getElem?_toArray, List.getElem?_cons_zero] at c0
  have h1 := Lib.hid h.lists
  have hgr : ∀ (w1 : World), (w.alloc (.cells #[.slice A ns.length c] 45)).grownBy w1 vl.ownBlock → w1.frozen? ⟨B, 0, none⟩ = false ∧ w1.cell? ⟨B, 0, none⟩ = some vl := fun w1 hg => by
    have hB : Blk w1 B 43 #[vl, vw, .int .i64 hd, .bool false] := (h.blk.alloc _).of (hg.block _ (h.blk.alloc _).lt (own_ne_blk h.lists h.blk (by decide)))
    exact ⟨hB.frozen 0, hB.cell 0⟩
  have Hgr := Lib.hid hgr
  obtain ⟨n, hn⟩ : ∃ n, ns.length = n := ⟨_, rfl⟩
  have Hn := Lib.hid hn
  rw [hn] at Hgr hl HCp HSm
  rw [hn]
  have e1 : slV ns.length (A, c) = .slice A n c := by rw [hn]; rfl
  have E1 := Lib.hid e1
  have HK1 := Lib.hid (fun g cap w1 o => H.out.more (x := (A, c)) (g := g) (cap := cap) (w1 := w1) (o := o) hx hbB)
  rw [e1] at HK1
  clear h hx hap hgr hn e1
  go_enter Try.func20, Try.ntmps20
  go_wp2_with (first
        | (at_builtin; go_must (refine wpList_append_lies _ rfl _ _ 41 rfl base 45 i0 _ 1 24 Try.underlying41 hi hz0 hz1 hz2 rfl (by decide) vl E.length _ rfl (own_below h1.out ((Below.refl _ w).alloc (Nat.le_refl _) _)) ⟨w.heap.size, 0, none⟩ 1 1 [.slice A n c] rfl rfl (cells_new _ [_] _ _ rfl) (by simp [Value.oneCell']) (by decide) (by unfold maxLen; omega) (by omega) (by simp; omega) (w.heap.size + 1) (by simp) ?_); intro g cap w1 hown1 hgrow hat hlt1; have hcf := Hgr.out w1 hgrow; obtain ⟨hcf, hcc⟩ := hcf))
  obtain ⟨hK, hb1⟩ := HK1.out g cap w1 _ hown1 hgrow hat
  clear hgrow hown1 hcf hcc hat hlt1 h1 Hgr HK1
  generalize w1.setCell ⟨B, 0, none⟩ (.slice (some ⟨g, 0, none⟩) (E.length + 1) cap) = W1 at *
  have HK := Lib.hid hK
  have c1 := hK.blk.cell 1
  have f1 := hK.blk.frozen 1
  simp only [List.getElem?_toArray, List.getElem?_cons_succ, List.getElem?_cons_zero] at c1
  obtain ⟨⟨V1, D1⟩, w2, hcp, hy, hb2⟩ := HCp.out W1.drew ((hK.ent (A, c) (by simp)).1.below (Below.refl _ _).drew)
  simp only [slV] at hcp
  have hK2 := (hK.step ((Below.refl _ W1).drew)).step hb2
  have HK2 := Lib.hid hK2
  have hB2 := hK2.blk.lt
  have h2 := Lib.hid hK2.was
  have c2 := hK2.blk.cell 1
  have f2 := hK2.blk.frozen 1
  simp only [List.getElem?_toArray, List.getElem?_cons_succ, List.getElem?_cons_zero] at c2
  have c2a : ∀ o, (w2.alloc o).cell? ⟨B, 1, none⟩ = some vw := fun o => (hK2.blk.alloc o).cell 1
  have f2a : ∀ o, (w2.alloc o).frozen? ⟨B, 1, none⟩ = false := fun o => (hK2.blk.alloc o).frozen 1
  have hnb := own_ne_blk hK2.was hK2.blk (by decide)
  have e2 : slV ns.length (V1, D1) = .slice V1 n D1 := by rw [Hn.out]; rfl
  have HK3 := Lib.hid (fun g cap w1 o => HK2.out.more2 (x := (V1, D1)) (g := g) (cap := cap) (w1 := w1) (o := o) hy hbB)
  rw [e2] at HK3
  have Hb2 := Lib.hid hb2
  have Hb1 := Lib.hid hb1
  clear hK hK2 hy e2 hb2 hb1
  go_region_law
    ((first
      | (refine step_append_run (by rfl) _ _ 45 (by rfl) (.slice none 0 0) (.slice V1 n D1) (.slice A n c) (by rfl) (by rfl) w2 hcp ?_)
      | (refine step_append_lies _ (by rfl) _ _ 41 (by rfl) base 45 i0 _ 1 24 Try.underlying41 hi hz0 hz1 hz2 rfl (by decide) vw V.length _ (by rfl) (own_below h2.out ((Below.refl _ w2).alloc (Nat.le_refl _) _))
          ⟨w2.heap.size, 0, none⟩ 1 1 [.slice V1 n D1] (by rfl) (by rfl) (cells_new _ [_] _ _ rfl) (by simp [Value.oneCell']) (by decide) (by unfold maxLen; omega) (by omega) (by simp; omega) (w2.heap.size + 1) (by simp) ?_; intro g2 cap2 w3 hown3 hgrow3 hat3 hlt3; have d2 := (hgrow3.cell_far ⟨B, 1, none⟩ (by simp; omega) hnb).trans (c2a _); have e2 := (hgrow3.frozen_far ⟨B, 1, none⟩ (by simp; omega) hnb).trans (f2a _))))
  all_goals
    obtain ⟨hK4, hb4⟩ := HK3.out g2 cap2 w3 _ hown3 ⟨hgrow3.os, hgrow3.tape, hgrow3.output, hgrow3.size, hgrow3.block⟩ hat3
    rw [hV] at hK4 hb4
    have hb5 : BelowR base w (w3.setCell ⟨B, 1, none⟩ (.slice (some ⟨g2, 0, none⟩) (E.length + 1) cap2)) := by
      have hsz := Hb1.out.b.size
      exact (Hb1.out.trans (.from (((Below.refl _ W1).drew).trans Hb2.out) (by omega))).trans hb4
    clear hgrow3 hown3 hat3 hlt3 d2 e2 h2 hb4 HK3 hcp c2 f2 c2a f2a hnb HCp
    generalize w3.setCell ⟨B, 1, none⟩ (.slice (some ⟨g2, 0, none⟩) (E.length + 1) cap2) = W4 at *
    have HK4 := Lib.hid hK4
    have Hb5 := Lib.hid hb5
    have c2 := hK4.blk.cell 2
    have f2 := hK4.blk.frozen 2
    simp only [List.getElem?_toArray, List.getElem?_cons_succ, List.getElem?_cons_zero] at c2
    clear hK4 hb5 Hb1 Hb2 HK2 HK hB2 c1 f1
    go_wp2_with fail
  all_goals
    obtain ⟨hK5, hb6⟩ := HK4.out.held (wrap64 (wrap64 (hd + (c : Int)) + 1)) hbB
    have hb7 := Hb5.out.trans hb6
    clear HK4 Hb5 c2 f2 hb6
    generalize W4.setCell ⟨B, 2, none⟩ (.int .i64 (wrap64 (wrap64 (hd + (c : Int)) + 1))) = W5 at *
    generalize wrap64 (wrap64 (hd + (c : Int)) + 1) = hd5 at *
    have HL : Hid (LoopR w W5 base B _ _ hd5 E (E ++ [(A, c)]) (V ++ [(V1, D1)]) A c ns) := Lib.hid ⟨.inl hK5, hb7⟩
    clear hK5 hb7
    go_loopw [36] (fun _ wr => Hid (LoopR w wr base B (.slice (some ⟨g, 0, none⟩) (E.length + 1) cap) (.slice (some ⟨g2, 0, none⟩) (E.length + 1) cap2) hd5 E (E ++ [(A, c)]) (V ++ [(V1, D1)]) A c ns)) (fun _ wr => lenOf (wr.cell? ⟨B, 0, none⟩))
    case atStart => exact HL
    case round =>
      have hr := hrel.out
      clear hrel HL
      obtain ⟨hr, hb⟩ := hr
      have Hb := Lib.hid hb
      rcases hr with hK | ⟨h1, gl, cl, gw, cw, hd6, A', C', V', D', hBk, hA', hC'⟩
      · have c0 := hK.blk.cell 0
        simp only [List.getElem?_toArray, List.getElem?_cons_zero] at c0
        have HK := Lib.hid hK
        clear hK hb
        by_cases h1 : E.length = 0
        · rw [h1] at c0
          go_wp2_with fail
          (try simp only [Exit.inBlock, Exit.then]); refine bodyPost_end (results_none rfl _ _ _) rfl ?_
          exact ⟨rfl, .inl ⟨_, _, _, _, HK.out, by simp [hV]⟩, Hb.out⟩
        · have h2 : E.length = 1 := by omega
          have hlen : (E ++ [(A, c)]).length = 2 := by simp [h2]
          obtain ⟨gl, cl, gw, cw, e1, e2, hBk⟩ := HK.out.book (by omega) (by simp [hV]) HAp.out
          have a1 : ((E ++ [(A, c)]).getD 1 (none, 0)) = (A, c) := by rw [List.getD_eq_getElem?_getD, List.getElem?_append_right (by omega), h2]; rfl
          rw [hlen] at e1 e2 hBk
          rw [h2] at c0
          simp only [Value.slice.injEq, Option.some.injEq, Addr.mk.injEq, and_true] at e1 e2
          obtain ⟨rfl, -, rfl⟩ := e1
          obtain ⟨rfl, -, rfl⟩ := e2
          obtain ⟨FA, hFA⟩ : ∃ F, F = fun j => ((E ++ [(A, c)]).getD j (none, 0)).1 := ⟨_, rfl⟩
          obtain ⟨FC, hFC⟩ : ∃ F, F = fun j => ((E ++ [(A, c)]).getD j (none, 0)).2 := ⟨_, rfl⟩
          have b1 : Hid (FA 1 = A) := Lib.hid (by rw [hFA]; simp only [a1])
          have b2 : Hid (FC 1 = c) := Lib.hid (by rw [hFC]; simp only [a1])
          rw [← hFA, ← hFC] at hBk
          generalize (fun j => ((V ++ [(V1, D1)]).getD j (none, 0)).1) = FV at hBk
          generalize (fun j => ((V ++ [(V1, D1)]).getD j (none, 0)).2) = FD at hBk
          clear hFA hFC a1 hlen
          have H2 := Lib.hid h2
          have C0w := Lib.hid c0
          clear h2
          have HBk := Lib.hid hBk
          have c2 := hBk.blk.cell 2
          simp only [List.getElem?_toArray, List.getElem?_cons_succ, List.getElem?_cons_zero] at c2
          clear hBk
          by_cases hh : (1000000 : Int) < hd5
          · have c1 := HBk.out.blk.cell 1
            have c3 := HBk.out.blk.cell 3
            have f3 := HBk.out.blk.frozen 3
            simp only [List.getElem?_toArray, List.getElem?_cons_succ, List.getElem?_cons_zero] at c1 c3
            obtain ⟨r, hr, hr2⟩ := HBk.out.lists
            obtain ⟨q0, hq, hq2⟩ := HBk.out.was
            have d0 := (hr.cell (0 + 0)).trans (hr2 0 (by decide))
            have d1 := (hq.cell (0 + 0)).trans (hq2 0 (by decide))
            rw [Hn.out] at d0 d1
            simp only [Nat.add_zero] at d0 d1
            have E1' := Lib.hid (HBk.out.ent 0 (by decide)).1
            have E2' := Lib.hid (HBk.out.copy 0 (by decide)).1
            have ne1 := blk_ne hr HBk.out.blk (by decide)
            have ne2 := blk_ne hq HBk.out.blk (by decide)
            have HKp := Lib.hid (fun m => (below_drewN (Below.refl _ wr) m).trans (below_same (w := wr.drewN m) (i := 3) (u := .bool false) (HBk.out.blk.of rfl) rfl))
            have qB := HBk.out.blk.lt
            have ql := hr.lt
            have qw := hq.lt
            have cl2 := HBk.out.cl
            have cw2 := HBk.out.cw
            clear hr hr2 hq hq2
            obtain ⟨A0, hA0⟩ : ∃ a, FA 0 = a := ⟨_, rfl⟩
            obtain ⟨C0, hC0⟩ : ∃ a, FC 0 = a := ⟨_, rfl⟩
            obtain ⟨V0, hV0⟩ : ∃ a, FV 0 = a := ⟨_, rfl⟩
            obtain ⟨D0, hD0⟩ : ∃ a, FD 0 = a := ⟨_, rfl⟩
            rw [hA0, hC0] at d0
            rw [hV0, hD0] at d1
            rw [hA0] at E1'
            rw [hV0] at E2'
            clear hA0 hC0 hV0 hD0
            go_wp2_with fail
            go_region_held3 (fun w' => w'.cell? ⟨B, 0, none⟩ = some (.slice (some ⟨g, 0, none⟩) 2 cap) ∧ w'.cell? ⟨B, 1, none⟩ = some (.slice (some ⟨g2, 0, none⟩) 2 cap2) ∧ w'.cell? ⟨B, 3, none⟩ = some (.bool false) ∧ w'.cell? ⟨g, 0, none⟩ = some (.slice A0 n C0) ∧ w'.cell? ⟨g2, 0, none⟩ = some (.slice V0 n D0))
              (first
                | go_keep
                | (go_split_ands
                   exact ⟨((HKp.out _).cell (p := ⟨B, 0, none⟩) qB).trans c0, ((HKp.out _).cell (p := ⟨B, 1, none⟩) qB).trans c1, ((HKp.out _).cell (p := ⟨B, 3, none⟩) qB).trans c3, ((HKp.out _).cell (p := ⟨g, 0, none⟩) ql).trans d0, ((HKp.out _).cell (p := ⟨g2, 0, none⟩) qw).trans d1⟩)
                | fail)
              (first | (go_at_call 18; refine (HSm.out _ _ _ _ _ (by first | exact E1'.out | exact E1'.out.below (Below.refl _ _).drew) (by first | exact E2'.out | exact E2'.out.below (Below.refl _ _).drew)).mono ?_; rintro e w' ⟨rfl, q, rfl⟩))
            obtain ⟨W6, hW6⟩ : ∃ W6, (wr.drewN (1 + q)).setCell ⟨B, 3, none⟩ (.bool false) = W6 := ⟨_, rfl⟩
            have hb6 : Below wr.heap.size wr W6 := by rw [← hW6]; exact HKp.out _
            rw [hW6]
            have HB6 := Lib.hid (HBk.out.below hb6)
            have x0 := (hb6.cell (p := ⟨B, 0, none⟩) qB).trans c0
            have x1 := (hb6.cell (p := ⟨B, 1, none⟩) qB).trans c1
            have x2 := (hb6.cell (p := ⟨B, 2, none⟩) qB).trans c2
            have x3 := (hb6.cell (p := ⟨g, 0, none⟩) ql).trans d0
            have g0 := HB6.out.blk.frozen 0
            have g1 := HB6.out.blk.frozen 1
            have g2' := HB6.out.blk.frozen 2
            have Hb6 := Lib.hid (Hb.out.trans (.from hb6 (by have := Hb.out.b.size; omega)))
            have q6 := HB6.out.blk.lt
            clear c0 c1 c2 c3 f3 d0 d1 HKp hb6 qB ql qw E1' E2'
            rename_i hHeld
            clear hHeld
            go_wp2_with fail
            go_region
            all_goals go_wp2_with fail
            all_goals
              go_roundw
              case rel => exact Lib.hid ⟨.inr ⟨H2.out, _, _, _, _, _, _, _, _, _, (drop_end HB6.out hbB).1, b1.out, b2.out⟩, Hb6.out.trans (drop_end HB6.out hbB).2⟩
              case measure =>
                have h5 := (drop_end (x := wrap64 (wrap64 (hd5 - (C0 : Int)) - 1)) HB6.out hbB).1.blk.cell 0
                rw [C0w.out, h5]
                show (1 : Nat) < 1 + 1
                decide
          · go_wp2_with fail
            (try simp only [Exit.inBlock, Exit.then]); refine bodyPost_end (results_none rfl _ _ _) rfl ?_
            exact ⟨rfl, .inl ⟨_, _, _, _, HK.out, by simp [hV]⟩, Hb.out⟩
      · have c0 := hBk.blk.cell 0
        simp only [List.getElem?_toArray, List.getElem?_cons_zero] at c0
        have HBk := Lib.hid hBk
        clear hBk hb
        go_wp2_with fail
        (try simp only [Exit.inBlock, Exit.then]); refine bodyPost_end (results_none rfl _ _ _) rfl ?_
        exact ⟨rfl, .inr ⟨h1, _, _, _, _, _, _, _, _, _, HBk.out, hA', hC'⟩, Hb.out⟩
end Go.Proofs.Ytkenffbonnbflaa
