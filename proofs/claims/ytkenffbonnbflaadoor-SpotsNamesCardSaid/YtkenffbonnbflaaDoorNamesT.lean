/- Walk: guiselaw2.SpotsNames. -/
import Derived.Test.YtkenffbonnbflaaDoorBadsI
import Derived.Test.YtkenffbonnbflaaDoorAllB
import Derived.Test.YtkenffbonnbflaaDoorSameS
import Derived.Test.YtkenffbonnbflaaDoorRef2
import Derived.Test.YtkenffbonnbflaaDoorSpot
import Derived.Test.YtkenffbonnbflaaDoorLine
namespace Go.Proofs.YtkenffbonnbflaaDoor
open Go.RowKit Go.Shelf
set_option linter.unusedVariables false
attribute [local go_sem] Oper.semAt_some

theorem run_b0 : bAt runText 0 = 0 := by unfold bAt; rw [run_spots]; rfl
theorem run_b1 : bAt runText 1 = 1 := by unfold bAt; rw [run_spots]; rfl
theorem run_b3 : bAt runText 3 = 4 := by unfold bAt; rw [run_spots]; rfl
theorem run_b4 : bAt runText 4 = 5 := by unfold bAt; rw [run_spots]; rfl
theorem run_b5 : bAt runText 5 = 6 := by unfold bAt; rw [run_spots]; rfl
theorem run_b6 : bAt runText 6 = 7 := by unfold bAt; rw [run_spots]; rfl
theorem run_l0 : lAt runText 0 = 0 := by unfold lAt; rw [run_spots]; rfl
theorem run_l1 : lAt runText 1 = 3 := by unfold lAt; rw [run_spots]; rfl
theorem run_ln3 : lnOf runText 3 = 1 := by unfold lnOf; rw [run_spots]; rfl
theorem run_e1 : eAt runText 1 = 6 := by rw [eAt_last runText 1 (by rw [run_nL]; decide), run_nS]
theorem run_line : lineS runText 1 = ⟨#[226, 130, 122]⟩ := by
  unfold lineS
  rw [run_l1, run_e1, run_b3, run_b6]
  rfl
theorem run_bad (i : Nat) (h : i < 6) : (spA runText i).bad = decide (i = 3 ∨ i = 4) := by
  unfold spA
  rw [run_spots]
  match i, h with
  | 0, _ => rfl
  | 1, _ => rfl
  | 2, _ => rfl
  | 3, _ => rfl
  | 4, _ => rfl
  | 5, _ => rfl

section
variable {w : World} {T : Nat} {gb cb gl cl : Nat}
theorem run_Where (h : TextIs w T runText gb cb gl cl) :
    Calls Tryd.prog 71 #[.pointer (some ⟨T, 0, none⟩), .int .i64 4] w fun e w' => e = .returned (.tuple #[.agg #[.int .i64 4, .int .i64 2, .int .i64 1], .bool true]) ∧ Below w.heap.size w w' := by
  have h1 := Where_yes h 4 3 ⟨by rw [run_nS]; decide, by rw [run_b3]; decide, fun _ => by rw [run_b4]; decide⟩ (by decide)
  rw [run_ln3, run_l1] at h1
  exact h1
theorem run_Find (h : TextIs w T runText gb cb gl cl) :
    Calls Tryd.prog 72 #[.pointer (some ⟨T, 0, none⟩), .int .i64 2, .int .i64 4] w fun e w' => e = .returned (.tuple #[.agg #[.int .i64 7, .int .i64 6], .bool true]) ∧ Below w.heap.size w w' := by
  have h1 := Find_yes h 1 3 (by rw [run_nL]; decide) (by rw [run_l1, run_e1]; decide)
  rw [run_l1, run_b6] at h1
  exact h1
theorem run_Line (h : TextIs w T runText gb cb gl cl) :
    Calls Tryd.prog 77 #[.pointer (some ⟨T, 0, none⟩), .int .i64 2] w fun e w' => e = .returned (.tuple #[.string ⟨#[226, 130, 122]⟩, .bool true]) ∧ ∃ n, w' = w.drewN n := by
  have h1 := Line_yes h 1 (by rw [run_nL]; decide)
  rw [run_line] at h1
  exact h1
theorem run_Slice (h : TextIs w T runText gb cb gl cl) :
    Calls Tryd.prog 73 #[.pointer (some ⟨T, 0, none⟩), .int .i64 1, .int .i64 4] w fun e w' => e = .returned (.tuple #[.string ⟨#[195, 169, 10, 226]⟩, .bool true]) ∧ ∃ n, w' = w.drewN n := by
  have h1 := Slice_yes h 1 4 (by decide) (by rw [run_nS]; decide) (by rw [run_b1, run_b4]; decide)
  rw [run_b1, run_b4] at h1
  exact h1
theorem run_Spot (h : TextIs w T runText gb cb gl cl) (hT : Lib.Utf8Tabs 0 1 w) :
    Calls Tryd.prog 58 #[.pointer (some ⟨T, 0, none⟩), .int .i64 3] w fun e w' => e = .returned (.tuple #[.agg #[.int .i32 65533, .int .i64 1, .bool true], .bool true]) ∧ Below w.heap.size w w' :=
  Spot_yes h 3 ⟨65533, 4, 1, true⟩ (by rw [run_spots]; rfl) hT
theorem run_Of (h : TextIs w T runText gb cb gl cl) :
    Calls Tryd.prog 60 #[.pointer (some ⟨T, 0, none⟩), .int .i64 2] w fun e w' => e = .returned (.tuple #[.agg #[.int .i64 1, .int .i64 1], .bool true]) ∧ Below w.heap.size w w' := by
  have h1 := Of_yes h 2 1 ⟨by rw [run_nS]; decide, by rw [run_b1]; decide, fun _ => by rw [run_b2]; decide⟩ (by decide)
  rw [run_b1] at h1
  exact h1
theorem run_String (h : TextIs w T runText gb cb gl cl) :
    Calls Tryd.prog 55 #[.pointer (some ⟨T, 0, none⟩)] w fun e w' => e = .returned (.string ⟨#[97, 195, 169, 10, 226, 130, 122]⟩) ∧ w = w' := String_any h
theorem run_pieces : pieces runText 0 ([1, 3, 99] ++ [(nS runText : Int)]) = [⟨#[97]⟩, ⟨#[195, 169, 10, 226]⟩, ⟨#[130, 122]⟩, ⟨#[]⟩] := by
  simp only [List.cons_append, List.nil_append, pieces, run_nS, show stepTo 6 0 1 = 1 by decide, show stepTo 6 1 3 = 4 by decide, show stepTo 6 4 99 = 6 by decide, show stepTo 6 6 ((6 : Nat) : Int) = 6 by decide, run_b0, run_b1, run_b4, run_b6]
  rfl
end
theorem run_begun (w : World) :
    Calls Tryd.prog 53 #[.string ⟨#[97, 195, 169, 10, 226, 130, 122]⟩] w fun e w' => (∃ T gb cb gl cl, e = .returned (.tuple #[.pointer (some ⟨T, 0, none⟩), .bool false, .bool true]) ∧ TextIs w' T runText gb cb gl cl) ∧ Below w.heap.size w w' :=
  begun_ok runText w (by decide)
/-- how far the bad ones have come -/
def Come (pre : List (Fin (nS runText))) : Prop := (pre.length = 0 ∧ nxt pre = 0) ∨ (pre.length = 1 ∧ nxt pre = 4) ∨ (pre.length = 2 ∧ nxt pre = 5)
theorem come_nil : Come [] := .inl ⟨rfl, rfl⟩
theorem come_next {k : Nat} {pre : List (Fin (nS runText))} {x : Fin (nS runText)} (hk : k ≤ nS runText) (h : pre ++ [x] = bads runText (firstK runText k)) (hc : Come pre) :
    x.val = 3 + pre.length ∧ bAt runText x.val = 4 + pre.length ∧ Come (pre ++ [x]) := by
  obtain ⟨h1, h2, h3⟩ := bads_next hk h
  have hx : x.val < 6 := Nat.lt_of_lt_of_le x.isLt (Nat.le_of_eq run_nS)
  rw [run_bad _ hx] at h1
  have h1' := of_decide_eq_true h1
  have hv : x.val = 3 + pre.length := by
    rcases hc with ⟨c1, c2⟩ | ⟨c1, c2⟩ | ⟨c1, c2⟩
    · rcases h1' with e | e
      · omega
      · have := h3 3 (by omega) (by omega)
        rw [run_bad 3 (by decide)] at this
        exact absurd this (by decide)
    · omega
    · omega
  refine ⟨hv, ?_, ?_⟩
  · rcases h1' with e | e
    · rw [e, run_b3]; omega
    · rw [e, run_b4]; omega
  · unfold Come
    rw [nxt_snoc]
    simp only [List.length_append, List.length_cons, List.length_nil]
    omega
theorem come_all (hc : Come (bads runText (List.finRange (nS runText)))) : (bads runText (List.finRange (nS runText))).length = 2 := by
  have hg := bads_gap runText (nS runText) (Nat.le_refl _)
  rw [firstK_all] at hg
  rcases hc with ⟨c1, c2⟩ | ⟨c1, c2⟩ | ⟨c1, c2⟩
  · have := hg 3 (by omega) (by rw [run_nS]; decide)
    rw [run_bad 3 (by decide)] at this
    exact absurd this (by decide)
  · have := hg 4 (by omega) (by rw [run_nS]; decide)
    rw [run_bad 4 (by decide)] at this
    exact absurd this (by decide)
  · exact c1

/-- what the walk holds on to: the text, and blocks that lie as they were laid -/
def NB (w : World) (T gb cb gl cl : Nat) (l : List (Nat × TypeId × Array Value)) (V : World) : Prop := TextIs V T runText gb cb gl cl ∧ Below w.heap.size w V ∧ ∀ p ∈ l, Blk V p.1 p.2.1 p.2.2
section
variable {w V V' : World} {T gb cb gl cl : Nat} {l : List (Nat × TypeId × Array Value)}
theorem NB.step (h : NB w T gb cb gl cl l V) (hb : Below V.heap.size V V') : NB w T gb cb gl cl l V' := ⟨h.1.below hb, h.2.1.trans (hb.mono h.2.1.size), fun p hp => (h.2.2 p hp).below hb⟩
theorem NB.push (h : NB w T gb cb gl cl l V) (t : TypeId) (cs : Array Value) : NB w T gb cb gl cl ((V.heap.size, t, cs) :: l) (V.alloc (.cells cs t)) :=
  have h1 := h.step ((Below.refl _ V).alloc (Nat.le_refl _) (.cells cs t))
  ⟨h1.1, h1.2.1, fun p hp => by
    rcases List.mem_cons.1 hp with rfl | hp
    · exact Blk.new V t cs
    · exact h1.2.2 p hp⟩
theorem NB.nth (h : NB w T gb cb gl cl l V) (i : Nat) {p : Nat × TypeId × Array Value} (hi : l[i]? = some p) : Blk V p.1 p.2.1 p.2.2 := h.2.2 p (List.mem_of_getElem? hi)
theorem below_drewN (V : World) (n : Nat) : Below V.heap.size V (V.drewN n) := ⟨rfl, rfl, rfl, Nat.le_refl _, fun _ _ => rfl⟩
end
attribute [local simp] wide_fn wide_round_fn

set_option maxRecDepth 100000 in
set_option maxHeartbeats 8000000 in
/-- guiselaw2.SpotsNames answers true -/
theorem namesT_walk (w : World) (hT : Lib.Utf8Tabs 0 1 w) :
    Calls Tryd.prog 20 #[] w fun e w' => e = .returned (.bool true) ∧ Below w.heap.size w w' := by
  have HT := Lib.hid hT
  clear hT
  refine calls_of_marks 20 Tryd.func20 rfl ?_
  simp only [Tryd.ntmps20, List.size_toArray, List.length_nil, Nat.reduceSub, Array.replicate_succ, Array.replicate_zero, List.push_toArray, List.append_toArray, List.nil_append, List.cons_append]
  gi_wp2_with fail
  refine (callsIn_wide.2 (run_begun _)).mono ?_
  rintro e Wa ⟨⟨T, gb, cb, gl, cl, rfl, hTa⟩, hba⟩
  have H0 : Hid (NB w T gb cb gl cl [(w.heap.size, 4, #[.bool false])] Wa) := Lib.hid ⟨hTa, ((Below.refl _ w).alloc (Nat.le_refl _) _).trans (hba.mono (by simp)), fun p hp => by
    rcases List.mem_cons.1 hp with rfl | hp
    · exact (Blk.new w 4 #[.bool false]).below hba
    · cases hp⟩
  clear hba hTa
  gi_wp2_with fail
  refine (callsIn_wide.2 (run_Where H0.out.1)).mono ?_
  rintro e Wb ⟨rfl, hb⟩
  have H1 := Lib.hid ((H0.out.step hb).push 94 #[.int .i64 4, .int .i64 2, .int .i64 1])
  clear hb H0
  gi_wp2_with fail
  refine (callsIn_wide.2 (run_Find H1.out.1)).mono ?_
  rintro e Wc ⟨rfl, hb⟩
  have H2 := Lib.hid ((H1.out.step hb).push 82 #[.int .i64 7, .int .i64 6])
  clear hb H1
  gi_wp2_with fail
  refine (callsIn_wide.2 (run_Line H2.out.1)).mono ?_
  rintro e Wd ⟨rfl, nd, hb⟩
  obtain ⟨Wd', hd⟩ : ∃ X, Wd = X := ⟨_, rfl⟩
  have H3 := Lib.hid (H2.out.step (V' := Wd) (by rw [hb]; exact below_drewN _ nd))
  clear hb H2 hd
  gi_wp2_with fail
  refine (callsIn_wide.2 (run_Slice H3.out.1)).mono ?_
  rintro e We ⟨rfl, ne, hb⟩
  have H4 := Lib.hid (H3.out.step (V' := We) (by rw [hb]; exact below_drewN _ ne))
  clear hb H3
  gi_wp2_with fail
  refine (callsIn_wide.2 (run_Spot H4.out.1 (Utf8Tabs_below HT.out H4.out.2.1))).mono ?_
  rintro e Wf ⟨rfl, hb⟩
  have H5 := Lib.hid ((H4.out.step hb).push 25 #[.int .i32 65533, .int .i64 1, .bool true])
  clear hb H4
  gi_wp2_with fail
  refine (callsIn_wide.2 (run_Of H5.out.1)).mono ?_
  rintro e Wg ⟨rfl, hb⟩
  have H6 := Lib.hid ((H5.out.step hb).push 82 #[.int .i64 1, .int .i64 1])
  clear hb H5
  have a0 := (H6.out.nth 3 rfl).cell 0
  have a1 := (H6.out.nth 3 rfl).cell 1
  have a2 := (H6.out.nth 3 rfl).cell 2
  have f0 := (H6.out.nth 2 rfl).cell 0
  have f1 := (H6.out.nth 2 rfl).cell 1
  have x2 := (H6.out.nth 1 rfl).cell 2
  have o0 := (H6.out.nth 0 rfl).cell 0
  have o1 := (H6.out.nth 0 rfl).cell 1
  simp only [List.getElem?_toArray, List.getElem?_cons_succ, List.getElem?_cons_zero] at a0 a1 a2 f0 f1 x2 o0 o1
  have hn2 := fun f b W => seq_ne_nil3 f b W
  gi_wp2_with (gi_at_call 76; refine (callsIn_wide.2 (Bads_val T _)).mono ?_; rintro e w' ⟨rfl, rfl⟩)
  have H7 := Lib.hid (H6.out.push 76 #[.pointer (some ⟨T, 0, none⟩)])
  clear H6 a0 a1 a2 f0 f1 x2 o0 o1 hn2
  refine (show ∀ u : Nat → Value, Code.wpIn Fence.wide 20 Tryd.prog _ _ { tmps := #[Value.pointer (some ⟨w.heap.size, 0, none⟩), Value.pointer (some ⟨T, 0, none⟩), u 2, u 3, u 4, u 5, u 6, u 7, u 8, u 9, u 10, u 11, u 12, u 13, u 14, u 15, Value.func (.func 98) #[] #[.pointer (some ⟨Wg.heap.size + 1, 0, none⟩)], Value.pointer (some ⟨Wg.heap.size + 1 + 1, 0, none⟩), u 18, u 19, u 20, u 21, u 22, u 23, u 24, u 25, u 26, u 27, u 28, u 29, u 30, u 31, u 32, u 33, u 34, u 35, u 36, u 37, u 38, u 39, u 40, u 41, u 42, u 43, u 44, u 45, u 46, u 47, u 48, u 49, u 50, u 51, u 52, u 53, u 54, u 55, u 56, u 57, u 58, u 59, u 60, u 61, u 62, u 63, u 64, u 65, u 66, u 67, u 68, u 69, u 70, u 71, u 72, u 73, u 74, u 75, u 76, u 77, u 78, u 79, u 80, u 81, u 82, u 83, u 84, u 85, u 86, u 87, u 88, u 89, u 90, u 91, u 92, u 93, u 94, u 95, u 96, u 97, u 98, u 99, u 100, u 101, u 102, u 103, u 104, u 105, u 106, u 107, u 108, u 109, u 110, u 111, u 112, Value.func (.func 98) #[] #[.pointer (some ⟨Wg.heap.size + 1, 0, none⟩)], u 114, u 115, u 116, u 117, u 118, u 119, u 120, u 121, u 122, u 123, u 124, u 125, u 126, u 127, u 128, u 129, u 130, u 131, u 132, u 133, u 134, u 135, u 136, u 137, u 138], defers := [] } _ from ?_) (ofL [undef, undef, _, _, _, _, _, _, _, _, _, _, _, _, _, _, undef, undef, _, _, _, _, _, _, _, _, _, _, _, _, _, _, _, _, _, _, _, _, _, _, _, _, _, _, _, _, _, _, _, _, _, _, _, _, _, _, _, _, _, _, _, _, _, _, _, _, _, _, _, _, _, _, _, _, _, _, _, _, _, _, _, _, _, _, _, _, _, _, _, _, _, _, _, _, _, _, _, _, _, _, _, _, _, _, _, _, _, _, _, _, _, _, _, undef, _, _, _, _, _, _, _, _, _, _, _, _, _, _, _, _, _, _, _, _, _, _, _, _, _])
  intro u
  obtain ⟨W8, hW8⟩ : ∃ W8, (Wg.alloc (.cells #[.int .i64 1, .int .i64 1] 82)).alloc (.cells #[.pointer (some ⟨T, 0, none⟩)] 76) = W8 := ⟨_, rfl⟩
  rw [hW8] at H7 ⊢
  have hz8 : W8.heap.size = Wg.heap.size + 1 + 1 := by rw [← hW8]; simp
  clear hW8
  obtain ⟨W0, hW0⟩ : ∃ W0, W8.alloc (.cells #[.int .i64 0] 3) = W0 := ⟨_, rfl⟩
  have hz0 : W0.heap.size = W8.heap.size + 1 := by rw [← hW0]; simp
  have hB0 : Below W8.heap.size W8 W0 := by rw [← hW0]; exact (Below.refl _ W8).alloc (Nat.le_refl _) _
  have hN0 : Blk W0 W8.heap.size 3 #[.int .i64 0] := by rw [← hW0]; exact Blk.new W8 _ _
  have h80 := H7.out.step hB0
  rw [hW0]
  clear hW0
  have hbx : Blk W0 (Wg.heap.size + 1) 76 #[.pointer (some ⟨T, 0, none⟩)] := by
    have h := h80.nth 0 rfl
    simp only [World.size_alloc] at h
    exact h
  have H8 := Lib.hid H7.out
  refine wpIn_rangeFunc_ownB rfl (by omega) (gf := 98) (lb := #[.pointer (some ⟨Wg.heap.size + 1, 0, none⟩)]) rfl trivial (enters_of Tryd.func98 (by kernel_rfl) rfl)
    (A := fun k => k = W8.heap.size) (fun k hk => by omega)
    (bads_B runText T (Wg.heap.size + 1) (fun k => k = W8.heap.size) W0 (fun k hk => by omega) hbx h80.1.c0 (20 - 1) (by omega) (by decide)) (Below.refl _ _) (fun _ => rfl)
    (fun pre V => Below W8.heap.size W8 V ∧ Blk V W8.heap.size 3 #[.int .i64 (pre.length : Int)] ∧ Come pre) (fun _ _ _ => False)
    ?own1 (fun _ _ _ _ h _ => h) ⟨hB0, hN0, come_nil⟩
    (fun x a' V => ∃ Bp, W8.heap.size < Bp ∧ Blk V Bp 82 #[.int .i64 (bAt runText x.val : Int), .int .i64 (x.val : Int)] ∧ a' = { tmps := #[Value.pointer (some ⟨w.heap.size, 0, none⟩), Value.pointer (some ⟨T, 0, none⟩), u 2, u 3, u 4, u 5, u 6, u 7, u 8, u 9, u 10, u 11, u 12, u 13, u 14, u 15, Value.func (.func 98) #[] #[.pointer (some ⟨Wg.heap.size + 1, 0, none⟩)], Value.pointer (some ⟨Wg.heap.size + 1 + 1, 0, none⟩), Value.pointer (some ⟨Bp, 0, none⟩), u 19, u 20, u 21, u 22, u 23, u 24, u 25, u 26, u 27, u 28, u 29, u 30, u 31, u 32, u 33, u 34, u 35, u 36, u 37, u 38, u 39, u 40, u 41, u 42, u 43, u 44, u 45, u 46, u 47, u 48, u 49, u 50, u 51, u 52, u 53, u 54, u 55, u 56, u 57, u 58, u 59, u 60, u 61, u 62, u 63, u 64, u 65, u 66, u 67, u 68, u 69, u 70, u 71, u 72, u 73, u 74, u 75, u 76, u 77, u 78, u 79, u 80, u 81, u 82, u 83, u 84, u 85, u 86, u 87, u 88, u 89, u 90, u 91, u 92, u 93, u 94, u 95, u 96, u 97, u 98, u 99, u 100, u 101, u 102, u 103, u 104, u 105, u 106, u 107, u 108, u 109, u 110, u 111, u 112, Value.func (.func 98) #[] #[.pointer (some ⟨Wg.heap.size + 1, 0, none⟩)], Value.agg #[.int .i64 (bAt runText x.val : Int), .int .i64 (x.val : Int)], u 115, u 116, u 117, u 118, u 119, u 120, u 121, u 122, u 123, u 124, u 125, u 126, u 127, u 128, u 129, u 130, u 131, u 132, u 133, u 134, u 135, u 136, u 137, u 138], defers := [] })
    (fun x a' _ X Y row hs hg hr => by obtain ⟨Bp, h1, h3, h5⟩ := hs; exact ⟨Bp, h1, blk_own h3 hg hr, h5⟩)
    ?assign ?body ?done ?stop
  case own1 =>
    rintro pre V V' ⟨h1, h2, h3⟩ hb
    exact ⟨h1.trans (hb.mono (by omega)), h2.of (hb.block _ (by omega)), h3⟩
  case assign =>
    rintro l pre x V K ⟨h1, h2, h3⟩ hz hK
    have hlt := h2.lt
    gi_wp2
    have hb1 : Below V.heap.size V (V.alloc (.cells #[.int .i64 (bAt runText x.val : Int), .int .i64 (x.val : Int)] 82)) := (Below.refl _ V).alloc (Nat.le_refl _) _
    exact hK _ _ (Only.below hb1) ⟨h1.trans (hb1.mono h1.size), h2.below hb1, h3⟩ ⟨V.heap.size, hlt, Blk.new V _ _, rfl⟩
  case body =>
    rintro l pre x a' V hl ⟨r, hr⟩ ⟨h1, h2, h3⟩ ⟨Bp, hBp, bP, rfl⟩ ⟨k, hk, hpre⟩ hlt
    obtain ⟨e1, e2, hc⟩ := come_next hk hpre h3
    clear hpre hk
    have hlen : (pre ++ [x]).length = pre.length + 1 := by simp
    have h12 : pre.length = 0 ∨ pre.length = 1 := by
      rcases hc with ⟨c, _⟩ | ⟨c, _⟩ | ⟨c, _⟩ <;> omega
    rw [hz8] at h2
    have f1 := h1.setCell (p := ⟨Wg.heap.size + 1 + 1, 0, none⟩) (by rw [hz8]; exact Nat.le_refl _) (.int .i64 ((pre.length : Int) + 1))
    have f2 := h2.set_ 0 (.int .i64 ((pre.length : Int) + 1))
    have f3 : Only (fun k => k = W8.heap.size) V (V.setCell ⟨Wg.heap.size + 1 + 1, 0, none⟩ (.int .i64 ((pre.length : Int) + 1))) := Only.setCell _ _ _ _ (by rw [hz8])
    have bP' := bP.of (Below.heap_setCell V ⟨Wg.heap.size + 1 + 1, 0, none⟩ (.int .i64 ((pre.length : Int) + 1)) Bp (show Bp ≠ Wg.heap.size + 1 + 1 by omega))
    have n0 := h2.cell 0
    have nf := h2.frozen 0
    have n1 := f2.cell 0
    have p0 := bP'.cell 0
    have p1 := bP'.cell 1
    simp only [List.getElem?_toArray, List.getElem?_cons_succ, List.getElem?_cons_zero, List.setIfInBounds_toArray, List.set_cons_zero] at n0 n1 p0 p1
    have Hf : Hid (Only (fun k => k = W8.heap.size) V (V.setCell ⟨Wg.heap.size + 1 + 1, 0, none⟩ (.int .i64 ((pre.length : Int) + 1))) ∧ Below W8.heap.size W8 (V.setCell ⟨Wg.heap.size + 1 + 1, 0, none⟩ (.int .i64 ((pre.length : Int) + 1))) ∧ Blk (V.setCell ⟨Wg.heap.size + 1 + 1, 0, none⟩ (.int .i64 ((pre.length : Int) + 1))) W8.heap.size 3 #[.int .i64 ((pre ++ [x]).length : Int)] ∧ Come (pre ++ [x])) := Lib.hid ⟨f3, f1, by rw [hlen, hz8]; exact f2, hc⟩
    clear f1 f2 f3 h1 h2 h3 bP bP' hc hlen hbx h80 hN0 hB0
    rw [e2] at p0
    rw [e1] at p1
    simp only [e2]
    simp only [e1]
    clear e1 e2
    rcases h12 with h12 | h12
    · rw [h12] at n0 n1 p0 p1 Hf
      simp only [h12]
      replace n0 : V.cell? ⟨Wg.heap.size + 1 + 1, 0, none⟩ = some (.int .i64 0) := n0
      replace n1 : (V.setCell ⟨Wg.heap.size + 1 + 1, 0, none⟩ (.int .i64 1)).cell? ⟨Wg.heap.size + 1 + 1, 0, none⟩ = some (.int .i64 1) := n1
      replace p0 : (V.setCell ⟨Wg.heap.size + 1 + 1, 0, none⟩ (.int .i64 1)).cell? ⟨Bp, 0, none⟩ = some (.int .i64 4) := p0
      replace p1 : (V.setCell ⟨Wg.heap.size + 1 + 1, 0, none⟩ (.int .i64 1)).cell? ⟨Bp, 1, none⟩ = some (.int .i64 3) := p1
      gi_wp2
      obtain ⟨f1, f2, f3, f4⟩ := Hf.out
      exact ⟨f1, f2, f3, f4⟩
    · rw [h12] at n0 n1 p0 p1 Hf
      simp only [h12]
      replace n0 : V.cell? ⟨Wg.heap.size + 1 + 1, 0, none⟩ = some (.int .i64 1) := n0
      replace n1 : (V.setCell ⟨Wg.heap.size + 1 + 1, 0, none⟩ (.int .i64 2)).cell? ⟨Wg.heap.size + 1 + 1, 0, none⟩ = some (.int .i64 2) := n1
      replace p0 : (V.setCell ⟨Wg.heap.size + 1 + 1, 0, none⟩ (.int .i64 2)).cell? ⟨Bp, 0, none⟩ = some (.int .i64 5) := p0
      replace p1 : (V.setCell ⟨Wg.heap.size + 1 + 1, 0, none⟩ (.int .i64 2)).cell? ⟨Bp, 1, none⟩ = some (.int .i64 4) := p1
      gi_wp2
      obtain ⟨f1, f2, f3, f4⟩ := Hf.out
      exact ⟨f1, f2, f3, f4⟩
  case done =>
    rintro D ys V hD rfl ⟨h1, h2, h3⟩ hK
    have hn2 := come_all h3
    rw [hn2] at h2
    simp only [Exit.then, Exit.inBlock]
    have H9 := Lib.hid (H8.out.step (h1.mono (Nat.le_refl _)))
    rw [hz8] at h2
    have n0 := h2.cell 0
    have nf := h2.frozen 0
    simp only [List.getElem?_toArray, List.getElem?_cons_zero] at n0
    clear h1 h3 hn2 hbx h80 hN0 hB0
    have b2 := (Below.refl _ V).alloc (Nat.le_refl _) (.cells #[.int .i64 1, .int .i64 3, .int .i64 99] 3)
    have hcs : ∀ b, (some ⟨V.heap.size, 0, none⟩ : Option Addr) = some b → ∀ j u, (([1, 3, 99] : List Int).map (Value.int .i64))[j]? = some u → (V.alloc (.cells #[.int .i64 1, .int .i64 3, .int .i64 99] 3)).cell? (b.add j) = some u := fun b e j u hj => by
      cases e
      rw [addr_add0, Nat.zero_add, (Blk.new V 3 #[.int .i64 1, .int .i64 3, .int .i64 99]).cell j, ← hj]
      simp
    have hP := Parts_any (H9.out.1.below b2) (some ⟨V.heap.size, 0, none⟩) 3 3 [1, 3, 99] rfl (by simp) hcs (by decide) (by unfold maxLen; decide) (by decide) (by decide)
    rw [run_pieces] at hP
    have H10 := Lib.hid (H9.out.step b2)
    have lD := (Array.getElem?_eq_some_iff.1 hK).1
    have hK2 := (b2.block _ lD).trans hK
    have hN2 := h2.below b2
    have HP := Lib.hid hP
    clear hcs hP n0 nf h2 b2
    gi_wp2_with fail
    refine (callsIn_wide.2 HP.out).mono ?_
    rintro e Wp ⟨v, rfl, hown, hbp⟩
    obtain ⟨A, c, rfl, hA⟩ := own_form hown
    obtain ⟨g, rfl, _, hg, hc⟩ := hA (by decide)
    have H11 := Lib.hid (H10.out.step hbp)
    have hK3 := (hbp.block _ (Array.getElem?_eq_some_iff.1 hK2).1).trans hK2
    have hN3 := hN2.below hbp
    have n0 := hN3.cell 0
    simp only [List.getElem?_toArray, List.getElem?_cons_zero] at n0
    have b3 := (Below.refl _ Wp).alloc (Nat.le_refl _) (.cells #[.string ⟨#[97]⟩, .string ⟨#[195, 169, 10, 226]⟩, .string ⟨#[130, 122]⟩, .string ⟨#[]⟩] 9)
    have HS : Hid (StrsAt (Wp.alloc (.cells #[.string ⟨#[97]⟩, .string ⟨#[195, 169, 10, 226]⟩, .string ⟨#[130, 122]⟩, .string ⟨#[]⟩] 9)) (some ⟨g, 0, none⟩) [⟨#[97]⟩, ⟨#[195, 169, 10, 226]⟩, ⟨#[130, 122]⟩, ⟨#[]⟩]) := Lib.hid (StrsAt.below (fun _ => ⟨_, rfl, hg, fun j hj => by
      rw [addr_add0, Nat.zero_add, hc j (by simpa using hj)]
      match j, hj with
      | 0, _ => rfl
      | 1, _ => rfl
      | 2, _ => rfl
      | 3, _ => rfl⟩) b3)
    have HS2 : Hid (StrsAt (Wp.alloc (.cells #[.string ⟨#[97]⟩, .string ⟨#[195, 169, 10, 226]⟩, .string ⟨#[130, 122]⟩, .string ⟨#[]⟩] 9)) (some ⟨Wp.heap.size, 0, none⟩) [⟨#[97]⟩, ⟨#[195, 169, 10, 226]⟩, ⟨#[130, 122]⟩, ⟨#[]⟩]) := Lib.hid (fun _ => ⟨_, rfl, by simp, fun j hj => by
      rw [addr_add0, Nat.zero_add, (Blk.new Wp 9 #[.string ⟨#[97]⟩, .string ⟨#[195, 169, 10, 226]⟩, .string ⟨#[130, 122]⟩, .string ⟨#[]⟩]).cell j]
      match j, hj with
      | 0, _ => rfl
      | 1, _ => rfl
      | 2, _ => rfl
      | 3, _ => rfl⟩)
    have H12 := Lib.hid (H11.out.step b3)
    have hK4 := (b3.block _ (Array.getElem?_eq_some_iff.1 hK3).1).trans hK3
    have HK4 := Lib.hid hK4
    have r0 := (H12.out.nth 5 rfl).cell 0
    have rf := (H12.out.nth 5 rfl).frozen 0
    clear hown hbp hA hc hN3 hN2 hK hK2 hK3 hK4 HP b3 H9 H10
    gi_wp2_with fail
    refine (callsIn_wide.2 (sameStr [⟨#[97]⟩, ⟨#[195, 169, 10, 226]⟩, ⟨#[130, 122]⟩, ⟨#[]⟩] _ _ _ _ _ HS.out HS2.out (by decide))).mono ?_
    rintro e Wq ⟨rfl, q, hq⟩
    have b4 : Below (Wp.alloc (.cells #[.string ⟨#[97]⟩, .string ⟨#[195, 169, 10, 226]⟩, .string ⟨#[130, 122]⟩, .string ⟨#[]⟩] 9)).heap.size (Wp.alloc (.cells #[.string ⟨#[97]⟩, .string ⟨#[195, 169, 10, 226]⟩, .string ⟨#[130, 122]⟩, .string ⟨#[]⟩] 9)) Wq := by rw [← hq]; exact below_drewN _ q
    have H13 := Lib.hid (H12.out.step b4)
    have hK5 := (b4.block _ (Array.getElem?_eq_some_iff.1 HK4.out).1).trans HK4.out
    have hr := H13.out.nth 5 rfl
    have r1 := hr.cell 0
    have rf1 := hr.frozen 0
    clear hq b4 HK4 r0 rf n0
    gi_wp2_with (gi_at_call 55; refine (callsIn_wide.2 (run_String H13.out.1)).mono ?_; rintro e w' ⟨rfl, rfl⟩)
    have hDne : D ≠ w.heap.size := by
      rintro rfl
      have h2 : Wq.heap[w.heap.size]? = _ := hr
      rw [hK5] at h2
      cases h2
    have hsw := H8.out.2.1.size
    refine leaves_marks [D] _ (by simp) (fun E hE => ?_) (fun W' hB => ⟨.bool true, ?_, rfl, ?_⟩)
    · obtain rfl : E = D := by simpa using hE
      exact (Below.heap_setCell _ _ _ _ (show E ≠ w.heap.size from hDne)).trans hK5
    · have g0 := ((hr.set_ 0 (.bool true)).of (hB.block _ (by simp; exact fun h => hDne h.symm))).cell 0
      simp at g0
      simp [results, Tryd.results20, go_sem, g0]
    · refine (H13.out.2.1.setCell (Nat.le_refl _) _).trans (hB.below (fun E hE => ?_))
      obtain rfl : E = D := by simpa using hE
      omega
  case stop =>
    rintro D cc pre V hD hsp hf hK
    exact hf.elim
end Go.Proofs.YtkenffbonnbflaaDoor
