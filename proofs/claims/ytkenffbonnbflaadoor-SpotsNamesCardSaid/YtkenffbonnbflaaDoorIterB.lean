/- The iterators of utf.Spots and utf.Back: their contracts for loops whose word is told by the blocks that they may write. -/
import Derived.Test.YtkenffbonnbflaaDoorSeqB
namespace Go.Proofs.YtkenffbonnbflaaDoor
open Go.RowKit Go.Shelf
set_option linter.unusedVariables false
attribute [local go_sem] Oper.semAt_some

theorem cell_only {A : Nat → Prop} {W W' : World} {g j : Nat} {v : Value} (h : Only A W W') (hA : ¬ A g) (hc : W.cell? ⟨g, j, none⟩ = some v) : W'.cell? ⟨g, j, none⟩ = some v :=
  (World.cell?_of_block (h.same g (lt_of_cell hc) hA)).trans hc
theorem tabs_only {A : Nat → Prop} {W W' : World} (h : Only A W W') (h0 : ¬ A 0) (h1 : ¬ A 1) (hT : Lib.Utf8Tabs 0 1 W) : Lib.Utf8Tabs 0 1 W' :=
  ⟨fun c hc => cell_only h h0 (hT.1 c hc), fun i hi => ⟨cell_only h h1 (hT.2 i hi).1, cell_only h h1 (hT.2 i hi).2⟩⟩

set_option maxRecDepth 100000 in
set_option maxHeartbeats 4000000 in
theorem spots_B (s : ByteArray) (Bn : Nat) (A : Nat → Prop) (hA : ¬ A Bn) (w : World) (hAw : ∀ k, A k → k < w.heap.size) (hbox : Blk w Bn 9 #[.string s]) (n : Nat) (hn : 1 ≤ n) :
    SeqStopsB Fence.wide n Tryd.prog 88 #[.pointer (some ⟨Bn, 0, none⟩)] (encS s) A (fun xs => xs = List.finRange (nS s)) (fun pre => ∃ k, k ≤ nS s ∧ pre = firstK s k) (nS s) w := fun l J Jx W hW hl0 hl1 hlr hJ hJx hY h0 => by
  have hwW := hW.size
  have hAl : ∀ k, W.heap.size ≤ k → ¬ (A k ∨ k = l) := fun k hk h => by
    rcases h with h | rfl
    · have := hAw k h; omega
    · omega
  have hBl : ¬ (A Bn ∨ Bn = l) := fun h => by
    rcases h with h | rfl
    · exact hA h
    · have := hbox.lt; omega
  have hboxW := hbox.below hW
  have c0 := hboxW.cell 0
  simp only [List.getElem?_toArray, List.getElem?_cons_zero] at c0
  refine callsIn_of_wp Tryd.func88 rfl trivial ?_ rfl
  simp only [Tryd.ntmps88, List.size_toArray, List.length_cons, List.length_nil, Nat.reduceAdd, Nat.reduceSub, Array.replicate_succ, Array.replicate_zero, List.push_toArray, List.append_toArray, List.nil_append, List.cons_append]
  gi_wp2
  gi_loopw [3] (fun _ wr => ∃ k : Nat, k ≤ nS s ∧ wr.heap[W.heap.size]? = some (.stringIter s (bAt s k)) ∧ Blk wr Bn 9 #[.string s] ∧ W.heap.size < wr.heap.size ∧ J (firstK s k) wr) (fun _ wr => s.size - wr.iterPos W.heap.size)
  case atStart =>
    refine ⟨0, Nat.zero_le _, by rw [bAt_nil]; exact World.iter_heap W s 0, hboxW.alloc _, (Array.getElem?_eq_some_iff.1 (World.iter_heap W s 0)).1, hJ [] W _ h0 ((Below.refl _ W).alloc (Nat.le_refl _) _)⟩
  case round =>
    obtain ⟨k, hk, hit, hbx, hsz, hj⟩ := hrel
    by_cases hlt : k < nS s
    · obtain ⟨hd, hp, hnx1, hlt2, hbad⟩ := spA_dec s k hlt
      obtain ⟨hr1, hr2, hr3⟩ := spA_range s k hlt
      have hdec : Utf8.decode s (bAt s k) = ((spA s k).r, (spA s k).n) := by rw [← Lib.decodeL_drop]; exact hd
      have hnx := fun ty => Lib.run_next_any_at (P := Tryd.prog) wr W.heap.size s (bAt s k) ty hit hlt2
      simp only [hdec, hnx1] at hnx
      obtain ⟨w1, hw1⟩ : ∃ w1, wr.iterAt W.heap.size s (bAt s (k + 1)) = w1 := ⟨_, rfl⟩
      simp only [hw1] at hnx
      have hne : Bn ≠ W.heap.size := by have := hboxW.lt; omega
      have hbx1 : Blk w1 Bn 9 #[.string s] := by rw [← hw1]; exact hbx.of (Lib.iterAt_other _ _ _ _ _ hne)
      have hit1 : w1.heap[W.heap.size]? = some (.stringIter s (bAt s (k + 1))) := by rw [← hw1]; exact Lib.iterAt_heap _ _ _ _ _ hit
      have hj1 : J (firstK s k) w1 := by rw [← hw1]; exact hJ _ _ _ hj ((Below.refl W.heap.size wr).grown (grown_iterAt _ _ _ _) (by omega) (fun k e => by cases e; exact Nat.le_refl _))
      have Hit := Lib.hid hit
      have Hsz : Hid (bAt s k < bAt s (k + 1) ∧ bAt s (k + 1) ≤ s.size) := Lib.hid ⟨bAt_lt s k (k + 1) (by omega) (by omega), bAt_le s (k + 1)⟩
      have c1 := hbx1.cell 0
      simp only [List.getElem?_toArray, List.getElem?_cons_zero] at c1
      have hne2 : s.data.toList.drop (bAt s k) ≠ [] := drop_ne s _ hlt2
      have hext : (s.extract (bAt s k) s.size).data.toList = s.data.toList.drop (bAt s k) := by rw [ext_list, List.take_of_length_le (by rw [List.length_drop, toList_len]; omega)]
      have henc : (Utf8.encode 65533).data.toList = [239, 191, 189] := by decide
      have i1 : (bAt s k : Int) ≤ (s.size : Int) := by omega
      have HR := Lib.hid (fun w => utfSpot (spA s k).r (spA s k).n w hr1 hr3)
      rw [← hbad] at HR
      clear hdec hw1 hbx hit hsz hj hnx1 hp
      by_cases hr : (spA s k).r = 65533
      · have t1 : (((spA s k).r : Int) == 65533) = true := by rw [beq_iff_eq]; omega
        have hr1' : (Lib.decodeL (s.data.toList.drop (bAt s k))).1 = 65533 := by rw [hd]; exact hr
        cases hb : (spA s k).bad with
        | true =>
          have hbd : isBad (Lib.decodeL (s.data.toList.drop (bAt s k))) = true := by rw [hd, ← hbad]; exact hb
          have hn1 : (spA s k).n = 1 := by
            rw [hd] at hbd
            unfold isBad at hbd
            simp only [Bool.and_eq_true, beq_iff_eq] at hbd
            exact hbd.2
          have hpre := prefix_bad _ hbd
          have HL : Hid (∀ w : World, Calls Tryd.prog 86 #[.int .i32 ((spA s k).r : Int)] w fun e w' => e = .returned (.int .i64 3) ∧ w = w') := Lib.hid (fun w => (Tryd.utf8_RuneLen _ w).mono (by
            rintro e w' ⟨rfl, rfl⟩
            rw [hr]
            exact ⟨rfl, rfl⟩))
          have HP : Hid (∀ w : World, Calls Tryd.prog 89 #[.string (s.extract (bAt s k) s.size), .string (Utf8.encode ((spA s k).r : Int))] w fun e w' => e = .returned (.bool false) ∧ w = w') := Lib.hid (fun w => by
            rw [hr, show ((65533 : Nat) : Int) = 65533 from rfl]
            refine (Tryd.strings_HasPrefix _ _ w).mono ?_
            rintro e w' ⟨rfl, rfl⟩
            rw [hext, henc, hpre]
            exact ⟨rfl, rfl⟩)
          have HS : Hid (∀ w : World, Calls Tryd.prog 81 #[.int .i32 ((spA s k).r : Int), .int .i64 1] w fun e w' => e = .returned (.agg #[.int .i32 ((spA s k).r : Int), .int .i64 ((spA s k).n : Int), .bool (spA s k).bad]) ∧ Below w.heap.size w w') := Lib.hid (fun w => by
            have h := HR.out w
            rw [hn1] at h ⊢
            exact h)
          clear hd hbad hr hb hbd hn1 hpre hr1' henc hext HR
          gi_wp2_with (first | (refine ⟨trivial, ?_⟩; gi_at_call 86; refine (callsIn_wide.2 (HL.out _)).mono ?_; rintro e w' ⟨rfl, rfl⟩) | (refine ⟨trivial, ?_⟩; gi_at_call 89; refine (callsIn_wide.2 (HP.out _)).mono ?_; rintro e w' ⟨rfl, rfl⟩))
          refine ⟨trivial, (callsIn_wide.2 (HS.out _)).mono ?_⟩
          rintro e w2 ⟨rfl, hb2⟩
          have hj2 := hJ _ _ _ hj1 (hb2.mono (by have := (Array.getElem?_eq_some_iff.1 hit1).1; omega))
          have hbx2 := hbx1.below hb2
          have hit2 := (hb2.block _ (Array.getElem?_eq_some_iff.1 hit1).1).trans hit1
          obtain ⟨fn, tmps, assign, body, hy, hR⟩ := hY (firstK s k) ⟨k, hlt⟩ w2 hj2 ⟨k + 1, hlt, firstK_succ s k hlt⟩ (by rw [firstK_length s k hk]; exact hlt)
          dsimp only [encS] at hy
          rw [firstK_succ s k hlt] at hR
          clear hb2 hj1 hbx1 hit1 hj2
          gi_wp2
          refine hR.mono ?_
          rintro e W3 ⟨hk3, (⟨rfl, hJ3⟩ | ⟨rfl, hJx3⟩)⟩
          · have hit3 := (hk3.same _ (Array.getElem?_eq_some_iff.1 hit2).1 (hAl _ (Nat.le_refl _))).trans hit2
            have hbx3 := hk3.blk hBl hbx2
            gi_wp2
            go_roundw
            case rel => exact ⟨k + 1, by omega, hit3, hbx3, (Array.getElem?_eq_some_iff.1 hit3).1, hJ3⟩
            case measure => simp only [World.iterPos, hit3, Hit.out]; have := Hsz.out; omega
          · gi_wp2
            refine bodyPost_ret (results_none rfl _ _ _) rfl ?_
            exact ⟨⟨_, rfl⟩, .inr ⟨_, ⟨k + 1, by omega, rfl⟩, hJx3⟩⟩
        | false =>
          have hbd : isBad (Lib.decodeL (s.data.toList.drop (bAt s k))) = false := by rw [hd, ← hbad]; exact hb
          obtain ⟨hpre, hn3⟩ := prefix_good _ hne2 hr1' hbd
          rw [hd] at hn3
          dsimp only at hn3
          have HL : Hid (∀ w : World, Calls Tryd.prog 86 #[.int .i32 ((spA s k).r : Int)] w fun e w' => e = .returned (.int .i64 ((spA s k).n : Int)) ∧ w = w') := Lib.hid (fun w => (Tryd.utf8_RuneLen _ w).mono (by
            rintro e w' ⟨rfl, rfl⟩
            rw [hr, hn3]
            exact ⟨rfl, rfl⟩))
          have HP : Hid (∀ w : World, Calls Tryd.prog 89 #[.string (s.extract (bAt s k) s.size), .string (Utf8.encode ((spA s k).r : Int))] w fun e w' => e = .returned (.bool true) ∧ w = w') := Lib.hid (fun w => by
            rw [hr, show ((65533 : Nat) : Int) = 65533 from rfl]
            refine (Tryd.strings_HasPrefix _ _ w).mono ?_
            rintro e w' ⟨rfl, rfl⟩
            rw [hext, henc, hpre]
            exact ⟨rfl, rfl⟩)
          have HS := HR
          clear hd hbad hr hb hbd hn3 hpre hr1' henc hext HR
          unfold utfV at HS
          gi_wp2_with (first | (refine ⟨trivial, ?_⟩; gi_at_call 86; refine (callsIn_wide.2 (HL.out _)).mono ?_; rintro e w' ⟨rfl, rfl⟩) | (refine ⟨trivial, ?_⟩; gi_at_call 89; refine (callsIn_wide.2 (HP.out _)).mono ?_; rintro e w' ⟨rfl, rfl⟩))
          refine ⟨trivial, (callsIn_wide.2 (HS.out _)).mono ?_⟩
          rintro e w2 ⟨rfl, hb2⟩
          have hj2 := hJ _ _ _ hj1 (hb2.mono (by have := (Array.getElem?_eq_some_iff.1 hit1).1; omega))
          have hbx2 := hbx1.below hb2
          have hit2 := (hb2.block _ (Array.getElem?_eq_some_iff.1 hit1).1).trans hit1
          obtain ⟨fn, tmps, assign, body, hy, hR⟩ := hY (firstK s k) ⟨k, hlt⟩ w2 hj2 ⟨k + 1, hlt, firstK_succ s k hlt⟩ (by rw [firstK_length s k hk]; exact hlt)
          dsimp only [encS] at hy
          rw [firstK_succ s k hlt] at hR
          clear hb2 hj1 hbx1 hit1 hj2
          gi_wp2
          refine hR.mono ?_
          rintro e W3 ⟨hk3, (⟨rfl, hJ3⟩ | ⟨rfl, hJx3⟩)⟩
          · have hit3 := (hk3.same _ (Array.getElem?_eq_some_iff.1 hit2).1 (hAl _ (Nat.le_refl _))).trans hit2
            have hbx3 := hk3.blk hBl hbx2
            gi_wp2
            go_roundw
            case rel => exact ⟨k + 1, by omega, hit3, hbx3, (Array.getElem?_eq_some_iff.1 hit3).1, hJ3⟩
            case measure => simp only [World.iterPos, hit3, Hit.out]; have := Hsz.out; omega
          · gi_wp2
            refine bodyPost_ret (results_none rfl _ _ _) rfl ?_
            exact ⟨⟨_, rfl⟩, .inr ⟨_, ⟨k + 1, by omega, rfl⟩, hJx3⟩⟩
      · have t1 : (((spA s k).r : Int) == 65533) = false := by rw [beq_eq_false_iff_ne]; omega
        have hrl := Lib.runeLen_decode (s.data.toList.drop (bAt s k)) (by rw [hd]; exact hr)
        rw [hd] at hrl
        dsimp only at hrl
        have HL : Hid (∀ w : World, Calls Tryd.prog 86 #[.int .i32 ((spA s k).r : Int)] w fun e w' => e = .returned (.int .i64 ((spA s k).n : Int)) ∧ w = w') := Lib.hid (fun w => (Tryd.utf8_RuneLen _ w).mono (by
          rintro e w' ⟨rfl, rfl⟩
          rw [hrl]
          exact ⟨rfl, rfl⟩))
        have HS := HR
        clear hd hbad hr hrl henc hext HR
        unfold utfV at HS
        gi_wp2_with (refine ⟨trivial, ?_⟩; gi_at_call 86; refine (callsIn_wide.2 (HL.out _)).mono ?_; rintro e w' ⟨rfl, rfl⟩)
        refine ⟨trivial, ?_⟩
        gi_wp2
        refine ⟨trivial, (callsIn_wide.2 (HS.out _)).mono ?_⟩
        rintro e w2 ⟨rfl, hb2⟩
        have hj2 := hJ _ _ _ hj1 (hb2.mono (by have := (Array.getElem?_eq_some_iff.1 hit1).1; omega))
        have hbx2 := hbx1.below hb2
        have hit2 := (hb2.block _ (Array.getElem?_eq_some_iff.1 hit1).1).trans hit1
        obtain ⟨fn, tmps, assign, body, hy, hR⟩ := hY (firstK s k) ⟨k, hlt⟩ w2 hj2 ⟨k + 1, hlt, firstK_succ s k hlt⟩ (by rw [firstK_length s k hk]; exact hlt)
        dsimp only [encS] at hy
        rw [firstK_succ s k hlt] at hR
        clear hb2 hj1 hbx1 hit1 hj2
        gi_wp2
        refine hR.mono ?_
        rintro e W3 ⟨hk3, (⟨rfl, hJ3⟩ | ⟨rfl, hJx3⟩)⟩
        · have hit3 := (hk3.same _ (Array.getElem?_eq_some_iff.1 hit2).1 (hAl _ (Nat.le_refl _))).trans hit2
          have hbx3 := hk3.blk hBl hbx2
          gi_wp2
          go_roundw
          case rel => exact ⟨k + 1, by omega, hit3, hbx3, (Array.getElem?_eq_some_iff.1 hit3).1, hJ3⟩
          case measure => simp only [World.iterPos, hit3, Hit.out]; have := Hsz.out; omega
        · gi_wp2
          refine bodyPost_ret (results_none rfl _ _ _) rfl ?_
          exact ⟨⟨_, rfl⟩, .inr ⟨_, ⟨k + 1, by omega, rfl⟩, hJx3⟩⟩
    · obtain rfl : k = nS s := by omega
      have hnx := fun ty => Lib.run_next_end_at (P := Tryd.prog) wr W.heap.size s (bAt s (nS s)) ty hit (by rw [bAt_end]; omega)
      rw [firstK_all] at hj
      gi_wp2
      go_end0
      exact ⟨⟨_, rfl⟩, .inl ⟨_, rfl, hj⟩⟩
set_option maxRecDepth 100000 in
set_option maxHeartbeats 4000000 in
theorem back_B (s : ByteArray) (Bn : Nat) (A : Nat → Prop) (hA : ¬ A Bn) (hA0 : ¬ A 0) (hA1 : ¬ A 1) (w : World) (hAw : ∀ k, A k → k < w.heap.size) (hbox : Blk w Bn 9 #[.string s]) (hT : Lib.Utf8Tabs 0 1 w) (hs : s.size ≤ 9223372036854775807) (n : Nat) (hn : 1 ≤ n) :
    SeqStopsB Fence.wide n Tryd.prog 93 #[.pointer (some ⟨Bn, 0, none⟩)] (encB s) A (fun xs => xs = List.finRange (nS s)) (fun pre => ∃ k, k ≤ nS s ∧ pre = firstK s k) (nS s) w := fun l J Jx W hW hl0 hl1 hlr hJ hJx hY h0 => by
  have hwW := hW.size
  have hq0 := lt_of_cell (hT.2 0 (by omega)).1
  have hq1 := lt_of_cell (hT.1 0 (by omega))
  have hBl : ¬ (A Bn ∨ Bn = l) := fun h => by
    rcases h with h | rfl
    · exact hA h
    · have := hbox.lt; omega
  have hAl0 : ¬ (A 0 ∨ 0 = l) := fun h => by
    rcases h with h | rfl
    · exact hA0 h
    · omega
  have hAl1 : ¬ (A 1 ∨ 1 = l) := fun h => by
    rcases h with h | rfl
    · exact hA1 h
    · omega
  have hboxW := hbox.below hW
  have hTW := Utf8Tabs_below hT hW
  have c0 := hboxW.cell 0
  simp only [List.getElem?_toArray, List.getElem?_cons_zero] at c0
  refine callsIn_of_wp Tryd.func93 rfl trivial ?_ rfl
  simp only [Tryd.ntmps93, List.size_toArray, List.length_cons, List.length_nil, Nat.reduceAdd, Nat.reduceSub, Array.replicate_succ, Array.replicate_zero, List.push_toArray, List.append_toArray, List.nil_append, List.cons_append]
  gi_wp2
  gi_loopw [3] (fun e wr => ∃ k : Nat, k ≤ nS s ∧ e = .int .i64 (bAt s (nS s - k) : Int) ∧ Blk wr Bn 9 #[.string s] ∧ Hid (Lib.Utf8Tabs 0 1 wr) ∧ W.heap.size ≤ wr.heap.size ∧ J (firstK s k) wr) (fun e _ => (intOf e).toNat)
  case atStart =>
    exact ⟨0, Nat.zero_le _, by rw [Nat.sub_zero, bAt_end], hboxW, Lib.hid hTW, Nat.le_refl _, h0⟩
  case round =>
    obtain ⟨k, hk, rfl, hbx, HTr, hsz, hj⟩ := hrel
    by_cases hlt : k < nS s
    · obtain ⟨m, hm⟩ : ∃ m, nS s - (k + 1) = m := ⟨_, rfl⟩
      have hm1 : nS s - k = m + 1 := by omega
      have hmn : m < nS s := by omega
      obtain ⟨hd, hp, hnx1, hlt2, hbad⟩ := spA_dec s m hmn
      obtain ⟨hr1, hr2, hr3⟩ := spA_range s m hmn
      have hbd := back_dec s m hmn
      have hle := bAt_le s (m + 1)
      have hlm := bAt_lt s m (m + 1) (by omega) (by omega)
      have HD := Lib.hid (Tryd.utf8_DecodeLastRuneInString (s.extract 0 (bAt s (m + 1))) wr (by rw [ByteArray.size_extract]; omega) HTr.out)
      rw [hbd] at HD
      have HR := Lib.hid (fun w => utfSpot (spA s m).r (spA s m).n w hr1 hr3)
      rw [← hbad] at HR
      unfold utfV at HR
      have cb := hbx.cell 0
      simp only [List.getElem?_toArray, List.getElem?_cons_zero] at cb
      have i0 : (0 : Int) < (bAt s (m + 1) : Int) := by omega
      have i1 : (bAt s (m + 1) : Int) ≤ (s.size : Int) := by omega
      have i2 : ((bAt s (m + 1) : Int)) - ((spA s m).n : Int) = (bAt s m : Int) := by omega
      rw [hm1]
      clear hd hp hbad hbd
      gi_wp2_with (refine ⟨trivial, ?_⟩; gi_at_call 83; refine (callsIn_wide.2 HD.out).mono ?_; rintro e w2 ⟨rfl, hb2⟩)
      refine ⟨trivial, (callsIn_wide.2 (HR.out _)).mono ?_⟩
      rintro e w3 ⟨rfl, hb3⟩
      have hb23 : Below wr.heap.size wr w3 := hb2.trans (hb3.mono hb2.size)
      have hj3 := hJ _ _ _ hj (hb23.mono hsz)
      have hj4 := hJ _ _ _ hj3 ((Below.refl W.heap.size w3).alloc (Nat.le_trans hsz hb23.size) (.cells #[.int .i32 ((spA s m).r : Int), .int .i64 ((spA s m).n : Int), .bool (spA s m).bad] 25))
      have hb4 : Below wr.heap.size wr (w3.alloc (.cells #[.int .i32 ((spA s m).r : Int), .int .i64 ((spA s m).n : Int), .bool (spA s m).bad] 25)) := hb23.alloc hb23.size _
      have hbx4 := hbx.below hb4
      have HT4 := Lib.hid (Utf8Tabs_below HTr.out hb4)
      have hsz4 : W.heap.size ≤ (w3.alloc (.cells #[.int .i32 ((spA s m).r : Int), .int .i64 ((spA s m).n : Int), .bool (spA s m).bad] 25)).heap.size := Nat.le_trans hsz hb4.size
      have x1 := (Blk.new w3 25 #[.int .i32 ((spA s m).r : Int), .int .i64 ((spA s m).n : Int), .bool (spA s m).bad]).cell 1
      obtain ⟨fn, tmps, assign, body, hy, hR⟩ := hY (firstK s k) ⟨k, hlt⟩ _ hj4 ⟨k + 1, hlt, firstK_succ s k hlt⟩ (by rw [firstK_length s k hk]; exact hlt)
      dsimp only [encB] at hy
      simp only [hm] at hy
      rw [firstK_succ s k hlt] at hR
      have Hm2 := Lib.hid (show bAt s m < bAt s (m + 1) from hlm)
      clear hb2 hb3 hb23 hb4 hj hj3 hj4 hbx HD HR HTr hsz hm1 hlm
      gi_wp2
      refine hR.mono ?_
      rintro e W3 ⟨hk3, (⟨rfl, hJ3⟩ | ⟨rfl, hJx3⟩)⟩
      · have hbx3 := hk3.blk hBl hbx4
        have HT3 := Lib.hid (tabs_only hk3 hAl0 hAl1 HT4.out)
        have hsz3 := Nat.le_trans hsz4 hk3.size
        gi_wp2
        go_roundw
        case rel => exact ⟨k + 1, by omega, by rw [hm], hbx3, HT3, hsz3, hJ3⟩
        case measure => have := Hm2.out; simp [intOf]; omega
      · gi_wp2
        refine bodyPost_ret (results_none rfl _ _ _) rfl ?_
        exact ⟨⟨_, rfl⟩, .inr ⟨_, ⟨k + 1, by omega, rfl⟩, hJx3⟩⟩
    · obtain rfl : k = nS s := by omega
      rw [Nat.sub_self, bAt_nil]
      rw [firstK_all] at hj
      gi_wp2
      go_end0
      exact ⟨⟨_, rfl⟩, .inl ⟨_, rfl, hj⟩⟩
end Go.Proofs.YtkenffbonnbflaaDoor
