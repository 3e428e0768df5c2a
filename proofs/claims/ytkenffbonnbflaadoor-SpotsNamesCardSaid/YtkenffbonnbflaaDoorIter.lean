/- utf.Spots: the contract of the iterator that it hands out, for every loop body that keeps what the iterator leans on. -/
import Derived.RangeFuncNested
import Derived.RangeFuncBound
import Derived.RangeFuncCalls
import Derived.RangeFuncLeaves
import Derived.Shelf.Abstract
import Derived.Shelf.RegionOpen
import Derived.WalkKit
import Derived.OwnWalkIn
import Derived.TacticsInMore
import Derived.LoopNIn
import Derived.LoopIn
import Derived.Laws.Runes
import Derived.Test.YtkenffbonnbflaaDoorFirst
import Derived.Test.YtkenffbonnbflaaDoorPlh
import Derived.Test.YtkenffbonnbflaaDoorBytes
import Derived.Test.YtkenffbonnbflaaDoorNumOf
namespace Go.Proofs.YtkenffbonnbflaaDoor
open Go.RowKit Go.Shelf
set_option linter.unusedVariables false

/-- a text's spot, by its number -/
def spA (s : ByteArray) (i : Nat) : Spt := (sp s).getD i ⟨0, 0, 0, false⟩
theorem spA_get (s : ByteArray) (i : Nat) (h : i < nS s) : (sp s)[i]? = some (spA s i) := by
  unfold spA nS at *
  rw [List.getD_eq_getElem?_getD, List.getElem?_eq_getElem h]; rfl
theorem spA_eq {s : ByteArray} {i : Nat} {x : Spt} (h : (sp s)[i]? = some x) : spA s i = x := by
  unfold spA
  rw [List.getD_eq_getElem?_getD, h]; rfl
theorem spA_dec (s : ByteArray) (i : Nat) (h : i < nS s) : Lib.decodeL (s.data.toList.drop (bAt s i)) = ((spA s i).r, (spA s i).n) ∧ (spA s i).pos = bAt s i ∧ bAt s i + (spA s i).n = bAt s (i + 1) ∧ bAt s i < s.size ∧ (spA s i).bad = isBad ((spA s i).r, (spA s i).n) := by
  obtain ⟨e1, e2, e3, e4⟩ := spot_dec s.data.toList i _ (spA_get s i h)
  have a : (spA s i).r = (Lib.decodeL (s.data.toList.drop (spA s i).pos)).1 := congrArg Spt.r e1
  have b : (spA s i).n = (Lib.decodeL (s.data.toList.drop (spA s i).pos)).2 := congrArg Spt.n e1
  have c : (spA s i).bad = isBad (Lib.decodeL (s.data.toList.drop (spA s i).pos)) := congrArg Spt.bad e1
  rw [toList_len] at e4
  rw [e2] at a b c e3 e4
  rw [← bAt_pos] at a b c e2 e3 e4
  rw [← bAt_pos] at e3
  have hd : Lib.decodeL (s.data.toList.drop (bAt s i)) = ((spA s i).r, (spA s i).n) := by rw [a, b]
  rw [hd] at c
  exact ⟨hd, e2, e3, e4, c⟩
theorem spA_range (s : ByteArray) (i : Nat) (h : i < nS s) : (spA s i).r ≤ 1114111 ∧ 1 ≤ (spA s i).n ∧ (spA s i).n ≤ 4 := by
  have := sp_range s (spA s i) (List.mem_of_getElem? (spA_get s i h))
  omega

/-- a round may write its own cells, and no others -/
structure Keeps (A : Nat → Prop) (W W' : World) : Prop where
  size : W.heap.size ≤ W'.heap.size
  same : ∀ (k : Nat) (o : Obj), W.heap[k]? = some o → (o.isWalk = true ∨ (o.isCells = true ∧ ¬ A k)) → W'.heap[k]? = some o
theorem Keeps.refl (A : Nat → Prop) (W : World) : Keeps A W W := ⟨Nat.le_refl _, fun _ _ h _ => h⟩
theorem Keeps.trans {A : Nat → Prop} {X Y Z : World} (h : Keeps A X Y) (k : Keeps A Y Z) : Keeps A X Z := ⟨Nat.le_trans h.size k.size, fun i o hi ho => k.same i o (h.same i o hi ho) ho⟩
theorem keeps_b {A : Nat → Prop} {w : World} (W : World) (l : Nat) (o o' : Obj) (_ : w.heap.size ≤ l) (h : W.heap[l]? = some o) (hc : o.isCells = false) (hw : o.isWalk = false) : Keeps A W (W.putObj l o') :=
  ⟨(grownBy_putObj' W l o').size, fun k o2 hk ho => by
    by_cases e : k = l
    · subst e
      rw [h] at hk
      cases hk
      rcases ho with ho | ho
      · rw [hw] at ho; cases ho
      · rw [hc] at ho; cases ho.1
    · exact (World.putObj_heap_other e).trans hk⟩
theorem Keeps.below {A : Nat → Prop} {W W' : World} (h : Below W.heap.size W W') : Keeps A W W' :=
  ⟨h.size, fun k o hk _ => (h.block k (Array.getElem?_eq_some_iff.1 hk).1).trans hk⟩
theorem Keeps.setCell {A : Nat → Prop} (W : World) (b i : Nat) (v : Value) (hb : A b) : Keeps A W (W.setCell ⟨b, i, none⟩ v) :=
  ⟨(KeepsOthers.setCell W ⟨b, i, none⟩ v).size, fun k o hk ho => by
    rcases ho with ho | ho
    · exact (KeepsWalks.setCell W ⟨b, i, none⟩ v).same k o hk ho
    · exact (Below.heap_setCell W ⟨b, i, none⟩ v k (fun e => ho.2 (by rw [e]; exact hb))).trans hk⟩
theorem Keeps.blk {A : Nat → Prop} {W W' : World} {g : Nat} {t : TypeId} {cs : Array Value} (h : Keeps A W W') (hA : ¬ A g) (hb : Blk W g t cs) : Blk W' g t cs := h.same g _ hb (.inr ⟨rfl, hA⟩)
theorem Keeps.iter {A : Nat → Prop} {W W' : World} {g : Nat} {s : ByteArray} {p : Nat} (h : Keeps A W W') (hb : W.heap[g]? = some (.stringIter s p)) : W'.heap[g]? = some (.stringIter s p) := h.same g _ hb (.inl rfl)
theorem grown_of_below {W W' : World} (h : Below W.heap.size W W') : W.grownBy W' none := ⟨h.os, h.tape, h.output, h.size, fun k hk _ => h.block k hk⟩
theorem grown_iterAt (W : World) (k : Nat) (s : ByteArray) (p : Nat) : W.grownBy (W.iterAt k s p) (some k) :=
  ⟨rfl, rfl, rfl, by rw [Lib.iterAt_size]; exact Nat.le_refl _, fun j _ hj => Lib.iterAt_other W k j s p (fun e => hj (by rw [e]))⟩

/-- what comes: a spot's place, and the spot -/
abbrev encS (s : ByteArray) (i : Fin (nS s)) : Array Value := #[.int .i64 (bAt s i.val : Int), .agg #[.int .i32 ((spA s i.val).r : Int), .int .i64 ((spA s i.val).n : Int), .bool (spA s i.val).bad]]
/-- the first k numbers -/
def firstK (s : ByteArray) (k : Nat) : List (Fin (nS s)) := (List.finRange (nS s)).take k
theorem firstK_succ (s : ByteArray) (k : Nat) (h : k < nS s) : firstK s k ++ [⟨k, h⟩] = firstK s (k + 1) := by
  unfold firstK
  rw [List.take_succ_eq_append_getElem (by simpa using h)]
  simp
theorem firstK_length (s : ByteArray) (k : Nat) (h : k ≤ nS s) : (firstK s k).length = k := by
  unfold firstK; simp; omega
theorem firstK_all (s : ByteArray) : firstK s (nS s) = List.finRange (nS s) := by
  unfold firstK; rw [List.take_of_length_le (by simp)]
/-- the last one of the first ones -/
theorem firstK_last {s : ByteArray} {k : Nat} {pre : List (Fin (nS s))} {i : Fin (nS s)} (hk : k ≤ nS s) (h : pre ++ [i] = firstK s k) : i.val = pre.length ∧ k = pre.length + 1 ∧ pre = firstK s pre.length := by
  have hl := congrArg List.length h
  rw [firstK_length s k hk, List.length_append] at hl
  simp only [List.length_cons, List.length_nil] at hl
  obtain rfl : k = pre.length + 1 := by omega
  rw [← firstK_succ s pre.length (by omega)] at h
  have h2 := List.append_inj h (by rw [firstK_length s _ (by omega)])
  have h3 := h2.2
  simp only [List.cons.injEq, and_true] at h3
  refine ⟨by rw [h3], rfl, h2.1⟩

theorem mem_firstK {s : ByteArray} (m : Nat) (i : Fin (nS s)) (h : i.val < m) : i ∈ firstK s m := by
  unfold firstK
  rw [List.mem_take_iff_getElem]
  exact ⟨i.val, by simp; omega, by simp⟩
theorem mem_pre {s : ByteArray} {pre : List (Fin (nS s))} (h : pre = firstK s pre.length) (i : Fin (nS s)) (hi : i.val < pre.length) : i ∈ pre :=
  Eq.mp (congrArg (i ∈ ·) h.symm) (mem_firstK pre.length i hi)
theorem prefix_bad (l : List UInt8) (hb : isBad (Lib.decodeL l) = true) : Lib.hasPrefix l [239, 191, 189] = false := by
  unfold Lib.hasPrefix
  rw [Bool.eq_false_iff]
  intro h
  obtain ⟨t, rfl⟩ := List.isPrefixOf_iff_prefix.1 h
  have hd := dec_enc 65533 (by omega) t
  rw [show ((65533 : Nat) : Int) = 65533 from rfl, show Lib.encodeRune 65533 = [239, 191, 189] by decide] at hd
  rw [hd] at hb
  cases hb
theorem prefix_good (l : List UInt8) (hne : l ≠ []) (h1 : (Lib.decodeL l).1 = 65533) (hb : isBad (Lib.decodeL l) = false) : Lib.hasPrefix l [239, 191, 189] = true ∧ (Lib.decodeL l).2 = 3 := by
  have hn : ¬ ((Lib.decodeL l).1 = 65533 ∧ (Lib.decodeL l).2 = 1) := fun c => by
    unfold isBad at hb
    rw [c.1, c.2] at hb
    cases hb
  have e := Lib.encode_decode l hne hn
  rw [h1, show ((65533 : Nat) : Int) = 65533 from rfl, show Lib.encodeRune 65533 = [239, 191, 189] by decide] at e
  have hle := Lib.decodeL_le l hne
  have hlen := congrArg List.length e
  rw [List.length_take] at hlen
  simp only [List.length_cons, List.length_nil] at hlen
  refine ⟨?_, by omega⟩
  unfold Lib.hasPrefix
  rw [List.isPrefixOf_iff_prefix, e]
  exact List.take_prefix _ _

attribute [local go_sem] Oper.semAt_some
set_option maxRecDepth 100000 in
set_option maxHeartbeats 4000000 in
theorem spots_stops (s : ByteArray) (Bn : Nat) (A : Nat → Prop) (hA : ¬ A Bn) (w : World) (hbox : Blk w Bn 9 #[.string s]) (n : Nat) (hn : 1 ≤ n) :
    SeqStopsK Fence.wide n Tryd.prog 88 #[.pointer (some ⟨Bn, 0, none⟩)] (encS s) (Keeps A) (fun xs => xs = List.finRange (nS s)) (fun pre => ∃ k, k ≤ nS s ∧ pre = firstK s k) (nS s) w := fun l J Jx W hW hJ hJx hY h0 => by
  have hboxW := hbox.below hW
  have c0 := hboxW.cell 0
  simp only [List.getElem?_toArray, List.getElem?_cons_zero] at c0
  refine callsIn_of_wp Tryd.func88 rfl trivial ?_ rfl
  simp only [Tryd.ntmps88, List.size_toArray, List.length_cons, List.length_nil, Nat.reduceAdd, Nat.reduceSub, Array.replicate_succ, Array.replicate_zero, List.push_toArray, List.append_toArray, List.nil_append, List.cons_append]
  gi_wp2
  gi_loopw [3] (fun _ wr => ∃ k : Nat, k ≤ nS s ∧ wr.heap[W.heap.size]? = some (.stringIter s (bAt s k)) ∧ Blk wr Bn 9 #[.string s] ∧ W.heap.size < wr.heap.size ∧ J (firstK s k) wr) (fun _ wr => s.size - wr.iterPos W.heap.size)
  case atStart =>
    refine ⟨0, Nat.zero_le _, by rw [bAt_nil]; exact World.iter_heap W s 0, hboxW.alloc _, (Array.getElem?_eq_some_iff.1 (World.iter_heap W s 0)).1, hJ [] W _ none h0 (World.grownBy_alloc W _ none) (fun r e => by cases e)⟩
  case round =>
    obtain ⟨k, hk, hit, hbx, hsz, hj⟩ := hrel
    by_cases hlt : k < nS s
    · obtain ⟨hd, hp, hnx1, hlt2, hbad⟩ := spA_dec s k hlt
      obtain ⟨hr1, hr2, hr3⟩ := spA_range s k hlt
      have hdec : Utf8.decode s (bAt s k) = ((spA s k).r, (spA s k).n) := by rw [← Lib.decodeL_drop]; exact hd
      have hnx := fun ty => Lib.run_next_any_at (P := Tryd.prog) wr W.heap.size s (bAt s k) ty hit hlt2
      simp only [hdec, hnx1] at hnx
      obtain ⟨w1, hw1⟩ : ∃ w1, wr.iterAt W.heap.size s (bAt s (k + 1)) = w1 := ⟨_, rfl⟩
      simp only [hw1] at hnx
      have hne : Bn ≠ W.heap.size := by have := hboxW.lt; omega
      have hbx1 : Blk w1 Bn 9 #[.string s] := by rw [← hw1]; exact hbx.of (Lib.iterAt_other _ _ _ _ _ hne)
      have hit1 : w1.heap[W.heap.size]? = some (.stringIter s (bAt s (k + 1))) := by rw [← hw1]; exact Lib.iterAt_heap _ _ _ _ _ hit
      have hj1 : J (firstK s k) w1 := by rw [← hw1]; exact hJ _ _ _ (some W.heap.size) hj (grown_iterAt _ _ _ _) (fun r e => by cases e; exact ⟨Nat.le_refl _, _, hit, rfl⟩)
      have Hit := Lib.hid hit
      have Hsz : Hid (bAt s k < bAt s (k + 1) ∧ bAt s (k + 1) ≤ s.size) := Lib.hid ⟨bAt_lt s k (k + 1) (by omega) (by omega), bAt_le s (k + 1)⟩
      have c1 := hbx1.cell 0
      simp only [List.getElem?_toArray, List.getElem?_cons_zero] at c1
      have hne2 : s.data.toList.drop (bAt s k) ≠ [] := drop_ne s _ hlt2
      have hext : (s.extract (bAt s k) s.size).data.toList = s.data.toList.drop (bAt s k) := by rw [ext_list, List.take_of_length_le (by rw [List.length_drop, toList_len]; omega)]
      have henc : (Utf8.encode 65533).data.toList = [239, 191, 189] := by decide
      have i1 : (bAt s k : Int) ≤ (s.size : Int) := by omega
      have HR := Lib.hid (fun w => utfSpot (spA s k).r (spA s k).n w hr1 hr3)
      rw [← hbad] at HR
      clear hdec hw1 hbx hit hsz hj hnx1 hp
      by_cases hr : (spA s k).r = 65533
      · have t1 : (((spA s k).r : Int) == 65533) = true := by rw [beq_iff_eq]; omega
        have hr1' : (Lib.decodeL (s.data.toList.drop (bAt s k))).1 = 65533 := by rw [hd]; exact hr
        cases hb : (spA s k).bad with
        | true =>
          have hbd : isBad (Lib.decodeL (s.data.toList.drop (bAt s k))) = true := by rw [hd, ← hbad]; exact hb
          have hn1 : (spA s k).n = 1 := by
            rw [hd] at hbd
            unfold isBad at hbd
            simp only [Bool.and_eq_true, beq_iff_eq] at hbd
            exact hbd.2
          have hpre := prefix_bad _ hbd
          have HL : Hid (∀ w : World, Calls Tryd.prog 86 #[.int .i32 ((spA s k).r : Int)] w fun e w' => e = .returned (.int .i64 3) ∧ w = w') := Lib.hid (fun w => (Tryd.utf8_RuneLen _ w).mono (by
            rintro e w' ⟨rfl, rfl⟩
            rw [hr]
            exact ⟨rfl, rfl⟩))
          have HP : Hid (∀ w : World, Calls Tryd.prog 89 #[.string (s.extract (bAt s k) s.size), .string (Utf8.encode ((spA s k).r : Int))] w fun e w' => e = .returned (.bool false) ∧ w = w') := Lib.hid (fun w => by
            rw [hr, show ((65533 : Nat) : Int) = 65533 from rfl]
            refine (Tryd.strings_HasPrefix _ _ w).mono ?_
            rintro e w' ⟨rfl, rfl⟩
            rw [hext, henc, hpre]
            exact ⟨rfl, rfl⟩)
          have HS : Hid (∀ w : World, Calls Tryd.prog 81 #[.int .i32 ((spA s k).r : Int), .int .i64 1] w fun e w' => e = .returned (.agg #[.int .i32 ((spA s k).r : Int), .int .i64 ((spA s k).n : Int), .bool (spA s k).bad]) ∧ Below w.heap.size w w') := Lib.hid (fun w => by
            have h := HR.out w
            rw [hn1] at h ⊢
            exact h)
          clear hd hbad hr hb hbd hn1 hpre hr1' henc hext HR
          gi_wp2_with (first | (refine ⟨trivial, ?_⟩; gi_at_call 86; refine (callsIn_wide.2 (HL.out _)).mono ?_; rintro e w' ⟨rfl, rfl⟩) | (refine ⟨trivial, ?_⟩; gi_at_call 89; refine (callsIn_wide.2 (HP.out _)).mono ?_; rintro e w' ⟨rfl, rfl⟩))
          refine ⟨trivial, (callsIn_wide.2 (HS.out _)).mono ?_⟩
          rintro e w2 ⟨rfl, hb2⟩
          have hj2 := hJ _ _ _ none hj1 (grown_of_below hb2) (fun r e => by cases e)
          have hbx2 := hbx1.below hb2
          have hit2 := (hb2.block _ (Array.getElem?_eq_some_iff.1 hit1).1).trans hit1
          obtain ⟨fn, tmps, assign, body, hy, hR⟩ := hY (firstK s k) ⟨k, hlt⟩ w2 hj2 (by rw [firstK_length s k hk]; exact hlt)
          dsimp only [encS] at hy
          rw [firstK_succ s k hlt] at hR
          clear hb2 hj1 hbx1 hit1 hj2
          gi_wp2
          refine hR.mono ?_
          rintro e W3 (⟨rfl, hJ3, hk3⟩ | ⟨rfl, hJx3⟩)
          · have hit3 := hk3.iter hit2
            have hbx3 := hk3.blk hA hbx2
            gi_wp2
            go_roundw
            case rel => exact ⟨k + 1, by omega, hit3, hbx3, (Array.getElem?_eq_some_iff.1 hit3).1, hJ3⟩
            case measure => simp only [World.iterPos, hit3, Hit.out]; have := Hsz.out; omega
          · gi_wp2
            refine bodyPost_ret (results_none rfl _ _ _) rfl ?_
            exact ⟨⟨_, rfl⟩, .inr ⟨_, ⟨k + 1, by omega, rfl⟩, hJx3⟩⟩
        | false =>
          have hbd : isBad (Lib.decodeL (s.data.toList.drop (bAt s k))) = false := by rw [hd, ← hbad]; exact hb
          obtain ⟨hpre, hn3⟩ := prefix_good _ hne2 hr1' hbd
          rw [hd] at hn3
          dsimp only at hn3
          have HL : Hid (∀ w : World, Calls Tryd.prog 86 #[.int .i32 ((spA s k).r : Int)] w fun e w' => e = .returned (.int .i64 ((spA s k).n : Int)) ∧ w = w') := Lib.hid (fun w => (Tryd.utf8_RuneLen _ w).mono (by
            rintro e w' ⟨rfl, rfl⟩
            rw [hr, hn3]
            exact ⟨rfl, rfl⟩))
          have HP : Hid (∀ w : World, Calls Tryd.prog 89 #[.string (s.extract (bAt s k) s.size), .string (Utf8.encode ((spA s k).r : Int))] w fun e w' => e = .returned (.bool true) ∧ w = w') := Lib.hid (fun w => by
            rw [hr, show ((65533 : Nat) : Int) = 65533 from rfl]
            refine (Tryd.strings_HasPrefix _ _ w).mono ?_
            rintro e w' ⟨rfl, rfl⟩
            rw [hext, henc, hpre]
            exact ⟨rfl, rfl⟩)
          have HS := HR
          clear hd hbad hr hb hbd hn3 hpre hr1' henc hext HR
          unfold utfV at HS
          gi_wp2_with (first | (refine ⟨trivial, ?_⟩; gi_at_call 86; refine (callsIn_wide.2 (HL.out _)).mono ?_; rintro e w' ⟨rfl, rfl⟩) | (refine ⟨trivial, ?_⟩; gi_at_call 89; refine (callsIn_wide.2 (HP.out _)).mono ?_; rintro e w' ⟨rfl, rfl⟩))
          refine ⟨trivial, (callsIn_wide.2 (HS.out _)).mono ?_⟩
          rintro e w2 ⟨rfl, hb2⟩
          have hj2 := hJ _ _ _ none hj1 (grown_of_below hb2) (fun r e => by cases e)
          have hbx2 := hbx1.below hb2
          have hit2 := (hb2.block _ (Array.getElem?_eq_some_iff.1 hit1).1).trans hit1
          obtain ⟨fn, tmps, assign, body, hy, hR⟩ := hY (firstK s k) ⟨k, hlt⟩ w2 hj2 (by rw [firstK_length s k hk]; exact hlt)
          dsimp only [encS] at hy
          rw [firstK_succ s k hlt] at hR
          clear hb2 hj1 hbx1 hit1 hj2
          gi_wp2
          refine hR.mono ?_
          rintro e W3 (⟨rfl, hJ3, hk3⟩ | ⟨rfl, hJx3⟩)
          · have hit3 := hk3.iter hit2
            have hbx3 := hk3.blk hA hbx2
            gi_wp2
            go_roundw
            case rel => exact ⟨k + 1, by omega, hit3, hbx3, (Array.getElem?_eq_some_iff.1 hit3).1, hJ3⟩
            case measure => simp only [World.iterPos, hit3, Hit.out]; have := Hsz.out; omega
          · gi_wp2
            refine bodyPost_ret (results_none rfl _ _ _) rfl ?_
            exact ⟨⟨_, rfl⟩, .inr ⟨_, ⟨k + 1, by omega, rfl⟩, hJx3⟩⟩
      · have t1 : (((spA s k).r : Int) == 65533) = false := by rw [beq_eq_false_iff_ne]; omega
        have hrl := Lib.runeLen_decode (s.data.toList.drop (bAt s k)) (by rw [hd]; exact hr)
        rw [hd] at hrl
        dsimp only at hrl
        have HL : Hid (∀ w : World, Calls Tryd.prog 86 #[.int .i32 ((spA s k).r : Int)] w fun e w' => e = .returned (.int .i64 ((spA s k).n : Int)) ∧ w = w') := Lib.hid (fun w => (Tryd.utf8_RuneLen _ w).mono (by
          rintro e w' ⟨rfl, rfl⟩
          rw [hrl]
          exact ⟨rfl, rfl⟩))
        have HS := HR
        clear hd hbad hr hrl henc hext HR
        unfold utfV at HS
        gi_wp2_with (refine ⟨trivial, ?_⟩; gi_at_call 86; refine (callsIn_wide.2 (HL.out _)).mono ?_; rintro e w' ⟨rfl, rfl⟩)
        refine ⟨trivial, ?_⟩
        gi_wp2
        refine ⟨trivial, (callsIn_wide.2 (HS.out _)).mono ?_⟩
        rintro e w2 ⟨rfl, hb2⟩
        have hj2 := hJ _ _ _ none hj1 (grown_of_below hb2) (fun r e => by cases e)
        have hbx2 := hbx1.below hb2
        have hit2 := (hb2.block _ (Array.getElem?_eq_some_iff.1 hit1).1).trans hit1
        obtain ⟨fn, tmps, assign, body, hy, hR⟩ := hY (firstK s k) ⟨k, hlt⟩ w2 hj2 (by rw [firstK_length s k hk]; exact hlt)
        dsimp only [encS] at hy
        rw [firstK_succ s k hlt] at hR
        clear hb2 hj1 hbx1 hit1 hj2
        gi_wp2
        refine hR.mono ?_
        rintro e W3 (⟨rfl, hJ3, hk3⟩ | ⟨rfl, hJx3⟩)
        · have hit3 := hk3.iter hit2
          have hbx3 := hk3.blk hA hbx2
          gi_wp2
          go_roundw
          case rel => exact ⟨k + 1, by omega, hit3, hbx3, (Array.getElem?_eq_some_iff.1 hit3).1, hJ3⟩
          case measure => simp only [World.iterPos, hit3, Hit.out]; have := Hsz.out; omega
        · gi_wp2
          refine bodyPost_ret (results_none rfl _ _ _) rfl ?_
          exact ⟨⟨_, rfl⟩, .inr ⟨_, ⟨k + 1, by omega, rfl⟩, hJx3⟩⟩
    · obtain rfl : k = nS s := by omega
      have hnx := fun ty => Lib.run_next_end_at (P := Tryd.prog) wr W.heap.size s (bAt s (nS s)) ty hit (by rw [bAt_end]; omega)
      rw [firstK_all] at hj
      gi_wp2
      go_end0
      exact ⟨⟨_, rfl⟩, .inl ⟨_, rfl, hj⟩⟩
end Go.Proofs.YtkenffbonnbflaaDoor
