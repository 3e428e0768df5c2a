/- utf.Back: the contract of the iterator that it hands out. -/
import Derived.Test.YtkenffbonnbflaaDoorValid
import Derived.Test.YtkenffbonnbflaaDoorPli
namespace Go.Proofs.YtkenffbonnbflaaDoor
open Go.RowKit Go.Shelf
set_option linter.unusedVariables false
attribute [local go_sem] Oper.semAt_some

theorem Back_val (s : ByteArray) (w : World) : Calls Tryd.prog 66 #[.string s] w fun e w' => e = .returned (.func (.func 93) #[] #[.pointer (some ⟨w.heap.size, 0, none⟩)]) ∧ w.alloc (.cells #[.string s] 9) = w' := by
  go_enter Tryd.func66, Tryd.ntmps66
  go_wp2
  go_ret
  exact ⟨rfl, rfl⟩

/-- what comes from the end -/
abbrev encB (s : ByteArray) (i : Fin (nS s)) : Array Value := #[.int .i64 (bAt s (nS s - (i.val + 1)) : Int), .agg #[.int .i32 ((spA s (nS s - (i.val + 1))).r : Int), .int .i64 ((spA s (nS s - (i.val + 1))).n : Int), .bool (spA s (nS s - (i.val + 1))).bad]]

theorem cell_kept_K {A : Nat → Prop} {W W' : World} {g j : Nat} {v : Value} (h : Keeps A W W') (hA : ¬ A g) (hc : W.cell? ⟨g, j, none⟩ = some v) : W'.cell? ⟨g, j, none⟩ = some v := by
  have hlt := lt_of_cell hc
  obtain ⟨o, ho⟩ : ∃ o, W.heap[g]? = some o := ⟨_, Array.getElem?_eq_getElem hlt⟩
  have ho' : W'.heap[g]? = some o := by
    cases o with
    | cells cs t f => exact h.same g _ ho (.inr ⟨rfl, hA⟩)
    | _ => simp [World.cell?, ho] at hc
  rw [← hc]
  exact World.cell?_of_block (by rw [ho, ho'])
theorem tabs_kept {A : Nat → Prop} {W W' : World} (h : Keeps A W W') (h0 : ¬ A 0) (h1 : ¬ A 1) (hT : Lib.Utf8Tabs 0 1 W) : Lib.Utf8Tabs 0 1 W' :=
  ⟨fun c hc => cell_kept_K h h0 (hT.1 c hc), fun i hi => ⟨cell_kept_K h h1 (hT.2 i hi).1, cell_kept_K h h1 (hT.2 i hi).2⟩⟩

set_option maxRecDepth 100000 in
set_option maxHeartbeats 4000000 in
theorem back_stops (s : ByteArray) (Bn : Nat) (A : Nat → Prop) (hA : ¬ A Bn) (hA0 : ¬ A 0) (hA1 : ¬ A 1) (w : World) (hbox : Blk w Bn 9 #[.string s]) (hT : Lib.Utf8Tabs 0 1 w) (hs : s.size ≤ 9223372036854775807) (n : Nat) (hn : 1 ≤ n) :
    SeqStopsK Fence.wide n Tryd.prog 93 #[.pointer (some ⟨Bn, 0, none⟩)] (encB s) (Keeps A) (fun xs => xs = List.finRange (nS s)) (fun pre => ∃ k, k ≤ nS s ∧ pre = firstK s k) (nS s) w := fun l J Jx W hW hJ hJx hY h0 => by
  have hboxW := hbox.below hW
  have hTW := Utf8Tabs_below hT hW
  have c0 := hboxW.cell 0
  simp only [List.getElem?_toArray, List.getElem?_cons_zero] at c0
  refine callsIn_of_wp Tryd.func93 rfl trivial ?_ rfl
  simp only [Tryd.ntmps93, List.size_toArray, List.length_cons, List.length_nil, Nat.reduceAdd, Nat.reduceSub, Array.replicate_succ, Array.replicate_zero, List.push_toArray, List.append_toArray, List.nil_append, List.cons_append]
  gi_wp2
  gi_loopw [3] (fun e wr => ∃ k : Nat, k ≤ nS s ∧ e = .int .i64 (bAt s (nS s - k) : Int) ∧ Blk wr Bn 9 #[.string s] ∧ Hid (Lib.Utf8Tabs 0 1 wr) ∧ W.heap.size ≤ wr.heap.size ∧ J (firstK s k) wr) (fun e _ => (intOf e).toNat)
  case atStart =>
    exact ⟨0, Nat.zero_le _, by rw [Nat.sub_zero, bAt_end], hboxW, Lib.hid hTW, Nat.le_refl _, h0⟩
  case round =>
    obtain ⟨k, hk, rfl, hbx, HTr, hsz, hj⟩ := hrel
    by_cases hlt : k < nS s
    · obtain ⟨m, hm⟩ : ∃ m, nS s - (k + 1) = m := ⟨_, rfl⟩
      have hm1 : nS s - k = m + 1 := by omega
      have hmn : m < nS s := by omega
      obtain ⟨hd, hp, hnx1, hlt2, hbad⟩ := spA_dec s m hmn
      obtain ⟨hr1, hr2, hr3⟩ := spA_range s m hmn
      have hbd := back_dec s m hmn
      have hle := bAt_le s (m + 1)
      have hlm := bAt_lt s m (m + 1) (by omega) (by omega)
      have HD := Lib.hid (Tryd.utf8_DecodeLastRuneInString (s.extract 0 (bAt s (m + 1))) wr (by rw [ByteArray.size_extract]; omega) HTr.out)
      rw [hbd] at HD
      have HR := Lib.hid (fun w => utfSpot (spA s m).r (spA s m).n w hr1 hr3)
      rw [← hbad] at HR
      unfold utfV at HR
      have cb := hbx.cell 0
      simp only [List.getElem?_toArray, List.getElem?_cons_zero] at cb
      have i0 : (0 : Int) < (bAt s (m + 1) : Int) := by omega
      have i1 : (bAt s (m + 1) : Int) ≤ (s.size : Int) := by omega
      have i2 : ((bAt s (m + 1) : Int)) - ((spA s m).n : Int) = (bAt s m : Int) := by omega
      rw [hm1]
      clear hd hp hbad hbd
      gi_wp2_with (refine ⟨trivial, ?_⟩; gi_at_call 83; refine (callsIn_wide.2 HD.out).mono ?_; rintro e w2 ⟨rfl, hb2⟩)
      refine ⟨trivial, (callsIn_wide.2 (HR.out _)).mono ?_⟩
      rintro e w3 ⟨rfl, hb3⟩
      have hb23 : Below wr.heap.size wr w3 := hb2.trans (hb3.mono hb2.size)
      have hj3 := hJ _ _ _ none hj (grown_of_below hb23) (fun r e => by cases e)
      have hj4 := hJ _ _ _ none hj3 (World.grownBy_alloc w3 (.cells #[.int .i32 ((spA s m).r : Int), .int .i64 ((spA s m).n : Int), .bool (spA s m).bad] 25) none) (fun r e => by cases e)
      have hb4 : Below wr.heap.size wr (w3.alloc (.cells #[.int .i32 ((spA s m).r : Int), .int .i64 ((spA s m).n : Int), .bool (spA s m).bad] 25)) := hb23.alloc hb23.size _
      have hbx4 := hbx.below hb4
      have HT4 := Lib.hid (Utf8Tabs_below HTr.out hb4)
      have hsz4 : W.heap.size ≤ (w3.alloc (.cells #[.int .i32 ((spA s m).r : Int), .int .i64 ((spA s m).n : Int), .bool (spA s m).bad] 25)).heap.size := Nat.le_trans hsz hb4.size
      have x1 := (Blk.new w3 25 #[.int .i32 ((spA s m).r : Int), .int .i64 ((spA s m).n : Int), .bool (spA s m).bad]).cell 1
      obtain ⟨fn, tmps, assign, body, hy, hR⟩ := hY (firstK s k) ⟨k, hlt⟩ _ hj4 (by rw [firstK_length s k hk]; exact hlt)
      dsimp only [encB] at hy
      simp only [hm] at hy
      rw [firstK_succ s k hlt] at hR
      have Hm2 := Lib.hid (show bAt s m < bAt s (m + 1) from hlm)
      clear hb2 hb3 hb23 hb4 hj hj3 hj4 hbx HD HR HTr hsz hm1 hlm
      gi_wp2
      refine hR.mono ?_
      rintro e W3 (⟨rfl, hJ3, hk3⟩ | ⟨rfl, hJx3⟩)
      · have hbx3 := hk3.blk hA hbx4
        have HT3 := Lib.hid (tabs_kept hk3 hA0 hA1 HT4.out)
        have hsz3 := Nat.le_trans hsz4 hk3.size
        gi_wp2
        go_roundw
        case rel => exact ⟨k + 1, by omega, by rw [hm], hbx3, HT3, hsz3, hJ3⟩
        case measure => have := Hm2.out; simp [intOf]; omega
      · gi_wp2
        refine bodyPost_ret (results_none rfl _ _ _) rfl ?_
        exact ⟨⟨_, rfl⟩, .inr ⟨_, ⟨k + 1, by omega, rfl⟩, hJx3⟩⟩
    · obtain rfl : k = nS s := by omega
      rw [Nat.sub_self, bAt_nil]
      rw [firstK_all] at hj
      gi_wp2
      go_end0
      exact ⟨⟨_, rfl⟩, .inl ⟨_, rfl, hj⟩⟩
end Go.Proofs.YtkenffbonnbflaaDoor
