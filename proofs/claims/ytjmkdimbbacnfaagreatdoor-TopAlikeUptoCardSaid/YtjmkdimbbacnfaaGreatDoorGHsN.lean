/- The law of a range over a function, where no row of cells turns but what the body turns. (Began from XRng, of which it is a twin.) script.Stop where the text is of one script. boot: Right, basic, begin, threshold, adapt. -/
import Derived.Test.YtjmkdimbbacnfaaGreatDoorGHsL
import Derived.RangeFuncFrom
import Derived.RangeFuncCalls
import Derived.RangeFuncBound
import Derived.RangeFuncLeaves
import Derived.RangeFuncNested
import Derived.LoopNIn
import Derived.LoopIn
import Derived.Shelf.Abstract
import Derived.Shelf.RegionOpen
import Derived.OwnWalkIn
import Derived.TacticsInMore
import Derived.BigRegion
import Derived.BigQuiet
namespace Go.Proofs.YtjmkdimbbacnfaaGreatDoor
section
open Go.RowKit Go.Shelf
set_option linter.unusedVariables false
attribute [local go_sem] Oper.semAt_some
/-- nothing below block B turns, and no row of cells -/
structure Still (B : Nat) (X Y : World) : Prop where
  below : Below B X Y
  rows : ∀ (k : Nat) c (fz : TypeId × (Nat × Nat)), X.heap[k]? = some (.cells c fz.1 fz.2) → Y.heap[k]? = some (.cells c fz.1 fz.2)
section
variable {B B' : Nat} {X Y Z : World}
theorem Still.mono (h : Still B X Y) (hB : B' ≤ B) : Still B' X Y := ⟨h.below.mono hB, h.rows⟩
theorem Still.new (h : Below X.heap.size X Y) (hB : B ≤ X.heap.size) : Still B X Y := ⟨h.mono hB, fun k c fz hk => (h.block k (Array.getElem?_eq_some_iff.1 hk).1).trans hk⟩
theorem Still.alloc (X : World) (o : Obj) (hB : B ≤ X.heap.size) : Still B X (X.alloc o) := Still.new ((Below.refl _ X).alloc (Nat.le_refl _) o) hB
theorem Still.putObj {l : Nat} {o o' : Obj} (hB : B ≤ l) (hl : X.heap[l]? = some o) (hn : ∀ c (fz : TypeId × (Nat × Nat)), o ≠ .cells c fz.1 fz.2) : Still B X (X.putObj l o') :=
  ⟨⟨rfl, rfl, rfl, (grownBy_putObj' X l o').size, fun k hk => World.putObj_heap_other (by omega)⟩, fun k c fz hk => (World.putObj_heap_other (fun e => by subst e; rw [hl] at hk; cases hk; exact hn _ _ rfl)).trans hk⟩
theorem Still.iterAt {g p q : Nat} {s : ByteArray} (hB : B ≤ g) (h : X.heap[g]? = some (.stringIter s p)) : Still B X (X.iterAt g s q) :=
  ⟨Lib.below_iterAt (Below.refl B X) hB s q, fun k c fz hk => (Lib.iterAt_other _ _ _ _ _ (fun e => by subst e; rw [h] at hk; cases hk)).trans hk⟩
end
def AllStill {β : Type} (B : Nat) (I : β → World → Prop) : Prop := ∀ s X Y, I s X → Still B X Y → I s Y
section
variable {F : Fence} {n : Nat} {P : Program} {w : World}
/-- an iterator's contract, for every loop body whose word speaks of what lay ahead of the loop alone -/
def SeqStopsT {α : Type} (F : Fence) (n : Nat) (P : Program) (g : Nat) (lb : Array Value) (encs : α → Array Value) (z : Nat) (A : Nat → Prop) (M : α → World → Prop) (S Sp : List α → Prop) (N : Nat) (w₀ : World) : Prop :=
  ∀ (l : Nat) (J Jx : List α → World → Prop) (W : World), Below w₀.heap.size w₀ W → w₀.heap.size ≤ l → l < W.heap.size → (∃ r, W.heap[l]? = some (.loop r)) → AllStill W.heap.size J → AllStill W.heap.size Jx →
    (∀ pre x X, J pre X → M x X → Sp (pre ++ [x]) → pre.length < N → YieldAt F (n - 1) P l (encs x) X fun e Y => Only z (fun k => A k ∨ k = l) X Y ∧ ((e = .returned (.bool true) ∧ J (pre ++ [x]) Y) ∨ (e = .returned (.bool false) ∧ Jx (pre ++ [x]) Y))) → J [] W →
    CallsIn F n P g (#[.func (.yield l) #[] #[]] ++ lb) W fun e Y => (∃ v, e = .returned v) ∧ ((∃ ys, S ys ∧ J ys Y) ∨ (∃ pre, Sp pre ∧ Jx pre Y))

theorem wpIn_rangeFunc_ownT {α : Type} {g : Operand} {ps : Array Tmp} {assign body : Code} {Q : Exit → Act → World → Prop} {a : Act}
    (hro : F.round = none) (h1 : 1 ≤ n) {gf : Nat} {lb : Array Value} (hg : a.eval g = .func (.func gf) #[] lb) (hFg : F.fn gf) (eg : ∀ args w, (callFunc gf args).run P w = .ok (.enter gf args) w)
    {encs : α → Array Value} {z : Nat} {A : Nat → Prop} {M : α → World → Prop} {S Sp : List α → Prop} {N : Nat} {w0 : World} (hz0 : z ≤ w.heap.size) (hA : ∀ k, A k → k < w.heap.size) (hseq : SeqStopsT F (n - 1) P gf lb encs z A M S Sp N w0)
    (hb0 : Below w0.heap.size w0 w) (hps : ∀ x, (encs x).size = ps.size)
    (I : List α → World → Prop) (Ix : Code → List α → World → Prop) (hI : AllStill w.heap.size I) (hIx : ∀ c, AllStill w.heap.size (Ix c)) (h0 : I [] w) (Ax : α → Act → World → Prop) (hAx : ∀ x a', OwnFrom w.heap.size (fun (_ : Unit) W => Ax x a' W))
    (hassign : ∀ (l : Nat) (pre : List α) (x : α) (W : World) (K : Act → World → Prop), I pre W → M x W → w.heap.size < W.heap.size → (∀ a' W', Only z A W W' → I pre W' → Ax x a' W' → K a' W') →
      assign.wpIn (F.inRound l) (n - 1 - 1) P (Exit.then K (fun _ _ _ => False)) { tmps := (ps.zip (encs x)).foldl (fun t (p, v) => t.setIfInBounds p v) a.tmps, defers := [] } W)
    (hbody : ∀ (l : Nat) (pre : List α) (x : α) (a' : Act) (W : World), w.heap.size ≤ l → (∃ r, W.heap[l]? = some (.loop r)) → I pre W → Ax x a' W → Sp (pre ++ [x]) → pre.length < N → body.wpIn (F.inRound l) (n - 1 - 1) P (onlyPost z A I Ix (pre ++ [x]) W) a' W)
    (hdone : ∀ (D : Nat) (xs : List α) (W : World), w.heap.size ≤ D → S xs → I xs W → W.heap[D]? = some (.deferred (some [])) → Q .normal { a with defers := { target := .collected D, args := #[] } :: a.defers } W)
    (hstop : ∀ (D : Nat) (c : Code) (pre : List α) (W : World), w.heap.size ≤ D → Sp pre → Ix c pre W → W.heap[D]? = some (.deferred (some [])) → c.wpIn F n P Q { a with defers := { target := .collected D, args := #[] } :: a.defers } W) :
    (Code.rangeFunc g ps assign body).wpIn F n P Q a w := by
  refine wpIn_rangeFunc ?_
  intro fn hfn
  rw [hro]
  obtain ⟨rec, hrec⟩ : ∃ rec : LoopState → Option Code → Loop, rec = fun st pe => { state := st, pending := pe, fn, tmps := a.tmps, params := ps, assign, body, defers := w.heap.size } := ⟨_, rfl⟩
  obtain ⟨W1, hW1⟩ : ∃ W1, (w.alloc (.deferred (some []))).alloc (.loop (rec .ready none)) = W1 := ⟨_, rfl⟩
  have hL1 : W1.heap[w.heap.size + 1]? = some (.loop (rec .ready none)) := by
    rw [← hW1]; have := World.alloc_heap_new (w.alloc (.deferred (some []))) (.loop (rec .ready none)); rwa [World.size_alloc] at this
  have hK1 : W1.heap[w.heap.size]? = some (.deferred (some [])) := by
    rw [← hW1]; exact (Below.heap_alloc _ _ _ (by simp)).trans (World.alloc_heap_new w _)
  have hww : Below w.heap.size w W1 := by
    rw [← hW1]; exact ((Below.refl _ w).alloc (Nat.le_refl _) _).alloc (by simp) _
  have hI1 : I [] W1 := hI _ _ _ h0 (Still.new hww (Nat.le_refl _))
  have hb1 : Below w0.heap.size w0 W1 := hb0.trans (hww.mono hb0.size)
  have hz1 : w.heap.size + 1 < W1.heap.size := (Array.getElem?_eq_some_iff.1 hL1).1
  have hnl : ¬ A (w.heap.size + 1) := fun h => by have := hA _ h; omega
  have hnd : ¬ A w.heap.size := fun h => by have := hA _ h; omega
  refine ⟨w.heap.size + 1, [{ target := .collected w.heap.size, args := #[] }], W1, { target := .fn (.func gf) lb, args := #[.func (.yield (w.heap.size + 1)) #[] #[]] }, W1, gf,
    #[.func (.yield (w.heap.size + 1)) #[] #[]] ++ lb, W1, ?_, ?_, ?_, ?_, fun _ => h1, ?_⟩
  · rw [← hW1, hrec]; exact run_enterLoop_outer _ _ _ _ _
  · simp only [resolve, hg]
    simp [go_sem]
  · intro f' hf'; simp [Target.leads] at hf'; subst hf'; exact hFg
  · simp [invoke, go_sem, eg]
  · refine (hseq (w.heap.size + 1)
      (fun pre W => I pre W ∧ W.heap[w.heap.size + 1]? = some (.loop (rec .ready none)) ∧ W.heap[w.heap.size]? = some (.deferred (some [])))
      (fun pre W => ∃ c, Ix c pre W ∧ W.heap[w.heap.size + 1]? = some (.loop (rec .done (some c))) ∧ W.heap[w.heap.size]? = some (.deferred (some [])))
      W1 hb1 (by have := hb0.size; omega) hz1 ⟨_, hL1⟩
      (fun s X Y hs hb => ⟨hI s X Y hs.1 (hb.mono hww.size), (hb.below.block _ hz1).trans hs.2.1, (hb.below.block _ (by omega)).trans hs.2.2⟩)
      (fun s X Y hs hb => by
        obtain ⟨c, hc, hl, hk⟩ := hs
        exact ⟨c, hIx c s X Y hc (hb.mono hww.size), (hb.below.block _ hz1).trans hl, (hb.below.block _ (by omega)).trans hk⟩)
      ?_ ⟨hI1, hL1, hK1⟩).mono ?_
    · -- ONE ROUND
      rintro pre x W ⟨hi, hl, hk⟩ hm hsp hlen
      have hlt : w.heap.size + 1 < W.heap.size := (Array.getElem?_eq_some_iff.1 hl).1
      have hy := run_yield (P := P) (args := encs x) hl (by rw [hrec]; exact hps x)
      rw [hrec] at hy
      refine ⟨fn, _, assign, body, hy, roundIn_of_wpIn hfn (hassign _ pre x W _ hi hm (by omega) ?_)⟩
      clear hy
      intro a' Wa hoa hia hax
      replace hl := hoa.same _ _ hl hnl (fun _ _ e => by cases e)
      replace hk := hoa.same _ _ hk hnd (fun _ _ e => by cases e)
      have hlta : w.heap.size + 1 < Wa.heap.size := (Array.getElem?_eq_some_iff.1 hl).1
      refine ⟨_, run_beginRound hl (by rw [hrec]), ?_⟩
      have hl2 : (Wa.putObj (w.heap.size + 1) (.loop { rec .ready none with state := .busy })).heap[w.heap.size + 1]? = some (.loop { rec .ready none with state := .busy }) := World.putObj_heap_same hlta
      have hk2 : (Wa.putObj (w.heap.size + 1) (.loop { rec .ready none with state := .busy })).heap[w.heap.size]? = some (.deferred (some [])) := (World.putObj_heap_other (by omega)).trans hk
      have hz2 := (grownBy_putObj' Wa (w.heap.size + 1) (.loop { rec .ready none with state := .busy })).size
      have ho2 : Only z (fun k => A k ∨ k = w.heap.size + 1) W (Wa.putObj (w.heap.size + 1) (.loop { rec .ready none with state := .busy })) := (hoa.mono (fun k h => .inl h)).trans (Only.putObj _ (by omega) (.inr rfl))
      refine wpIn_mono (hbody _ pre x a' _ (by omega) ⟨_, hl2⟩ (hI _ _ _ hia (Still.putObj (by omega) hl (fun _ _ e => by cases e))) ((hAx x a').putObj (s := ()) _ hax (by omega) hl rfl) hsp hlen) ?_
      have fin : ∀ (jump : Option Code) (W3 : World), Only z A (Wa.putObj (w.heap.size + 1) (.loop { rec .ready none with state := .busy })) W3 →
          (Instr.endRound (w.heap.size + 1) jump).run P W3 = .ok (.bool jump.isNone) (W3.putObj (w.heap.size + 1) (.loop (rec (if jump.isNone then .ready else .done) jump))) ∧
          (W3.putObj (w.heap.size + 1) (.loop (rec (if jump.isNone then .ready else .done) jump))).heap[w.heap.size + 1]? = some (.loop (rec (if jump.isNone then .ready else .done) jump)) ∧
          (W3.putObj (w.heap.size + 1) (.loop (rec (if jump.isNone then .ready else .done) jump))).heap[w.heap.size]? = some (.deferred (some [])) ∧
          Only z (fun k => A k ∨ k = w.heap.size + 1) W (W3.putObj (w.heap.size + 1) (.loop (rec (if jump.isNone then .ready else .done) jump))) := fun jump W3 hk3 => by
        have hl3 := hk3.same _ _ hl2 hnl (fun _ _ e => by cases e)
        have hd3 := hk3.same _ _ hk2 hnd (fun _ _ e => by cases e)
        have := run_endRound (P := P) jump hl3
        have ho4 : Only z (fun k => A k ∨ k = w.heap.size + 1) W (W3.putObj (w.heap.size + 1) (.loop (rec (if jump.isNone then .ready else .done) jump))) := (ho2.trans (hk3.mono (fun k h => .inl h))).trans (Only.putObj _ (by omega) (.inr rfl))
        rw [hrec] at this ho4 ⊢
        exact ⟨this, World.putObj_heap_same (Array.getElem?_eq_some_iff.1 hl3).1, (World.putObj_heap_other (by omega)).trans hd3, ho4⟩
      rintro e a3 W3 hp
      cases e with
      | normal =>
        obtain ⟨hk3, hi3⟩ := hp
        obtain ⟨hr, hl4, hk4, ho4⟩ := fin none W3 hk3
        exact ⟨_, _, hr, ho4, .inl ⟨rfl, hI _ _ _ hi3 (Still.putObj (by omega) (hk3.same _ _ hl2 hnl (fun _ _ e => by cases e)) (fun _ _ e => by cases e)), hl4, hk4⟩⟩
      | ret =>
        obtain ⟨hk3, hi3⟩ := hp
        obtain ⟨hr, hl4, hk4, ho4⟩ := fin (some .ret) W3 hk3
        exact ⟨_, _, hr, ho4, .inr ⟨rfl, .ret, hIx _ _ _ _ hi3 (Still.putObj (by omega) (hk3.same _ _ hl2 hnl (fun _ _ e => by cases e)) (fun _ _ e => by cases e)), hl4, hk4⟩⟩
      | exit id =>
        obtain ⟨hk3, hi3⟩ := hp
        obtain ⟨hr, hl4, hk4, ho4⟩ := fin (some (.exit id)) W3 hk3
        exact ⟨_, _, hr, ho4, .inr ⟨rfl, .exit id, hIx _ _ _ _ hi3 (Still.putObj (by omega) (hk3.same _ _ hl2 hnl (fun _ _ e => by cases e)) (fun _ _ e => by cases e)), hl4, hk4⟩⟩
      | goto t =>
        obtain ⟨hk3, hi3⟩ := hp
        obtain ⟨hr, hl4, hk4, ho4⟩ := fin (some (.goto t)) W3 hk3
        exact ⟨_, _, hr, ho4, .inr ⟨rfl, .goto t, hIx _ _ _ _ hi3 (Still.putObj (by omega) (hk3.same _ _ hl2 hnl (fun _ _ e => by cases e)) (fun _ _ e => by cases e)), hl4, hk4⟩⟩
      | panic ch => exact hp.elim
      | outgrown => exact hp.elim
    · -- BEHIND THE ITERATOR
      rintro e W2 ⟨⟨v, rfl⟩, (⟨xs, hS, hi, hl, hk⟩ | ⟨pre, hSp, c, hi, hl, hk⟩)⟩
      · exact ⟨none, _, by have := run_endLoop (P := P) hl (by rw [hrec]; simp); rw [hrec] at this; exact this, hdone _ xs _ (Nat.le_refl _) hS (hI _ _ _ hi (Still.putObj (by omega) hl (fun _ _ e => by cases e))) ((World.putObj_heap_other (by omega)).trans hk)⟩
      · exact ⟨some c, _, by have := run_endLoop (P := P) hl (by rw [hrec]; simp); rw [hrec] at this; exact this, hstop _ c pre _ (Nat.le_refl _) hSp (hIx c _ _ _ hi (Still.putObj (by omega) hl (fun _ _ e => by cases e))) ((World.putObj_heap_other (by omega)).trans hk)⟩

end
set_option maxRecDepth 100000 in
set_option maxHeartbeats 4000000 in
theorem spots_T (s : ByteArray) (z Bn : Nat) (A : Nat → Prop) (hA : ¬ A Bn) (w : World) (hAw : ∀ k, A k → k < w.heap.size) (hbox : Blk w Bn 9 #[.string s]) (n : Nat) (hn : 1 ≤ n) :
    SeqStopsT Fence.wide n Tryz.prog 147 #[.pointer (some ⟨Bn, 0, none⟩)] (encS s) z A (fun _ _ => True) (fun xs => xs = List.finRange (nS s)) (fun pre => ∃ k, k ≤ nS s ∧ pre = firstK s k) (nS s) w := fun l J Jx W hW hl0 hl1 hlr hJ hJx hY h0 => by
  have hwW := hW.size
  have hAl : ∀ k, W.heap.size ≤ k → ¬ (A k ∨ k = l) := fun k hk h => by
    rcases h with h | rfl
    · have := hAw k h; omega
    · omega
  have hBl : ¬ (A Bn ∨ Bn = l) := fun h => by
    rcases h with h | rfl
    · exact hA h
    · have := hbox.lt; omega
  have hboxW := hbox.below hW
  have c0 := hboxW.cell 0
  simp only [List.getElem?_toArray, List.getElem?_cons_zero] at c0
  refine callsIn_of_wp Tryz.func147 rfl trivial ?_ rfl
  simp only [Tryz.ntmps147, List.size_toArray, List.length_cons, List.length_nil, Nat.reduceAdd, Nat.reduceSub, Array.replicate_succ, Array.replicate_zero, List.push_toArray, List.append_toArray, List.nil_append, List.cons_append]
  gi_wp2
  gi_loopw [3] (fun _ wr => ∃ k : Nat, k ≤ nS s ∧ wr.heap[W.heap.size]? = some (.stringIter s (bAt s k)) ∧ Blk wr Bn 9 #[.string s] ∧ W.heap.size < wr.heap.size ∧ J (firstK s k) wr) (fun _ wr => s.size - wr.iterPos W.heap.size)
  case atStart =>
    refine ⟨0, Nat.zero_le _, by rw [bAt_nil]; exact World.iter_heap W s 0, hboxW.alloc _, (Array.getElem?_eq_some_iff.1 (World.iter_heap W s 0)).1, hJ [] W _ h0 (Still.alloc _ _ (Nat.le_refl _))⟩
  case round =>
    obtain ⟨k, hk, hit, hbx, hsz, hj⟩ := hrel
    by_cases hlt : k < nS s
    · obtain ⟨hd, hp, hnx1, hlt2, hbad⟩ := spA_dec s k hlt
      obtain ⟨hr1, hr2, hr3⟩ := spA_range s k hlt
      have hdec : Utf8.decode s (bAt s k) = ((spA s k).r, (spA s k).n) := by rw [← Lib.decodeL_drop]; exact hd
      have hnx := fun ty => Lib.run_next_any_at (P := Tryz.prog) wr W.heap.size s (bAt s k) ty hit hlt2
      simp only [hdec, hnx1] at hnx
      obtain ⟨w1, hw1⟩ : ∃ w1, wr.iterAt W.heap.size s (bAt s (k + 1)) = w1 := ⟨_, rfl⟩
      simp only [hw1] at hnx
      have hne : Bn ≠ W.heap.size := by have := hboxW.lt; omega
      have hbx1 : Blk w1 Bn 9 #[.string s] := by rw [← hw1]; exact hbx.of (Lib.iterAt_other _ _ _ _ _ hne)
      have hit1 : w1.heap[W.heap.size]? = some (.stringIter s (bAt s (k + 1))) := by rw [← hw1]; exact Lib.iterAt_heap _ _ _ _ _ hit
      have hj1 : J (firstK s k) w1 := by rw [← hw1]; exact hJ _ _ _ hj (Still.iterAt (Nat.le_refl _) hit)
      have Hit := Lib.hid hit
      have Hsz : Hid (bAt s k < bAt s (k + 1) ∧ bAt s (k + 1) ≤ s.size) := Lib.hid ⟨bAt_lt s k (k + 1) (by omega) (by omega), bAt_le s (k + 1)⟩
      have c1 := hbx1.cell 0
      simp only [List.getElem?_toArray, List.getElem?_cons_zero] at c1
      have hne2 : s.data.toList.drop (bAt s k) ≠ [] := drop_ne s _ hlt2
      have hext : (s.extract (bAt s k) s.size).data.toList = s.data.toList.drop (bAt s k) := by rw [ext_list, List.take_of_length_le (by rw [List.length_drop, toList_len]; omega)]
      have henc : (Utf8.encode 65533).data.toList = [239, 191, 189] := by decide
      have i1 : (bAt s k : Int) ≤ (s.size : Int) := by omega
      have HR := Lib.hid (fun w => utfSpot (spA s k).r (spA s k).n w hr1 hr3)
      rw [← hbad] at HR
      clear hdec hw1 hbx hit hsz hj hnx1 hp
      by_cases hr : (spA s k).r = 65533
      · have t1 : (((spA s k).r : Int) == 65533) = true := by rw [beq_iff_eq]; omega
        have hr1' : (Lib.decodeL (s.data.toList.drop (bAt s k))).1 = 65533 := by rw [hd]; exact hr
        cases hb : (spA s k).bad with
        | true =>
          have hbd : isBad (Lib.decodeL (s.data.toList.drop (bAt s k))) = true := by rw [hd, ← hbad]; exact hb
          have hn1 : (spA s k).n = 1 := by
            rw [hd] at hbd
            unfold isBad at hbd
            simp only [Bool.and_eq_true, beq_iff_eq] at hbd
            exact hbd.2
          have hpre := prefix_bad _ hbd
          have HL : Hid (∀ w : World, Calls Tryz.prog 148 #[.int .i32 ((spA s k).r : Int)] w fun e w' => e = .returned (.int .i64 3) ∧ w = w') := Lib.hid (fun w => (Tryz.utf8_RuneLen _ w).mono (by
            rintro e w' ⟨rfl, rfl⟩
            rw [hr]
            exact ⟨rfl, rfl⟩))
          have HP : Hid (∀ w : World, Calls Tryz.prog 149 #[.string (s.extract (bAt s k) s.size), .string (Utf8.encode ((spA s k).r : Int))] w fun e w' => e = .returned (.bool false) ∧ w = w') := Lib.hid (fun w => by
            rw [hr, show ((65533 : Nat) : Int) = 65533 from rfl]
            refine (Tryz.strings_HasPrefix _ _ w).mono ?_
            rintro e w' ⟨rfl, rfl⟩
            rw [hext, henc, hpre]
            exact ⟨rfl, rfl⟩)
          have HS : Hid (∀ w : World, Calls Tryz.prog 150 #[.int .i32 ((spA s k).r : Int), .int .i64 1] w fun e w' => e = .returned (.agg #[.int .i32 ((spA s k).r : Int), .int .i64 ((spA s k).n : Int), .bool (spA s k).bad]) ∧ Below w.heap.size w w') := Lib.hid (fun w => by
            have h := HR.out w
            rw [hn1] at h ⊢
            exact h)
          clear hd hbad hr hb hbd hn1 hpre hr1' henc hext HR
          gi_wp2_with (first | (refine ⟨trivial, ?_⟩; gi_at_call 148; refine (callsIn_wide.2 (HL.out _)).mono ?_; rintro e w' ⟨rfl, rfl⟩) | (refine ⟨trivial, ?_⟩; gi_at_call 149; refine (callsIn_wide.2 (HP.out _)).mono ?_; rintro e w' ⟨rfl, rfl⟩))
          refine ⟨trivial, (callsIn_wide.2 (HS.out _)).mono ?_⟩
          rintro e w2 ⟨rfl, hb2⟩
          have hj2 := hJ _ _ _ hj1 (Still.new hb2 (by have := (Array.getElem?_eq_some_iff.1 hit1).1; omega))
          have hbx2 := hbx1.below hb2
          have hit2 := (hb2.block _ (Array.getElem?_eq_some_iff.1 hit1).1).trans hit1
          obtain ⟨fn, tmps, assign, body, hy, hR⟩ := hY (firstK s k) ⟨k, hlt⟩ w2 hj2 trivial ⟨k + 1, hlt, firstK_succ s k hlt⟩ (by rw [firstK_length s k hk]; exact hlt)
          dsimp only [encS] at hy
          rw [firstK_succ s k hlt] at hR
          clear hb2 hj1 hbx1 hit1 hj2
          gi_wp2
          refine hR.mono ?_
          rintro e W3 ⟨hk3, (⟨rfl, hJ3⟩ | ⟨rfl, hJx3⟩)⟩
          · have hit3 := hk3.same _ _ hit2 (hAl _ (Nat.le_refl _)) (fun _ _ e => by cases e)
            have hbx3 := hk3.blk hBl (by decide) hbx2
            gi_wp2
            go_roundw
            case rel => exact ⟨k + 1, by omega, hit3, hbx3, (Array.getElem?_eq_some_iff.1 hit3).1, hJ3⟩
            case measure => simp only [World.iterPos, hit3, Hit.out]; have := Hsz.out; omega
          · gi_wp2
            refine bodyPost_ret (results_none rfl _ _ _) rfl ?_
            exact ⟨⟨_, rfl⟩, .inr ⟨_, ⟨k + 1, by omega, rfl⟩, hJx3⟩⟩
        | false =>
          have hbd : isBad (Lib.decodeL (s.data.toList.drop (bAt s k))) = false := by rw [hd, ← hbad]; exact hb
          obtain ⟨hpre, hn3⟩ := prefix_good _ hne2 hr1' hbd
          rw [hd] at hn3
          dsimp only at hn3
          have HL : Hid (∀ w : World, Calls Tryz.prog 148 #[.int .i32 ((spA s k).r : Int)] w fun e w' => e = .returned (.int .i64 ((spA s k).n : Int)) ∧ w = w') := Lib.hid (fun w => (Tryz.utf8_RuneLen _ w).mono (by
            rintro e w' ⟨rfl, rfl⟩
            rw [hr, hn3]
            exact ⟨rfl, rfl⟩))
          have HP : Hid (∀ w : World, Calls Tryz.prog 149 #[.string (s.extract (bAt s k) s.size), .string (Utf8.encode ((spA s k).r : Int))] w fun e w' => e = .returned (.bool true) ∧ w = w') := Lib.hid (fun w => by
            rw [hr, show ((65533 : Nat) : Int) = 65533 from rfl]
            refine (Tryz.strings_HasPrefix _ _ w).mono ?_
            rintro e w' ⟨rfl, rfl⟩
            rw [hext, henc, hpre]
            exact ⟨rfl, rfl⟩)
          have HS := HR
          clear hd hbad hr hb hbd hn3 hpre hr1' henc hext HR
          unfold utfV at HS
          gi_wp2_with (first | (refine ⟨trivial, ?_⟩; gi_at_call 148; refine (callsIn_wide.2 (HL.out _)).mono ?_; rintro e w' ⟨rfl, rfl⟩) | (refine ⟨trivial, ?_⟩; gi_at_call 149; refine (callsIn_wide.2 (HP.out _)).mono ?_; rintro e w' ⟨rfl, rfl⟩))
          refine ⟨trivial, (callsIn_wide.2 (HS.out _)).mono ?_⟩
          rintro e w2 ⟨rfl, hb2⟩
          have hj2 := hJ _ _ _ hj1 (Still.new hb2 (by have := (Array.getElem?_eq_some_iff.1 hit1).1; omega))
          have hbx2 := hbx1.below hb2
          have hit2 := (hb2.block _ (Array.getElem?_eq_some_iff.1 hit1).1).trans hit1
          obtain ⟨fn, tmps, assign, body, hy, hR⟩ := hY (firstK s k) ⟨k, hlt⟩ w2 hj2 trivial ⟨k + 1, hlt, firstK_succ s k hlt⟩ (by rw [firstK_length s k hk]; exact hlt)
          dsimp only [encS] at hy
          rw [firstK_succ s k hlt] at hR
          clear hb2 hj1 hbx1 hit1 hj2
          gi_wp2
          refine hR.mono ?_
          rintro e W3 ⟨hk3, (⟨rfl, hJ3⟩ | ⟨rfl, hJx3⟩)⟩
          · have hit3 := hk3.same _ _ hit2 (hAl _ (Nat.le_refl _)) (fun _ _ e => by cases e)
            have hbx3 := hk3.blk hBl (by decide) hbx2
            gi_wp2
            go_roundw
            case rel => exact ⟨k + 1, by omega, hit3, hbx3, (Array.getElem?_eq_some_iff.1 hit3).1, hJ3⟩
            case measure => simp only [World.iterPos, hit3, Hit.out]; have := Hsz.out; omega
          · gi_wp2
            refine bodyPost_ret (results_none rfl _ _ _) rfl ?_
            exact ⟨⟨_, rfl⟩, .inr ⟨_, ⟨k + 1, by omega, rfl⟩, hJx3⟩⟩
      · have t1 : (((spA s k).r : Int) == 65533) = false := by rw [beq_eq_false_iff_ne]; omega
        have hrl := Lib.runeLen_decode (s.data.toList.drop (bAt s k)) (by rw [hd]; exact hr)
        rw [hd] at hrl
        dsimp only at hrl
        have HL : Hid (∀ w : World, Calls Tryz.prog 148 #[.int .i32 ((spA s k).r : Int)] w fun e w' => e = .returned (.int .i64 ((spA s k).n : Int)) ∧ w = w') := Lib.hid (fun w => (Tryz.utf8_RuneLen _ w).mono (by
          rintro e w' ⟨rfl, rfl⟩
          rw [hrl]
          exact ⟨rfl, rfl⟩))
        have HS := HR
        clear hd hbad hr hrl henc hext HR
        unfold utfV at HS
        gi_wp2_with (refine ⟨trivial, ?_⟩; gi_at_call 148; refine (callsIn_wide.2 (HL.out _)).mono ?_; rintro e w' ⟨rfl, rfl⟩)
        refine ⟨trivial, ?_⟩
        gi_wp2
        refine ⟨trivial, (callsIn_wide.2 (HS.out _)).mono ?_⟩
        rintro e w2 ⟨rfl, hb2⟩
        have hj2 := hJ _ _ _ hj1 (Still.new hb2 (by have := (Array.getElem?_eq_some_iff.1 hit1).1; omega))
        have hbx2 := hbx1.below hb2
        have hit2 := (hb2.block _ (Array.getElem?_eq_some_iff.1 hit1).1).trans hit1
        obtain ⟨fn, tmps, assign, body, hy, hR⟩ := hY (firstK s k) ⟨k, hlt⟩ w2 hj2 trivial ⟨k + 1, hlt, firstK_succ s k hlt⟩ (by rw [firstK_length s k hk]; exact hlt)
        dsimp only [encS] at hy
        rw [firstK_succ s k hlt] at hR
        clear hb2 hj1 hbx1 hit1 hj2
        gi_wp2
        refine hR.mono ?_
        rintro e W3 ⟨hk3, (⟨rfl, hJ3⟩ | ⟨rfl, hJx3⟩)⟩
        · have hit3 := hk3.same _ _ hit2 (hAl _ (Nat.le_refl _)) (fun _ _ e => by cases e)
          have hbx3 := hk3.blk hBl (by decide) hbx2
          gi_wp2
          go_roundw
          case rel => exact ⟨k + 1, by omega, hit3, hbx3, (Array.getElem?_eq_some_iff.1 hit3).1, hJ3⟩
          case measure => simp only [World.iterPos, hit3, Hit.out]; have := Hsz.out; omega
        · gi_wp2
          refine bodyPost_ret (results_none rfl _ _ _) rfl ?_
          exact ⟨⟨_, rfl⟩, .inr ⟨_, ⟨k + 1, by omega, rfl⟩, hJx3⟩⟩
    · obtain rfl : k = nS s := by omega
      have hnx := fun ty => Lib.run_next_end_at (P := Tryz.prog) wr W.heap.size s (bAt s (nS s)) ty hit (by rw [bAt_end]; omega)
      rw [firstK_all] at hj
      gi_wp2
      go_end0
      exact ⟨⟨_, rfl⟩, .inl ⟨_, rfl, hj⟩⟩

end
section
open Go.RowKit Go.Shelf
set_option linter.unusedVariables false
attribute [local go_sem] Oper.semAt_some
theorem Still.blk {B g : Nat} {t : TypeId} {cs : Array Value} {X Y : World} (h : Still B X Y) (hb : Blk X g t cs) : Blk Y g t cs := h.rows g cs (t, (0, 0)) hb
/-- the list that Stop holds -/
def StL (N : Nat) (X : World) : Prop := ∃ g n c cs ns, metL ns ∧ Blk X N 126 #[.slice (some ⟨g, 0, none⟩) n c] ∧ LI X g n cs ns ∧ g ≠ N ∧ g ≠ N + 1
theorem StL.still {N B : Nat} {X Y : World} (h : StL N X) (hb : Still B X Y) : StL N Y := by
  obtain ⟨g, n, c, cs, ns, h1, h2, h3, h4⟩ := h
  exact ⟨g, n, c, cs, ns, h1, hb.blk h2, ⟨hb.blk h3.1, h3.2⟩, h4⟩
def StI (s : ByteArray) (w : World) (b N : Nat) (pre : List (Fin (nS s))) (W : World) : Prop :=
  Blk W w.heap.size 29 #[.pointer (some ⟨b, 0, none⟩)] ∧ Blk W (w.heap.size + 1) 82 #[.int .i64 0, .int .i64 0] ∧ Blk W (w.heap.size + 1 + 1) 4 #[.bool false] ∧ StL N W ∧ Blk W (N + 1) 3 #[.int .i64 (pre.length : Int)] ∧ Below w.heap.size w W
set_option maxRecDepth 100000 in
set_option maxHeartbeats 4000000 in
theorem script_Stop (s : ByteArray) {w : World} {b : Nat} (hs : s.size ≤ 10) (hK : Bk w b houseT) (hR : RightT houseT) (hg : ∀ k, k < nS s → (spA s k).bad = false ∧ (((spA s k).r : Int) = 233 ∨ ((spA s k).r : Int) = 97 ∨ ((spA s k).r : Int) = 98)) :
    Calls Tryz.prog 175 #[.pointer (some ⟨b, 0, none⟩), .string s] w fun e w' => e = .returned (.tuple #[.agg #[.int .i64 0, .int .i64 0], .bool false]) ∧ Below w.heap.size w w' := by
  have hns := nS_le s
  have HA : Hid (∀ W, Below w.heap.size w W → Calls Tryz.prog 197 #[.pointer (some ⟨b, 0, none⟩)] W fun e w' => (∃ g cs, e = .returned (.slice (some ⟨g, 0, none⟩) 3 3) ∧ W.heap.size ≤ g ∧ LI w' g 3 cs [0, 1, 2]) ∧ Below W.heap.size W w') := Lib.hid (fun W hW => script_all (hK.below hW))
  have HBd : Hid (∀ k, k < nS s → ∀ W, Below w.heap.size w W → Calls Tryz.prog 198 #[.pointer (some ⟨b, 0, none⟩), .agg #[.int .i32 ((spA s k).r : Int), .int .i64 ((spA s k).n : Int), .bool false]] W fun e w' => (∃ g cs, e = .returned (.tuple #[.slice (some ⟨g, 0, none⟩) 1 1, .bool true]) ∧ W.heap.size ≤ g ∧ LI w' g 1 cs [0]) ∧ Below W.heap.size W w') := Lib.hid (fun k hk W hW => script_bound (hK.below hW) hR (hg k hk).2)
  have Hbad := Lib.hid (fun k hk => (hg k hk).1)
  clear hK hR hg
  refine calls_of_marks 6 Tryz.func175 rfl ?_
  simp only [Tryz.ntmps175, List.size_toArray, List.length_cons, List.length_nil, Nat.reduceAdd, Nat.reduceSub, Array.replicate_succ, Array.replicate_zero, List.push_toArray, List.append_toArray, List.nil_append, List.cons_append]
  gi_wp2_with (first
    | (refine ⟨trivial, ?_⟩; gi_at_call 106; refine (callsIn_wide.2 (Spots_val s _)).mono ?_; rintro e w' ⟨rfl, rfl⟩)
    | (refine ⟨trivial, ?_⟩; gi_at_call 197; refine (callsIn_wide.2 (HA.out _ ((((Below.refl _ w).alloc (Nat.le_refl _) _).alloc (by simp) _).alloc (by simp; omega) _))).mono ?_; rintro e W1 ⟨⟨g, cs, rfl, hgl, hLI⟩, h1⟩; have a0 := (((Blk.new w 29 #[.pointer (some ⟨b, 0, none⟩)]).alloc (.cells #[.int .i64 0, .int .i64 0] 82)).alloc (.cells #[.bool false] 4)).below h1; have a1 := ((Blk.new (w.alloc (.cells #[.pointer (some ⟨b, 0, none⟩)] 29)) 82 #[.int .i64 0, .int .i64 0]).alloc (.cells #[.bool false] 4)).below h1; have a2 := (Blk.new ((w.alloc (.cells #[.pointer (some ⟨b, 0, none⟩)] 29)).alloc (.cells #[.int .i64 0, .int .i64 0] 82)) 4 #[.bool false]).below h1; have hB1 := ((((Below.refl _ w).alloc (Nat.le_refl _) _).alloc (by simp) _).alloc (by simp; omega) _).trans (h1.mono (by simp; omega)); simp only [World.size_alloc] at a1 a2; clear h1 hgl))
  obtain ⟨N, hN⟩ : ∃ N, W1.heap.size = N := ⟨_, rfl⟩
  have hHN : w.heap.size + 2 < N := by rw [← hN]; exact a2.lt
  obtain ⟨W0, hW0⟩ : ∃ W0, (((W1.alloc (.cells #[.slice (some ⟨g, 0, none⟩) 3 3] 126)).alloc (.cells #[.int .i64 0] 3)).alloc (.cells #[.string s] 9)) = W0 := ⟨_, rfl⟩
  have b0 : Blk W0 w.heap.size 29 #[.pointer (some ⟨b, 0, none⟩)] := by rw [← hW0]; exact ((a0.alloc _).alloc _).alloc _
  have b1 : Blk W0 (w.heap.size + 1) 82 #[.int .i64 0, .int .i64 0] := by rw [← hW0]; exact ((a1.alloc _).alloc _).alloc _
  have b2 : Blk W0 (w.heap.size + 1 + 1) 4 #[.bool false] := by rw [← hW0]; exact ((a2.alloc _).alloc _).alloc _
  have b3 : StL N W0 := by
    have hgl := hLI.1.lt
    rw [← hW0, ← hN]
    exact ⟨g, 3, 3, cs, [0, 1, 2], .inl rfl, ((Blk.new W1 _ _).alloc _).alloc _, ⟨((hLI.1.alloc _).alloc _).alloc _, hLI.2⟩, by omega, by omega⟩
  have b4 : Blk W0 (N + 1) 3 #[.int .i64 0] := by rw [← hW0, ← hN]; have h := (Blk.new (W1.alloc (.cells #[.slice (some ⟨g, 0, none⟩) 3 3] 126)) 3 #[.int .i64 0]).alloc (.cells #[.string s] 9); simp only [World.size_alloc] at h; exact h
  have b5 : Blk W0 (N + 1 + 1) 9 #[.string s] := by rw [← hW0, ← hN]; have h := Blk.new ((W1.alloc (.cells #[.slice (some ⟨g, 0, none⟩) 3 3] 126)).alloc (.cells #[.int .i64 0] 3)) 9 #[.string s]; simp only [World.size_alloc] at h; exact h
  have hB0 : Below w.heap.size w W0 := by rw [← hW0]; exact ((hB1.alloc (by omega) _).alloc (by simp; omega) _).alloc (by simp; omega) _
  have hsz : W0.heap.size = N + 3 := by rw [← hW0, ← hN]; simp
  rw [hW0, hN]
  clear hW0 a0 a1 a2 hB1 HA hLI
  refine wpIn_rangeFunc_ownT rfl (by omega) (gf := 147) (lb := #[.pointer (some ⟨N + 1 + 1, 0, none⟩)]) rfl trivial (enters_of Tryz.func147 (by kernel_rfl) rfl)
    (z := w.heap.size) (A := fun k => k = N ∨ k = N + 1) (by omega) (fun k hk => by omega)
    (spots_T s w.heap.size (N + 1 + 1) (fun k => k = N ∨ k = N + 1) (by show ¬ (_ ∨ _); omega) W0 (fun k hk => by omega) b5 (6 - 1) (by omega)) (Below.refl _ _) (fun _ => rfl)
    (StI s w b N) (fun c pre X => False)
    (fun pre X Y h hb => ⟨hb.blk h.1, hb.blk h.2.1, hb.blk h.2.2.1, h.2.2.2.1.still hb, hb.blk h.2.2.2.2.1, h.2.2.2.2.2.trans (hb.below.mono (by omega))⟩) (fun c pre X Y h hb => h.elim) ⟨b0, b1, b2, b3, b4, hB0⟩
    (fun x a' X => ∃ Bx, N + 3 ≤ Bx ∧ Blk X Bx 149 #[.int .i32 ((spA s x.val).r : Int), .int .i64 ((spA s x.val).n : Int), .bool (spA s x.val).bad] ∧ a' = { tmps := #[.pointer (some ⟨b, 0, none⟩), .string s, .pointer (some ⟨w.heap.size, 0, none⟩), undef, .pointer (some ⟨w.heap.size + 1, 0, none⟩), .pointer (some ⟨w.heap.size + 1 + 1, 0, none⟩), .pointer (some ⟨N, 0, none⟩), .pointer (some ⟨N + 1, 0, none⟩), .int .i64 (bAt s x.val : Int), .pointer (some ⟨Bx, 0, none⟩), undef, undef, .pointer (some ⟨b, 0, none⟩), .bool false, undef, .pointer (some ⟨b, 0, none⟩), .slice (some ⟨g, 0, none⟩) 3 3, .string s, .func (.func 147) #[] #[.pointer (some ⟨N + 1 + 1, 0, none⟩)], .int .i64 (bAt s x.val : Int), .agg #[.int .i32 ((spA s x.val).r : Int), .int .i64 ((spA s x.val).n : Int), .bool (spA s x.val).bad], undef, undef, undef, undef, undef, undef, undef, undef, undef, undef, undef, undef, undef, undef, undef, undef, undef, undef, undef], defers := [] })
    (fun x a' _ X Y row hs hg hr => by obtain ⟨Bx, h1, h2, h3⟩ := hs; exact ⟨Bx, h1, blk_own h2 hg hr, h3⟩)
    ?assign ?body ?done ?stop
  case assign =>
    rintro l2 pre x X K ⟨c0, c1, c2, c3, c4, hB⟩ hM hz9 hK9
    gi_wp2
    exact hK9 _ _ (Only.alloc X _ (by omega)) ⟨c0.alloc _, c1.alloc _, c2.alloc _, c3.still (B := 0) (Still.alloc X _ (Nat.zero_le _)), c4.alloc _, hB.alloc (by omega) _⟩ ⟨X.heap.size, by omega, Blk.new X _ _, rfl⟩
  case body =>
    rintro l2 pre x a' X hl2 - ⟨c0, c1, c2, ⟨g2, n2, cc2, cs2, ns2, hm, e1, e2, e3⟩, c4, hB⟩ ⟨Bx, hBx, bX, rfl⟩ hsp hlt
    have d0 := c0.cell 0
    have x0 := bX.cell 0
    have x1 := bX.cell 1
    have x2 := bX.cell 2
    have HC := Lib.hid (HBd.out x.val x.isLt X hB)
    rw [Hbad.out x.val x.isLt] at x2
    simp only [List.getElem?_toArray, List.getElem?_cons_succ, List.getElem?_cons_zero] at d0 x0 x1 x2
    clear hsp
    gi_wp2
    refine ⟨trivial, (CallsIn.inRound l2 (callsIn_wide.2 HC.out)).mono ?_⟩
    rintro e Y ⟨⟨gb, csb, rfl, hgb, hLb⟩, hb⟩
    have HM := Lib.hid (script_meet (cl := cc2) (c := 1) (e2.below hb) hm hLb)
    have y0 := (e1.below hb).cell 0
    simp only [List.getElem?_toArray, List.getElem?_cons_zero] at y0
    have hXl := hB.size
    clear d0 x0 x1 x2 HC
    gi_wp2
    refine ⟨trivial, (CallsIn.inRound l2 (callsIn_wide.2 HM.out)).mono ?_⟩
    rintro e Z ⟨⟨g', c', rfl, hg', cur, hL'⟩, hz⟩
    have hb2 : Below X.heap.size X Z := below_trans hb hz
    have e1' := e1.below hb2
    have c0' := c0.below hb2
    have c1' := c1.below hb2
    have c2' := c2.below hb2
    have c4' := c4.below hb2
    have hB' := hB.trans (hb2.mono hB.size)
    have HO : Hid (Only w.heap.size (fun k => k = N ∨ k = N + 1) X Z) := Lib.hid (Only.new hb2 hB.size)
    have z0 := e1'.cell 0
    have zf := e1'.frozen 0
    have d4 := c4'.cell 0
    have f4 := c4'.frozen 0
    simp only [List.getElem?_toArray, List.getElem?_cons_zero] at d4 z0
    have hpl : (pre.length : Int) < 9223372036854775807 := by omega
    have hgN : N + 1 < g' := by
      have h1 := c4.lt
      have h2 := hb.size
      omega
    clear y0 hz hb HM hLb hgb
    gi_wp2
    refine ⟨HO.out.trans ((Only.setCell _ _ _ _ (by omega) (.inl rfl)).trans (Only.setCell _ _ _ _ (by omega) (.inr rfl))), (c0'.of (Below.heap_setCell _ _ _ _ (by simp; omega))).of (Below.heap_setCell _ _ _ _ (by simp; omega)), (c1'.of (Below.heap_setCell _ _ _ _ (by simp; omega))).of (Below.heap_setCell _ _ _ _ (by simp; omega)), (c2'.of (Below.heap_setCell _ _ _ _ (by simp; omega))).of (Below.heap_setCell _ _ _ _ (by simp; omega)), ⟨g', 1, c', cur, [0], .inr rfl, (e1'.set_ 0 _).of (Below.heap_setCell _ _ _ _ (by simp)), ⟨(hL'.1.of (Below.heap_setCell _ _ _ _ (by simp; omega))).of (Below.heap_setCell _ _ _ _ (by simp; omega)), hL'.2⟩, by omega, by omega⟩, ?_, (hB'.setCell (by show w.heap.size ≤ N; omega) _).setCell (by show w.heap.size ≤ N + 1; omega) _⟩
    rw [show ((pre ++ [x]).length : Int) = (pre.length : Int) + 1 by simp]
    exact (c4'.of (Below.heap_setCell _ _ _ _ (by simp))).set_ 0 _
  case done =>
    rintro D ys V hD hys9 ⟨c0, c1, c2, c3, c4, hB⟩ hK
    have d0 := c1.cell 0
    have d1 := c1.cell 1
    have f0 := c1.frozen 0
    have f1 := c1.frozen 1
    have db := c2.cell 0
    have fb := c2.frozen 0
    simp only [List.getElem?_toArray, List.getElem?_cons_succ, List.getElem?_cons_zero] at d0 d1 db
    gi_wp2
    have e0 := ((c1.set_ 0 (.int .i64 0)).set_ 1 (.int .i64 0)).of (Below.heap_setCell _ ⟨w.heap.size + 1 + 1, 0, none⟩ (.bool false) (w.heap.size + 1) (by simp))
    have e1 := ((c2.of (Below.heap_setCell V ⟨w.heap.size + 1, 0, none⟩ (.int .i64 0) (w.heap.size + 1 + 1) (by simp))).of (Below.heap_setCell _ ⟨w.heap.size + 1, 1, none⟩ (.int .i64 0) (w.heap.size + 1 + 1) (by simp))).set_ 0 (.bool false)
    have hK' := (Below.heap_setCell _ ⟨w.heap.size + 1 + 1, 0, none⟩ (.bool false) D (by simp; omega)).trans ((Below.heap_setCell _ ⟨w.heap.size + 1, 1, none⟩ (.int .i64 0) D (by simp; omega)).trans ((Below.heap_setCell V ⟨w.heap.size + 1, 0, none⟩ (.int .i64 0) D (by simp; omega)).trans hK))
    have hB3 := ((hB.setCell (p := ⟨w.heap.size + 1, 0, none⟩) (by simp) (.int .i64 0)).setCell (p := ⟨w.heap.size + 1, 1, none⟩) (by simp) (.int .i64 0)).setCell (p := ⟨w.heap.size + 1 + 1, 0, none⟩) (by show w.heap.size ≤ w.heap.size + 1 + 1; omega) (.bool false)
    refine ⟨by simp, .inl ⟨_, _, rfl, run_takeDeferred hK', ?_⟩⟩
    have g0 := (e0.of (World.putObj_heap_other (o := .deferred none) (show w.heap.size + 1 ≠ D by omega))).cell 0
    have g1 := (e0.of (World.putObj_heap_other (o := .deferred none) (show w.heap.size + 1 ≠ D by omega))).cell 1
    have g2 := (e1.of (World.putObj_heap_other (o := .deferred none) (show w.heap.size + 1 + 1 ≠ D by omega))).cell 0
    simp at g0 g1 g2
    refine ⟨.tuple #[.agg #[.int .i64 0, .int .i64 0], .bool false], ?_, rfl, hB3.trans ⟨rfl, rfl, rfl, (grownBy_putObj' _ _ _).size, fun k hk => World.putObj_heap_other (by omega)⟩⟩
    simp [results, Tryz.results175, go_sem, g0, g1, g2]
  case stop =>
    rintro D c pre V hD hsp h1 hK9
    exact h1.elim

end
section
open Go.RowKit Go.Shelf
set_option linter.unusedVariables false
/-- what labels are written by -/
def parV : Value := .agg #[.int .i64 36, .int .i64 2, .int .i64 24, .int .i64 40, .int .i64 600, .int .i64 64, .int .i32 128]
set_option maxHeartbeats 2000000 in
theorem boot_House (w : World) : Calls Tryz.prog 99 #[] w fun e w' => e = .returned parV ∧ Below w.heap.size w w' := by
  go_enter Tryz.func99, Tryz.ntmps99
  go_wp2_with fail
  refine bodyPost_ret (v := parV) (by simp [results, Tryz.results99, go_sem, parV]) rfl ⟨rfl, ?_⟩
  exact (Below.refl _ w).alloc (Nat.le_refl _) _
set_option maxHeartbeats 2000000 in
theorem boot_in (a b c : Int) (h1 : b ≤ a) (h2 : a ≤ c) (w : World) : Calls Tryz.prog 185 #[.int .i64 a, .int .i64 b, .int .i64 c] w fun e w' => e = .returned (.bool true) ∧ w = w' := by
  go_enter Tryz.func185, Tryz.ntmps185
  go_wp2_with fail
  go_ret
  exact ⟨rfl, rfl⟩
set_option maxHeartbeats 4000000 in
theorem boot_Right (w : World) : Calls Tryz.prog 138 #[parV] w fun e w' => e = .returned (.bool true) ∧ Below w.heap.size w w' := by
  have H1 := Lib.hid (fun W => boot_in 36 3 36 (by decide) (by decide) W)
  have H2 := Lib.hid (fun W => boot_in 2 1 24 (by decide) (by decide) W)
  have H3 := Lib.hid (fun W => boot_in 40 1 1000 (by decide) (by decide) W)
  have H4 := Lib.hid (fun W => boot_in 600 2 10000 (by decide) (by decide) W)
  have H5 := Lib.hid (fun W => boot_in 64 0 1000 (by decide) (by decide) W)
  have HV : Hid (∀ W : World, Calls Tryz.prog 56 #[.int .i32 128] W fun e w' => e = .returned (.bool true) ∧ W = w') := Lib.hid (fun W => (Tryz.utf8_ValidRune 128 W).mono (by
    rintro e w' ⟨rfl, rfl⟩
    exact ⟨rfl, rfl⟩))
  unfold parV
  go_enter Tryz.func138, Tryz.ntmps138
  go_wp2_with fail
  refine (H1.out _).mono ?_
  rintro e w1 ⟨rfl, rfl⟩
  go_wp2_with fail
  refine (H2.out _).mono ?_
  rintro e w2 ⟨rfl, rfl⟩
  go_wp2_with fail
  refine (H3.out _).mono ?_
  rintro e w3 ⟨rfl, rfl⟩
  go_wp2_with fail
  refine (H4.out _).mono ?_
  rintro e w4 ⟨rfl, rfl⟩
  go_wp2_with fail
  refine (H5.out _).mono ?_
  rintro e w5 ⟨rfl, rfl⟩
  go_wp2_with (go_at_call 56; refine (HV.out _).mono ?_; rintro e w' ⟨rfl, rfl⟩)
  go_ret
  exact ⟨rfl, (Below.refl _ w).alloc (Nat.le_refl _) _⟩
theorem basic_a : Lib.indexByte (⟨#[97, 98, 99, 100, 101, 102, 103, 104, 105, 106, 107, 108, 109, 110, 111, 112, 113, 114, 115, 116, 117, 118, 119, 120, 121, 122, 48, 49, 50, 51, 52, 53, 54, 55, 56, 57]⟩ : ByteArray).data.toList 97 = 0 := by decide +kernel
set_option maxHeartbeats 4000000 in
theorem boot_basic (w : World) : Calls Tryz.prog 140 #[.int .i32 97] w fun e w' => e = .returned (.bool true) ∧ w = w' := by
  have HC := Lib.hid (fun W => Tryz.strings_ContainsRune_ascii ⟨#[97, 98, 99, 100, 101, 102, 103, 104, 105, 106, 107, 108, 109, 110, 111, 112, 113, 114, 115, 116, 117, 118, 119, 120, 121, 122, 48, 49, 50, 51, 52, 53, 54, 55, 56, 57]⟩ 97 W (by decide) (by decide))
  have e97 : (97 : Int).toNat.toUInt8 = 97 := rfl
  rw [e97, basic_a] at HC
  clear e97
  go_enter Tryz.func140, Tryz.ntmps140
  go_wp2_with (go_at_call 65; refine (HC.out _).mono ?_; rintro e w' ⟨rfl, rfl⟩)
  go_ret
  exact ⟨rfl, rfl⟩
/-- a state: eleven cells -/
def stC (bias n at_ many : Int) : Array Value := #[.int .i64 36, .int .i64 2, .int .i64 24, .int .i64 40, .int .i64 600, .int .i64 64, .int .i32 128, .int .i64 bias, .int .i32 n, .int .i64 at_, .int .i64 many]
set_option maxHeartbeats 4000000 in
theorem boot_begin (w : World) : Calls Tryz.prog 141 #[parV] w fun e w' => e = .returned (.agg (stC 64 128 0 0)) ∧ Below w.heap.size w w' := by
  unfold parV
  go_enter Tryz.func141, Tryz.ntmps141
  go_wp2_with fail
  refine bodyPost_ret (v := .agg (stC 64 128 0 0)) (by simp [results, Tryz.results141, go_sem, stC]) rfl ⟨rfl, ?_⟩
  exact ((Below.refl _ w).alloc (Nat.le_refl _) _).alloc (by simp) _
theorem st_cells {W : World} {X : Nat} {bias n at_ many : Int} (h : Blk W X 210 (stC bias n at_ many)) : W.cell? ⟨X, 0, none⟩ = some (.int .i64 36) ∧ W.cell? ⟨X, 1, none⟩ = some (.int .i64 2) ∧ W.cell? ⟨X, 2, none⟩ = some (.int .i64 24) ∧ W.cell? ⟨X, 3, none⟩ = some (.int .i64 40) ∧ W.cell? ⟨X, 4, none⟩ = some (.int .i64 600) ∧ W.cell? ⟨X, 7, none⟩ = some (.int .i64 bias) ∧ W.cell? ⟨X, 8, none⟩ = some (.int .i32 n) ∧ W.cell? ⟨X, 9, none⟩ = some (.int .i64 at_) ∧ W.cell? ⟨X, 10, none⟩ = some (.int .i64 many) :=
  ⟨h.cell 0, h.cell 1, h.cell 2, h.cell 3, h.cell 4, h.cell 7, h.cell 8, h.cell 9, h.cell 10⟩
set_option maxRecDepth 100000 in
set_option maxHeartbeats 4000000 in
theorem boot_threshold {w : World} {X : Nat} {n : Int} (h : Blk w X 210 (stC 64 n 0 0)) (k : Int) (t : Int) (hk : (k = 1 ∧ t = 2) ∨ (k = 2 ∧ t = 8)) : Calls Tryz.prog 186 #[.pointer (some ⟨X, 0, none⟩), .int .i64 k] w fun e w' => e = .returned (.int .i64 t) ∧ ∃ q, w' = w.drewN q := by
  obtain ⟨c0, c1, c2, -, -, c7, -⟩ := st_cells h
  clear h
  rcases hk with ⟨rfl, rfl⟩ | ⟨rfl, rfl⟩
  · go_enter Tryz.func186, Tryz.ntmps186
    go_wp2_with fail
    go_quiet (fail)
    go_wp2_with fail
    go_ret
    exact ⟨rfl, _, rfl⟩
  · go_enter Tryz.func186, Tryz.ntmps186
    go_wp2_with fail
    go_quiet (fail)
    go_wp2_with fail
    go_ret
    exact ⟨rfl, _, rfl⟩

end
end Go.Proofs.YtjmkdimbbacnfaaGreatDoor
