/- Iterators that keep state of their own in cells, or that range over another iterator: a contract, and the law of a range over one. -/
import Derived.Test.YtkenffbonnbflaaDoorMarks
namespace Go.Proofs.YtkenffbonnbflaaDoor
open Go.RowKit Go.Shelf
set_option linter.unusedVariables false

/-- the blocks of A alone may turn, each keeping its kind -/
structure Only (A : Nat → Prop) (X Y : World) : Prop where
  size : X.heap.size ≤ Y.heap.size
  same : ∀ k, k < X.heap.size → ¬ A k → Y.heap[k]? = X.heap[k]?
  kind : ∀ (k : Nat) (o : Obj), X.heap[k]? = some o → ∃ o', Y.heap[k]? = some o' ∧ o'.isWalk = o.isWalk ∧ o'.isCells = o.isCells
theorem Only.refl (A : Nat → Prop) (X : World) : Only A X X := ⟨Nat.le_refl _, fun _ _ _ => rfl, fun _ o h => ⟨o, h, rfl, rfl⟩⟩
theorem Only.trans {A : Nat → Prop} {X Y Z : World} (h : Only A X Y) (k : Only A Y Z) : Only A X Z :=
  ⟨Nat.le_trans h.size k.size, fun i hi ha => (k.same i (Nat.lt_of_lt_of_le hi h.size) ha).trans (h.same i hi ha), fun i o ho => by
    obtain ⟨o1, h1, w1, c1⟩ := h.kind i o ho
    obtain ⟨o2, h2, w2, c2⟩ := k.kind i o1 h1
    exact ⟨o2, h2, w2.trans w1, c2.trans c1⟩⟩
theorem Only.mono {A B : Nat → Prop} {X Y : World} (h : Only A X Y) (hAB : ∀ k, A k → B k) : Only B X Y := ⟨h.size, fun k hk hb => h.same k hk (fun ha => hb (hAB k ha)), h.kind⟩
theorem Only.below {A : Nat → Prop} {X Y : World} (h : Below X.heap.size X Y) : Only A X Y :=
  ⟨h.size, fun k hk _ => h.block k hk, fun k o ho => ⟨o, (h.block k (Array.getElem?_eq_some_iff.1 ho).1).trans ho, rfl, rfl⟩⟩
theorem Only.alloc {A : Nat → Prop} (X : World) (o : Obj) : Only A X (X.alloc o) := Only.below ((Below.refl _ X).alloc (Nat.le_refl _) o)
theorem Only.setCell {A : Nat → Prop} (X : World) (b i : Nat) (v : Value) (hb : A b) : Only A X (X.setCell ⟨b, i, none⟩ v) :=
  ⟨(KeepsWalks.setCell X ⟨b, i, none⟩ v).size, fun k _ ha => Below.heap_setCell X ⟨b, i, none⟩ v k (fun e => ha (by rw [e]; exact hb)), fun k o ho => by
    by_cases e : k = b
    · subst e
      obtain ⟨hlt, hk⟩ := Array.getElem?_eq_some_iff.1 ho
      refine ⟨_, (show (X.heap.modify k _)[k]? = some _ from Array.getElem?_eq_getElem (by rw [Array.size_modify]; exact hlt)), ?_⟩
      rw [Array.getElem_modify_self, hk]
      cases o <;> exact ⟨rfl, rfl⟩
    · exact ⟨o, (Below.heap_setCell X ⟨b, i, none⟩ v k e).trans ho, rfl, rfl⟩⟩
theorem Only.putObj {A : Nat → Prop} {X : World} {l : Nat} {o : Obj} (o' : Obj) (hl : A l) (h : X.heap[l]? = some o) (hw : o'.isWalk = o.isWalk) (hc : o'.isCells = o.isCells) : Only A X (X.putObj l o') :=
  ⟨(grownBy_putObj' X l o').size, fun k _ ha => World.putObj_heap_other (fun e => ha (by rw [e]; exact hl)), fun k o2 ho => by
    by_cases e : k = l
    · subst e
      rw [h] at ho
      cases ho
      exact ⟨o', World.putObj_heap_same (Array.getElem?_eq_some_iff.1 h).1, hw, hc⟩
    · exact ⟨o2, (World.putObj_heap_other e).trans ho, rfl, rfl⟩⟩
theorem Only.blk {A : Nat → Prop} {X Y : World} {g : Nat} {t : TypeId} {cs : Array Value} (h : Only A X Y) (hA : ¬ A g) (hb : Blk X g t cs) : Blk Y g t cs :=
  hb.of (h.same g hb.lt hA)

/-- what is said abides all that is done from block B on -/
def AllFrom {β : Type} (B : Nat) (I : β → World → Prop) : Prop := ∀ s X Y, I s X → Below B X Y → I s Y
theorem below_putObj {n : Nat} (X : World) (l : Nat) (o : Obj) (hl : n ≤ l) : Below n X (X.putObj l o) :=
  ⟨rfl, rfl, rfl, (grownBy_putObj' X l o).size, fun k hk => World.putObj_heap_other (by omega)⟩

variable {F : Fence} {n : Nat} {P : Program} {w : World}

/-- an iterator's contract, for every loop body whose word speaks of what lay ahead of the loop alone -/
def SeqStopsB {α : Type} (F : Fence) (n : Nat) (P : Program) (g : Nat) (lb : Array Value) (encs : α → Array Value) (A : Nat → Prop) (S Sp : List α → Prop) (N : Nat) (w₀ : World) : Prop :=
  ∀ (l : Nat) (J Jx : List α → World → Prop) (W : World), Below w₀.heap.size w₀ W → w₀.heap.size ≤ l → l < W.heap.size → (∃ r, W.heap[l]? = some (.loop r)) → AllFrom W.heap.size J → AllFrom W.heap.size Jx →
    (∀ pre x X, J pre X → Sp (pre ++ [x]) → pre.length < N → YieldAt F (n - 1) P l (encs x) X fun e Y => Only (fun k => A k ∨ k = l) X Y ∧ ((e = .returned (.bool true) ∧ J (pre ++ [x]) Y) ∨ (e = .returned (.bool false) ∧ Jx (pre ++ [x]) Y))) → J [] W →
    CallsIn F n P g (#[.func (.yield l) #[] #[]] ++ lb) W fun e Y => (∃ v, e = .returned v) ∧ ((∃ ys, S ys ∧ J ys Y) ∨ (∃ pre, Sp pre ∧ Jx pre Y))

/-- how a round's body may be left -/
def onlyPost {α : Type} (A : Nat → Prop) (I : List α → World → Prop) (Ix : Code → List α → World → Prop) (xs : List α) (W : World) : Exit → Act → World → Prop
  | .normal, _, W' => Only A W W' ∧ I xs W'
  | .ret, _, W' => Only A W W' ∧ Ix .ret xs W'
  | .exit id, _, W' => Only A W W' ∧ Ix (.exit id) xs W'
  | .goto t, _, W' => Only A W W' ∧ Ix (.goto t) xs W'
  | .panic _, _, _ => False
  | .outgrown, _, _ => False

theorem wpIn_rangeFunc_ownB {α : Type} {g : Operand} {ps : Array Tmp} {assign body : Code} {Q : Exit → Act → World → Prop} {a : Act}
    (hro : F.round = none) (h1 : 1 ≤ n) {gf : Nat} {lb : Array Value} (hg : a.eval g = .func (.func gf) #[] lb) (hFg : F.fn gf) (eg : ∀ args w, (callFunc gf args).run P w = .ok (.enter gf args) w)
    {encs : α → Array Value} {A : Nat → Prop} {S Sp : List α → Prop} {N : Nat} {w0 : World} (hA : ∀ k, A k → k < w.heap.size) (hseq : SeqStopsB F (n - 1) P gf lb encs A S Sp N w0)
    (hb0 : Below w0.heap.size w0 w) (hps : ∀ x, (encs x).size = ps.size)
    (I : List α → World → Prop) (Ix : Code → List α → World → Prop) (hI : AllFrom w.heap.size I) (hIx : ∀ c, AllFrom w.heap.size (Ix c)) (h0 : I [] w) (Ax : α → Act → World → Prop) (hAx : ∀ x a', OwnFrom w.heap.size (fun (_ : Unit) W => Ax x a' W))
    (hassign : ∀ (l : Nat) (pre : List α) (x : α) (W : World) (K : Act → World → Prop), I pre W → w.heap.size < W.heap.size → (∀ a' W', Only A W W' → I pre W' → Ax x a' W' → K a' W') →
      assign.wpIn (F.inRound l) (n - 1 - 1) P (Exit.then K (fun _ _ _ => False)) { tmps := (ps.zip (encs x)).foldl (fun t (p, v) => t.setIfInBounds p v) a.tmps, defers := [] } W)
    (hbody : ∀ (l : Nat) (pre : List α) (x : α) (a' : Act) (W : World), w.heap.size ≤ l → (∃ r, W.heap[l]? = some (.loop r)) → I pre W → Ax x a' W → Sp (pre ++ [x]) → pre.length < N → body.wpIn (F.inRound l) (n - 1 - 1) P (onlyPost A I Ix (pre ++ [x]) W) a' W)
    (hdone : ∀ (D : Nat) (xs : List α) (W : World), w.heap.size ≤ D → S xs → I xs W → W.heap[D]? = some (.deferred (some [])) → Q .normal { a with defers := { target := .collected D, args := #[] } :: a.defers } W)
    (hstop : ∀ (D : Nat) (c : Code) (pre : List α) (W : World), w.heap.size ≤ D → Sp pre → Ix c pre W → W.heap[D]? = some (.deferred (some [])) → c.wpIn F n P Q { a with defers := { target := .collected D, args := #[] } :: a.defers } W) :
    (Code.rangeFunc g ps assign body).wpIn F n P Q a w := by
  refine wpIn_rangeFunc ?_
  intro fn hfn
  rw [hro]
  obtain ⟨rec, hrec⟩ : ∃ rec : LoopState → Option Code → Loop, rec = fun st pe => { state := st, pending := pe, fn, tmps := a.tmps, params := ps, assign, body, defers := w.heap.size } := ⟨_, rfl⟩
  obtain ⟨W1, hW1⟩ : ∃ W1, (w.alloc (.deferred (some []))).alloc (.loop (rec .ready none)) = W1 := ⟨_, rfl⟩
  have hL1 : W1.heap[w.heap.size + 1]? = some (.loop (rec .ready none)) := by
    rw [← hW1]; have := World.alloc_heap_new (w.alloc (.deferred (some []))) (.loop (rec .ready none)); rwa [World.size_alloc] at this
  have hK1 : W1.heap[w.heap.size]? = some (.deferred (some [])) := by
    rw [← hW1]; exact (Below.heap_alloc _ _ _ (by simp)).trans (World.alloc_heap_new w _)
  have hww : Below w.heap.size w W1 := by
    rw [← hW1]; exact ((Below.refl _ w).alloc (Nat.le_refl _) _).alloc (by simp) _
  have hI1 : I [] W1 := hI _ _ _ h0 hww
  have hb1 : Below w0.heap.size w0 W1 := hb0.trans (hww.mono hb0.size)
  have hz1 : w.heap.size + 1 < W1.heap.size := (Array.getElem?_eq_some_iff.1 hL1).1
  have hnl : ¬ A (w.heap.size + 1) := fun h => by have := hA _ h; omega
  have hnd : ¬ A w.heap.size := fun h => by have := hA _ h; omega
  refine ⟨w.heap.size + 1, [{ target := .collected w.heap.size, args := #[] }], W1, { target := .fn (.func gf) lb, args := #[.func (.yield (w.heap.size + 1)) #[] #[]] }, W1, gf,
    #[.func (.yield (w.heap.size + 1)) #[] #[]] ++ lb, W1, ?_, ?_, ?_, ?_, fun _ => h1, ?_⟩
  · rw [← hW1, hrec]; exact run_enterLoop_outer _ _ _ _ _
  · simp only [resolve, hg]
    simp [go_sem]
  · intro f' hf'; simp [Target.leads] at hf'; subst hf'; exact hFg
  · simp [invoke, go_sem, eg]
  · refine (hseq (w.heap.size + 1)
      (fun pre W => I pre W ∧ W.heap[w.heap.size + 1]? = some (.loop (rec .ready none)) ∧ W.heap[w.heap.size]? = some (.deferred (some [])))
      (fun pre W => ∃ c, Ix c pre W ∧ W.heap[w.heap.size + 1]? = some (.loop (rec .done (some c))) ∧ W.heap[w.heap.size]? = some (.deferred (some [])))
      W1 hb1 (by have := hb0.size; omega) hz1 ⟨_, hL1⟩
      (fun s X Y hs hb => ⟨hI s X Y hs.1 (hb.mono hww.size), (hb.block _ hz1).trans hs.2.1, (hb.block _ (by omega)).trans hs.2.2⟩)
      (fun s X Y hs hb => by
        obtain ⟨c, hc, hl, hk⟩ := hs
        exact ⟨c, hIx c s X Y hc (hb.mono hww.size), (hb.block _ hz1).trans hl, (hb.block _ (by omega)).trans hk⟩)
      ?_ ⟨hI1, hL1, hK1⟩).mono ?_
    · -- ONE ROUND
      rintro pre x W ⟨hi, hl, hk⟩ hsp hlen
      have hlt : w.heap.size + 1 < W.heap.size := (Array.getElem?_eq_some_iff.1 hl).1
      have hy := run_yield (P := P) (args := encs x) hl (by rw [hrec]; exact hps x)
      rw [hrec] at hy
      refine ⟨fn, _, assign, body, hy, roundIn_of_wpIn hfn (hassign _ pre x W _ hi (by omega) ?_)⟩
      clear hy
      intro a' Wa hoa hia hax
      replace hl := (hoa.same _ hlt hnl).trans hl
      replace hk := (hoa.same _ (by omega) hnd).trans hk
      have hlta : w.heap.size + 1 < Wa.heap.size := (Array.getElem?_eq_some_iff.1 hl).1
      refine ⟨_, run_beginRound hl (by rw [hrec]), ?_⟩
      have hl2 : (Wa.putObj (w.heap.size + 1) (.loop { rec .ready none with state := .busy })).heap[w.heap.size + 1]? = some (.loop { rec .ready none with state := .busy }) := World.putObj_heap_same hlta
      have hk2 : (Wa.putObj (w.heap.size + 1) (.loop { rec .ready none with state := .busy })).heap[w.heap.size]? = some (.deferred (some [])) := (World.putObj_heap_other (by omega)).trans hk
      have hz2 := (grownBy_putObj' Wa (w.heap.size + 1) (.loop { rec .ready none with state := .busy })).size
      have ho2 : Only (fun k => A k ∨ k = w.heap.size + 1) W (Wa.putObj (w.heap.size + 1) (.loop { rec .ready none with state := .busy })) := (hoa.mono (fun k h => .inl h)).trans (Only.putObj _ (.inr rfl) hl rfl rfl)
      refine wpIn_mono (hbody _ pre x a' _ (by omega) ⟨_, hl2⟩ (hI _ _ _ hia (below_putObj _ _ _ (by omega))) ((hAx x a').putObj (s := ()) _ hax (by omega) hl rfl) hsp hlen) ?_
      have fin : ∀ (jump : Option Code) (W3 : World), Only A (Wa.putObj (w.heap.size + 1) (.loop { rec .ready none with state := .busy })) W3 →
          (Instr.endRound (w.heap.size + 1) jump).run P W3 = .ok (.bool jump.isNone) (W3.putObj (w.heap.size + 1) (.loop (rec (if jump.isNone then .ready else .done) jump))) ∧
          (W3.putObj (w.heap.size + 1) (.loop (rec (if jump.isNone then .ready else .done) jump))).heap[w.heap.size + 1]? = some (.loop (rec (if jump.isNone then .ready else .done) jump)) ∧
          (W3.putObj (w.heap.size + 1) (.loop (rec (if jump.isNone then .ready else .done) jump))).heap[w.heap.size]? = some (.deferred (some [])) ∧
          Only (fun k => A k ∨ k = w.heap.size + 1) W (W3.putObj (w.heap.size + 1) (.loop (rec (if jump.isNone then .ready else .done) jump))) := fun jump W3 hk3 => by
        have hl3 := (hk3.same _ (by omega) hnl).trans hl2
        have hd3 := (hk3.same _ (by omega) hnd).trans hk2
        have := run_endRound (P := P) jump hl3
        have ho4 : Only (fun k => A k ∨ k = w.heap.size + 1) W (W3.putObj (w.heap.size + 1) (.loop (rec (if jump.isNone then .ready else .done) jump))) := (ho2.trans (hk3.mono (fun k h => .inl h))).trans (Only.putObj _ (.inr rfl) hl3 rfl rfl)
        rw [hrec] at this ho4 ⊢
        exact ⟨this, World.putObj_heap_same (Array.getElem?_eq_some_iff.1 hl3).1, (World.putObj_heap_other (by omega)).trans hd3, ho4⟩
      rintro e a3 W3 hp
      cases e with
      | normal =>
        obtain ⟨hk3, hi3⟩ := hp
        obtain ⟨hr, hl4, hk4, ho4⟩ := fin none W3 hk3
        exact ⟨_, _, hr, ho4, .inl ⟨rfl, hI _ _ _ hi3 (below_putObj _ _ _ (by omega)), hl4, hk4⟩⟩
      | ret =>
        obtain ⟨hk3, hi3⟩ := hp
        obtain ⟨hr, hl4, hk4, ho4⟩ := fin (some .ret) W3 hk3
        exact ⟨_, _, hr, ho4, .inr ⟨rfl, .ret, hIx _ _ _ _ hi3 (below_putObj _ _ _ (by omega)), hl4, hk4⟩⟩
      | exit id =>
        obtain ⟨hk3, hi3⟩ := hp
        obtain ⟨hr, hl4, hk4, ho4⟩ := fin (some (.exit id)) W3 hk3
        exact ⟨_, _, hr, ho4, .inr ⟨rfl, .exit id, hIx _ _ _ _ hi3 (below_putObj _ _ _ (by omega)), hl4, hk4⟩⟩
      | goto t =>
        obtain ⟨hk3, hi3⟩ := hp
        obtain ⟨hr, hl4, hk4, ho4⟩ := fin (some (.goto t)) W3 hk3
        exact ⟨_, _, hr, ho4, .inr ⟨rfl, .goto t, hIx _ _ _ _ hi3 (below_putObj _ _ _ (by omega)), hl4, hk4⟩⟩
      | panic ch => exact hp.elim
      | outgrown => exact hp.elim
    · -- BEHIND THE ITERATOR
      rintro e W2 ⟨⟨v, rfl⟩, (⟨xs, hS, hi, hl, hk⟩ | ⟨pre, hSp, c, hi, hl, hk⟩)⟩
      · exact ⟨none, _, by have := run_endLoop (P := P) hl (by rw [hrec]; simp); rw [hrec] at this; exact this, hdone _ xs _ (Nat.le_refl _) hS (hI _ _ _ hi (below_putObj _ _ _ (by omega))) ((World.putObj_heap_other (by omega)).trans hk)⟩
      · exact ⟨some c, _, by have := run_endLoop (P := P) hl (by rw [hrec]; simp); rw [hrec] at this; exact this, hstop _ c pre _ (Nat.le_refl _) hSp (hIx c _ _ _ hi (below_putObj _ _ _ (by omega))) ((World.putObj_heap_other (by omega)).trans hk)⟩

/-- where the depth is not told, a round may be asked for at any depth -/
theorem round_deep {F : Fence} (hd : F.depth = none) {n m l : Nat} {f : FuncId} {tmps : Array Value} {assign body : Code} {W : World} {R : Ending → World → Prop}
    (h : RoundIn F n P l f tmps assign body W R) : RoundIn F m P l f tmps assign body W R := ⟨h.1, fun c cs _ => h.2 c cs (fun d e => by rw [hd] at e; cases e)⟩
/-- a round of a loop ahead, in a round -/
theorem round_in {l l' : Nat} {f : FuncId} {tmps : Array Value} {assign body : Code} {W : World} {R : Ending → World → Prop}
    (h : RoundIn F n P l f tmps assign body W R) : RoundIn (F.inRound l') n P l f tmps assign body W R := h
end Go.Proofs.YtkenffbonnbflaaDoor
