/- What guiselaw1.UtfRange keeps while it goes over the text. -/
import Derived.Test.YtkenffbonnbflaaDoorRoundQ
import Derived.Test.YtkenffbonnbflaaDoorRefText
namespace Go.Proofs.YtkenffbonnbflaaDoor
open Go.RowKit Go.Shelf
set_option linter.unusedVariables false

/-- an iterator is not nil -/
theorem seq_ne_nil (f : Nat) (b : Nat) (W : World) : (binOp .eql 73 (.func (.func f) #[] #[.pointer (some ⟨b, 0, none⟩)]) .nilFunc).run Tryd.prog W = .ok (.bool false) W := by
  kernel_rfl
theorem own_lt' {w : World} {base : Nat} {e : TypeId} {size : Nat} {v : Value} {n : Nat} {xs : List Value} (h : w.ownsRow base e size v n xs) : ∀ g, v.ownBlock = some g → g < w.heap.size ∧ base ≤ g ∧ ∃ cur, Blk w g e cur := fun g hg => by
  rcases h.2 with ⟨rfl, _⟩ | ⟨g', cap, cur, rfl, hb, hh, _⟩
  · simp [Value.ownBlock] at hg
  · have e1 : g' = g := by simpa [Value.ownBlock] using hg
    subst e1
    exact ⟨(Array.getElem?_eq_some_iff.1 hh).1, hb, cur, hh⟩

def plcs (s : ByteArray) (k : Nat) : List Value := (List.range k).map fun i => Value.int .i64 (bAt s i : Int)
def rnes (s : ByteArray) (k : Nat) : List Value := (List.range k).map fun i => Value.int .i32 ((spA s i).r : Int)
theorem plcs_succ (s : ByteArray) (k : Nat) : plcs s k ++ [.int .i64 (bAt s k : Int)] = plcs s (k + 1) := by unfold plcs; rw [List.range_succ, List.map_append]; rfl
theorem rnes_succ (s : ByteArray) (k : Nat) : rnes s k ++ [.int .i32 ((spA s k).r : Int)] = rnes s (k + 1) := by unfold rnes; rw [List.range_succ, List.map_append]; rfl
theorem plcs_get (s : ByteArray) (n j : Nat) (h : j < n) : (plcs s n)[j]? = some (.int .i64 (bAt s j : Int)) := by unfold plcs; rw [List.getElem?_map, List.getElem?_range h]; rfl
theorem rnes_get (s : ByteArray) (n j : Nat) (h : j < n) : (rnes s n)[j]? = some (.int .i32 ((spA s j).r : Int)) := by unfold rnes; rw [List.getElem?_map, List.getElem?_range h]; rfl

/-- while the text is gone over: B: where the two lists' variables and the iterator lie -/
structure RS (s : ByteArray) (w : World) (B : Nat) (wr : World) (k1 k2 k3 : Nat) (v1 v2 : Value) : Prop where
  p : Blk wr B 75 #[v1]
  q : Blk wr (B + 1) 37 #[v2]
  o1 : wr.ownsRow B 3 1 v1 k1 (plcs s k1)
  o2 : wr.ownsRow B 21 1 v2 k2 (rnes s k2)
  it : wr.heap[B + 1 + 1]? = some (.stringIter s (bAt s k3))
  below : Below B w wr
section
variable {s : ByteArray} {w wr w2 : World} {B k1 k2 k3 : Nat} {v1 v2 : Value} {o : Obj}
theorem RS.lt (h : RS s w B wr k1 k2 k3 v1 v2) : B + 1 + 1 < wr.heap.size := (Array.getElem?_eq_some_iff.1 h.it).1
theorem RS.next (h : RS s w B wr k1 k2 k3 v1 v2) (k : Nat) : RS s w B (wr.iterAt (B + 1 + 1) s (bAt s k)) k1 k2 k v1 v2 :=
  ⟨h.p.of (Lib.iterAt_other _ _ _ _ _ (by omega)), h.q.of (Lib.iterAt_other _ _ _ _ _ (by omega)), own_iterAt h.o1 h.it _, own_iterAt h.o2 h.it _, Lib.iterAt_heap _ _ _ _ _ h.it,
    h.below.grown (grown_iterAt _ _ _ _) (by have := h.lt; omega) (fun k e => by cases e; omega)⟩
theorem RS.cells1 (h : RS s w B wr k1 k2 k3 v1 v2) (hg : (wr.alloc o).grownBy w2 v1.ownBlock) : Blk w2 B 75 #[v1] :=
  (h.p.alloc o).of (hg.block _ (h.p.alloc o).lt (own_ne_blk h.o1 h.p (by decide)))
theorem RS.cells2 (h : RS s w B wr k1 k2 k3 v1 v2) (hg : (wr.alloc o).grownBy w2 v2.ownBlock) : Blk w2 (B + 1) 37 #[v2] :=
  (h.q.alloc o).of (hg.block _ (h.q.alloc o).lt (own_ne_blk h.o2 h.q (by decide)))
theorem RS.more1 {v' : Value} (h : RS s w B wr k1 k2 k3 v1 v2) (hg : (wr.alloc o).grownBy w2 v1.ownBlock) (ho : w2.ownsRow B 3 1 v' (k1 + 1) (plcs s (k1 + 1))) : RS s w B (w2.setCell ⟨B, 0, none⟩ v') (k1 + 1) k2 k3 v' v2 := by
  have hp := h.cells1 hg
  have hq : Blk w2 (B + 1) 37 #[v2] := (h.q.alloc o).of (hg.block _ (h.q.alloc o).lt (own_ne_blk h.o1 h.q (by decide)))
  have hi : w2.heap[B + 1 + 1]? = some (.stringIter s (bAt s k3)) := by
    rw [hg.block _ (by have := h.lt; simp; omega) (own_ne_iter h.o1 h.it), Below.heap_alloc _ _ _ h.lt]
    exact h.it
  have h2 : w2.ownsRow B 21 1 v2 k2 (rnes s k2) := own_of h.o2 fun g hgv => by
    obtain ⟨hl, _, cur, hc⟩ := own_lt' h.o2 g hgv
    rw [hg.block _ (by simp; omega) (own_ne_blk h.o1 hc (by decide)), Below.heap_alloc _ _ _ hl]
  have hlt := h.lt
  exact ⟨hp.set_ 0 v', hq.of (Below.heap_setCell _ _ _ _ (by simp)), own_setCell ho (own_ne_blk ho hp (by decide)) _, own_setCell h2 (own_ne_blk h2 hp (by decide)) _, (Below.heap_setCell _ _ _ _ (show B + 1 + 1 ≠ B by omega)).trans hi,
    ((h.below.alloc (by omega) o).grown hg (by simp; omega) (fun k e => (own_lt' h.o1 k e).2.1)).setCell (Nat.le_refl _) _⟩
theorem RS.more2 {v' : Value} (h : RS s w B wr k1 k2 k3 v1 v2) (hg : (wr.alloc o).grownBy w2 v2.ownBlock) (ho : w2.ownsRow B 21 1 v' (k2 + 1) (rnes s (k2 + 1))) : RS s w B (w2.setCell ⟨B + 1, 0, none⟩ v') k1 (k2 + 1) k3 v1 v' := by
  have hq := h.cells2 hg
  have hp : Blk w2 B 75 #[v1] := (h.p.alloc o).of (hg.block _ (h.p.alloc o).lt (own_ne_blk h.o2 h.p (by decide)))
  have hi : w2.heap[B + 1 + 1]? = some (.stringIter s (bAt s k3)) := by
    rw [hg.block _ (by have := h.lt; simp; omega) (own_ne_iter h.o2 h.it), Below.heap_alloc _ _ _ h.lt]
    exact h.it
  have h1 : w2.ownsRow B 3 1 v1 k1 (plcs s k1) := own_of h.o1 fun g hgv => by
    obtain ⟨hl, _, cur, hc⟩ := own_lt' h.o1 g hgv
    rw [hg.block _ (by simp; omega) (own_ne_blk h.o2 hc (by decide)), Below.heap_alloc _ _ _ hl]
  have hlt := h.lt
  exact ⟨hp.of (Below.heap_setCell _ _ _ _ (by simp)), hq.set_ 0 v', own_setCell h1 (own_ne_blk h1 hq (by decide)) _, own_setCell ho (own_ne_blk ho hq (by decide)) _, (Below.heap_setCell _ _ _ _ (show B + 1 + 1 ≠ B + 1 by omega)).trans hi,
    ((h.below.alloc (by omega) o).grown hg (by simp; omega) (fun k e => (own_lt' h.o2 k e).2.1)).setCell (by simp) _⟩
end

def RowB (N : Nat) (W : World) (A : Option Addr) (n : Nat) (t : TypeId) (f : Nat → Value) : Prop := 0 < n → ∃ g cur, A = some ⟨g, 0, none⟩ ∧ g < N ∧ Blk W g t cur ∧ ∀ j, j < n → cur[j]? = some (f j)
theorem RowB.of {N : Nat} {W W' : World} {A : Option Addr} {n : Nat} {t : TypeId} {f : Nat → Value} (h : RowB N W A n t f) (hk : ∀ g cur, g < N → Blk W g t cur → Blk W' g t cur) : RowB N W' A n t f := fun hn => by
  obtain ⟨g, cur, e, hl, hb, hc⟩ := h hn
  exact ⟨g, cur, e, hl, hk g cur hl hb, hc⟩
theorem own_rowB {w : World} {base : Nat} {e : TypeId} {v : Value} {n : Nat} {xs : List Value} (h : w.ownsRow base e 1 v n xs) {f : Nat → Value} (hf : ∀ j, j < n → xs[j]? = some (f j)) : ∃ A c, v = .slice A n c ∧ RowB w.heap.size w A n e f := by
  rcases h.2 with ⟨rfl, rfl⟩ | ⟨g, cap, cur, rfl, hb, hg, hcap, hm, hsz, htake⟩
  · exact ⟨none, 0, rfl, fun hn => by omega⟩
  · refine ⟨_, _, rfl, fun hn => ⟨g, cur, rfl, (Array.getElem?_eq_some_iff.1 hg).1, hg, fun j hj => ?_⟩⟩
    rw [← hf j hj, ← htake, List.getElem?_take, if_pos (by omega)]
    simp
/-- between two rounds -/
structure RI (s : ByteArray) (w : World) (B N : Nat) (A1 : Option Addr) (c1 : Nat) (A2 : Option Addr) (c2 : Nat) (m : Int) (W : World) : Prop where
  str : Blk W w.heap.size 9 #[.string s]
  res : Blk W (w.heap.size + 1) 4 #[.bool false]
  p : Blk W B 75 #[.slice A1 (nS s) c1]
  q : Blk W (B + 1) 37 #[.slice A2 (nS s) c2]
  n : Blk W N 3 #[.int .i64 m]
  r1 : RowB N W A1 (nS s) 3 (fun j => .int .i64 (bAt s j : Int))
  r2 : RowB N W A2 (nS s) 21 (fun j => .int .i32 ((spA s j).r : Int))
  below : Below w.heap.size w W
  far : w.heap.size + 1 < B ∧ B + 1 < N
section
variable {s : ByteArray} {w : World} {B N : Nat} {A1 : Option Addr} {c1 : Nat} {A2 : Option Addr} {c2 : Nat} {m : Int} {W W' : World}
theorem RI.step (h : RI s w B N A1 c1 A2 c2 m W) (hb : Below W.heap.size W W') : RI s w B N A1 c1 A2 c2 m W' :=
  ⟨h.str.below hb, h.res.below hb, h.p.below hb, h.q.below hb, h.n.below hb, h.r1.of (fun g cur _ hB => hB.below hb), h.r2.of (fun g cur _ hB => hB.below hb), h.below.trans (hb.mono h.below.size), h.far⟩
theorem RI.own (s : ByteArray) (w : World) (B N : Nat) (A1 : Option Addr) (c1 : Nat) (A2 : Option Addr) (c2 : Nat) (B' : Nat) (hB : w.heap.size ≤ B') : OwnFrom B' (fun (pre : List (Fin (nS s))) W => RI s w B N A1 c1 A2 c2 (pre.length : Int) W) := by
  rintro pre W W' row h hg hr
  exact ⟨blk_own h.str hg hr, blk_own h.res hg hr, blk_own h.p hg hr, blk_own h.q hg hr, blk_own h.n hg hr, h.r1.of (fun g cur _ hB => blk_own hB hg hr), h.r2.of (fun g cur _ hB => blk_own hB hg hr), below_own h.below hg hr (Nat.le_refl _) hB, h.far⟩
theorem RI.bump (h : RI s w B N A1 c1 A2 c2 m W) (m' : Int) : RI s w B N A1 c1 A2 c2 m' (W.setCell ⟨N, 0, none⟩ (.int .i64 m')) := by
  obtain ⟨f1, f2⟩ := h.far
  exact ⟨h.str.of (Below.heap_setCell _ _ _ _ (show w.heap.size ≠ N by omega)), h.res.of (Below.heap_setCell _ _ _ _ (show w.heap.size + 1 ≠ N by omega)), h.p.of (Below.heap_setCell _ _ _ _ (show B ≠ N by omega)), h.q.of (Below.heap_setCell _ _ _ _ (show B + 1 ≠ N by omega)), h.n.set_ 0 _,
    h.r1.of (fun g cur hl hB => hB.of (Below.heap_setCell _ _ _ _ (show g ≠ N by omega))), h.r2.of (fun g cur hl hB => hB.of (Below.heap_setCell _ _ _ _ (show g ≠ N by omega))), h.below.setCell (show w.heap.size ≤ N by omega) _, h.far⟩
end
end Go.Proofs.YtkenffbonnbflaaDoor
