/- SpotsAll: what its walk holds on to. -/
import Derived.Test.YtkenffbonnbflaaDoorBadsI
import Derived.Test.YtkenffbonnbflaaDoorSpotsU
namespace Go.Proofs.YtkenffbonnbflaaDoor
open Go.RowKit Go.Shelf
set_option linter.unusedVariables false

theorem seq_ne_nil2 (f : Nat) (b : Nat) (W : World) : (binOp .eql 101 (.func (.func f) #[] #[.pointer (some ⟨b, 0, none⟩)]) .nilFunc).run Tryd.prog W = .ok (.bool false) W := by
  kernel_rfl
theorem seq_ne_nil3 (f : Nat) (b : Nat) (W : World) : (binOp .eql 104 (.func (.func f) #[] #[.pointer (some ⟨b, 0, none⟩)]) .nilFunc).run Tryd.prog W = .ok (.bool false) W := by
  kernel_rfl

structure RUA (s : ByteArray) (w : World) (T gb cb L : Nat) (A : Option Addr) (c : Nat) (st : Int) (R8 : Nat) (r : Int) (Ds : List Nat) (V : World) : Prop where
  sto : Blk V w.heap.size 3 #[.int .i64 st]
  res : Blk V (w.heap.size + 1) 4 #[.bool false]
  l : Blk V L 22 #[.slice A (nS s) c]
  b1 : Blk V (L + 1) 76 #[.pointer (some ⟨T, 0, none⟩)]
  b2 : Blk V (L + 1 + 1) 76 #[.pointer (some ⟨T, 0, none⟩)]
  b3 : Blk V (L + 1 + 1 + 1) 76 #[.pointer (some ⟨T, 0, none⟩)]
  t0 : V.cell? ⟨T, 0, none⟩ = some (.string s)
  t1 : V.cell? ⟨T, 1, none⟩ = some (.slice (some ⟨gb, 0, none⟩) (nS s + 1) cb)
  row : SpotsAre V A s
  below : Below w.heap.size w V
  rnd : Blk V R8 3 #[.int .i64 r]
  ds : ∀ D ∈ Ds, V.heap[D]? = some (.deferred (some []))
  nd : Ds.Nodup
  far : w.heap.size + 1 < L ∧ L + 1 + 1 + 1 < R8 ∧ ∀ D ∈ Ds, w.heap.size + 1 < D
section
variable {s : ByteArray} {w : World} {T gb cb L : Nat} {A : Option Addr} {c : Nat} {st : Int} {R8 : Nat} {r : Int} {Ds : List Nat}
theorem RUA.step {V V' : World} (h : RUA s w T gb cb L A c st R8 r Ds V) (hb : Below V.heap.size V V') : RUA s w T gb cb L A c st R8 r Ds V' :=
  ⟨h.sto.below hb, h.res.below hb, h.l.below hb, h.b1.below hb, h.b2.below hb, h.b3.below hb, (hb.cell (p := ⟨T, 0, none⟩) (lt_of_cell h.t0)).trans h.t0, (hb.cell (p := ⟨T, 1, none⟩) (lt_of_cell h.t1)).trans h.t1, h.row.below hb, h.below.trans (hb.mono h.below.size), h.rnd.below hb, fun D hD => (hb.block D (Array.getElem?_eq_some_iff.1 (h.ds D hD)).1).trans (h.ds D hD), h.nd, h.far⟩
theorem RUA.next {W V : World} (h : RUA s w T gb cb L A c st R8 r Ds W) (hb : Below W.heap.size W V) {D D2 D3 : Nat}
    (hD : V.heap[D]? = some (.deferred (some []))) (hD2 : V.heap[D2]? = some (.deferred (some []))) (hD3 : V.heap[D3]? = some (.deferred (some []))) (h1 : W.heap.size ≤ D) (h2 : D < D2) (h3 : D2 < D3) (r' : Int) : RUA s w T gb cb L A c st V.heap.size r' (D3 :: D2 :: D :: Ds) (V.alloc (.cells #[.int .i64 r'] 3)) := by
  have hV := (h.step hb).step ((Below.refl _ V).alloc (Nat.le_refl _) (.cells #[.int .i64 r'] 3))
  have hlt : ∀ E ∈ Ds, E < W.heap.size := fun E hE => (Array.getElem?_eq_some_iff.1 (h.ds E hE)).1
  have hsz := hb.size
  have hr := h.rnd.lt
  have hw := h.below.size
  have lD := (Array.getElem?_eq_some_iff.1 hD).1
  have lD2 := (Array.getElem?_eq_some_iff.1 hD2).1
  have lD3 := (Array.getElem?_eq_some_iff.1 hD3).1
  have hres := h.res.lt
  obtain ⟨f1, f2, f3⟩ := h.far
  refine ⟨hV.sto, hV.res, hV.l, hV.b1, hV.b2, hV.b3, hV.t0, hV.t1, hV.row, hV.below, Blk.new V _ _, fun E hE => ?_, ?_, f1, by omega, fun E hE => ?_⟩
  · rcases List.mem_cons.1 hE with rfl | hE
    · exact (Below.heap_alloc _ _ _ lD3).trans hD3
    rcases List.mem_cons.1 hE with rfl | hE
    · exact (Below.heap_alloc _ _ _ lD2).trans hD2
    rcases List.mem_cons.1 hE with rfl | hE
    · exact (Below.heap_alloc _ _ _ lD).trans hD
    · exact hV.ds E hE
  · rw [List.nodup_cons, List.nodup_cons, List.nodup_cons]
    refine ⟨fun hm => ?_, fun hm => ?_, fun hm => ?_, h.nd⟩
    · rcases List.mem_cons.1 hm with e | hm
      · omega
      rcases List.mem_cons.1 hm with e | hm
      · omega
      · have := hlt _ hm; omega
    · rcases List.mem_cons.1 hm with e | hm
      · omega
      · have := hlt _ hm; omega
    · have := hlt _ hm; omega
  · rcases List.mem_cons.1 hE with rfl | hE
    · omega
    rcases List.mem_cons.1 hE with rfl | hE
    · omega
    rcases List.mem_cons.1 hE with rfl | hE
    · omega
    · exact f3 E hE
theorem RUA.first {W1 W3 : World} {gl cl : Nat} {stop : Int} (hTx : TextIs W1 T s gb cb gl cl) (hA : SpotsAre W1 A s) (b0 : Blk W1 w.heap.size 3 #[.int .i64 stop]) (b1 : Blk W1 (w.heap.size + 1) 4 #[.bool false]) (hB1 : Below w.heap.size w W1) (h13 : Below W1.heap.size W1 W3)
    (b2 : Blk W3 W1.heap.size 22 #[.slice A (nS s) c]) (b3 : Blk W3 (W1.heap.size + 1) 76 #[.pointer (some ⟨T, 0, none⟩)]) (b4 : Blk W3 (W1.heap.size + 1 + 1) 76 #[.pointer (some ⟨T, 0, none⟩)]) (b5 : Blk W3 (W1.heap.size + 1 + 1 + 1) 76 #[.pointer (some ⟨T, 0, none⟩)]) (st : Int) :
    RUA s w T gb cb W1.heap.size A c st W3.heap.size ((0 : Nat) : Int) [] ((W3.setCell ⟨w.heap.size, 0, none⟩ (.int .i64 st)).alloc (.cells #[.int .i64 0] 3)) := by
  have hsz : (W3.setCell ⟨w.heap.size, 0, none⟩ (.int .i64 st)).heap.size = W3.heap.size := by simp [World.setCell]
  have c0 := b0.below h13
  have c1 := b1.below h13
  have hl0 := b1.lt
  have l5 := b5.lt
  have h3 := h13.size
  have hB3 := hB1.trans (h13.mono hB1.size)
  have hne : ∀ k, w.heap.size < k → (W3.setCell ⟨w.heap.size, 0, none⟩ (.int .i64 st)).heap[k]? = W3.heap[k]? := fun k hk => Below.heap_setCell _ _ _ _ (show k ≠ w.heap.size by omega)
  have hTx3 := hTx.below h13
  have hTne : T ≠ w.heap.size := by
    rintro rfl
    have e0 := hTx3.c0
    rw [c0.cell 0] at e0
    simp at e0
  have hT : ∀ i, ((W3.setCell ⟨w.heap.size, 0, none⟩ (.int .i64 st)).alloc (.cells #[.int .i64 0] 3)).cell? ⟨T, i, none⟩ = W3.cell? ⟨T, i, none⟩ := fun i => by
    rw [World.cell?_alloc_lt _ _ _ (by rw [hsz]; exact hTx3.tT)]
    exact World.cell?_of_block (Below.heap_setCell _ _ _ _ hTne)
  refine ⟨(c0.set_ 0 _).alloc _, (c1.of (hne _ (by omega))).alloc _, (b2.of (hne _ (by omega))).alloc _, (b3.of (hne _ (by omega))).alloc _, (b4.of (hne _ (by omega))).alloc _, (b5.of (hne _ (by omega))).alloc _, (hT 0).trans hTx3.c0, (hT 1).trans hTx3.c1, ?_, (hB3.setCell (Nat.le_refl _) _).alloc (by rw [hsz]; omega) _, ?_, fun D hD => by simp at hD, List.nodup_nil, by omega, by omega, fun D hD => by simp at hD⟩
  · intro hn
    obtain ⟨g', eg', hg', hc'⟩ := (hA.below h13) hn
    refine ⟨g', eg', by rw [World.size_alloc, hsz]; omega, fun k hk => ?_⟩
    rw [World.cell?_alloc_lt _ _ _ (by rw [hsz]; exact hg')]
    have hgw : g' ≠ w.heap.size := by
      rintro rfl
      have e0 := hc' 0 (by omega)
      rw [c0.cell 0] at e0
      have hx := spA_get s 0 hn
      have hz := sptsCells_get (sp s) 0 0 _ hx (by omega)
      rw [show 0 * 4 + 0 = 0 by rfl] at hz
      rw [hz] at e0
      simp [sptCells] at e0
    rw [← hc' k hk]
    exact World.cell?_of_block (Below.heap_setCell _ _ _ _ hgw)
  · have h := Blk.new (W3.setCell ⟨w.heap.size, 0, none⟩ (.int .i64 st)) 3 #[.int .i64 0]
    rw [hsz] at h
    exact h
end
/-- the number behind the last one that came -/
def nxt {n : Nat} (pre : List (Fin n)) : Nat := (pre.getLast?.map fun i => i.val + 1).getD 0
theorem nxt_nil {n : Nat} : nxt ([] : List (Fin n)) = 0 := rfl
theorem nxt_snoc {n : Nat} (pre : List (Fin n)) (x : Fin n) : nxt (pre ++ [x]) = x.val + 1 := by simp [nxt]
theorem nxt_le {n : Nat} (pre : List (Fin n)) : nxt pre ≤ n := by
  unfold nxt
  cases h : pre.getLast? with
  | none => simp
  | some i => simp; omega
theorem firstK_mem {s : ByteArray} {k : Nat} {i : Fin (nS s)} (h : i ∈ firstK s k) : i.val < k := by
  unfold firstK at h
  rw [List.mem_take_iff_getElem] at h
  obtain ⟨j, hj, rfl⟩ := h
  simp at hj ⊢
  omega
/-- behind the last bad one that came there is none among the first -/
theorem bads_gap (s : ByteArray) : ∀ (k : Nat), k ≤ nS s → ∀ i, nxt (bads s (firstK s k)) ≤ i → i < k → (spA s i).bad = false
  | 0, _, i, _, h => by omega
  | k + 1, hk, i, h1, h2 => by
    have hs := firstK_succ s k hk
    rw [← hs] at h1
    cases hb : (spA s k).bad with
    | true =>
      rw [bads_yes (x := ⟨k, hk⟩) hb, nxt_snoc] at h1
      dsimp only at h1
      omega
    | false =>
      rw [bads_no (x := ⟨k, hk⟩) hb] at h1
      by_cases hi : i = k
      · rw [hi]; exact hb
      · exact bads_gap s k (by omega) i h1 (by omega)
theorem bads_next {s : ByteArray} {k : Nat} {pre : List (Fin (nS s))} {x : Fin (nS s)} (hk : k ≤ nS s) (h : pre ++ [x] = bads s (firstK s k)) :
    (spA s x.val).bad = true ∧ nxt pre ≤ x.val ∧ ∀ i, nxt pre ≤ i → i < x.val → (spA s i).bad = false := by
  induction k with
  | zero => simp [firstK, bads] at h
  | succ k ih =>
    rw [← firstK_succ s k hk] at h
    cases hb : (spA s k).bad with
    | true =>
      rw [bads_yes (x := ⟨k, hk⟩) hb] at h
      have h2 := List.append_inj' h rfl
      obtain ⟨rfl, h3⟩ := h2
      simp only [List.cons.injEq, and_true] at h3
      subst h3
      refine ⟨hb, ?_, fun i h1 h2 => bads_gap s k (by omega) i h1 h2⟩
      unfold nxt
      cases hl : (bads s (firstK s k)).getLast? with
      | none => simp
      | some i =>
        have hm : i ∈ bads s (firstK s k) := List.mem_of_getLast? hl
        unfold bads at hm
        have := firstK_mem (List.mem_filter.1 hm).1
        simp
        omega
    | false =>
      rw [bads_no (x := ⟨k, hk⟩) hb] at h
      exact ih (by omega) h
end Go.Proofs.YtkenffbonnbflaaDoor
