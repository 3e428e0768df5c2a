/- tables.copied: a table in new memory. (Printed by gen_copied.py.) -/
import Derived.Test.YtjmkdimbbacnfaaGreatDoorGTabU
import Derived.Deep.RegionHeld3
namespace Go.Proofs.YtjmkdimbbacnfaaGreatDoor
open Go.RowKit
set_option linter.unusedVariables false
theorem ListAt.cap {w : World} {A : Option Addr} {n c k : Nat} {L : List (List Value)} (h : ListAt w (.slice A n c) k L) (c' : Nat) : ListAt w (.slice A n c') k L := by
  obtain ⟨A', d, e, h1, h2⟩ := h
  cases e
  exact ⟨A, c', rfl, h1, h2⟩
theorem ListAt.len {w : World} {A : Option Addr} {n c k : Nat} {L : List (List Value)} (h : ListAt w (.slice A n c) k L) : n = L.length ∧ L.length ≤ 2097152 := by
  obtain ⟨A', d, e, h1, h2⟩ := h
  cases e
  exact ⟨rfl, h1⟩
/-- a list of spans that does not lie in block g -/
def SpAt (w : World) (g : Nat) (P : Nat → Prop) (v : Value) (L : List SpanT) : Prop := ListAt w v 2 (L.map encSpan) ∧ ∀ a n c, v = .slice (some a) n c → 0 < L.length → a.block ≠ g ∧ ¬ P a.block
/-- the scripts' copy -/
structure CpAt (w : World) (g : Nat) (P : Nat → Prop) (l : List ScrT) (cur : Array Value) : Prop where
  blk : Blk w g 59 cur
  elem : ∀ (k : Nat) x, l[k]? = some x → cur[k * 2]? = some (.string x.name) ∧ ∃ v, cur[k * 2 + 1]? = some v ∧ SpAt w g P v x.spans
section
variable {w wr w2 : World} {g : Nat} {P : Nat → Prop} {l : List ScrT} {cur : Array Value}
theorem SpAt.below {v : Value} {L : List SpanT} (h : SpAt w g P v L) (hb : Below w.heap.size w w2) : SpAt w2 g P v L := ⟨h.1.below hb, h.2⟩
theorem CpAt.below (h : CpAt w g P l cur) (hb : Below w.heap.size w w2) : CpAt w2 g P l cur :=
  ⟨h.blk.below hb, fun k x hx => by
    obtain ⟨h1, v, h2, h3⟩ := h.elem k x hx
    exact ⟨h1, v, h2, h3.below hb⟩⟩
theorem SpAt.put {v u : Value} {L : List SpanT} {j : Nat} (h : SpAt w g P v L) : SpAt (w.setCell ⟨g, j, none⟩ u) g P v L := by
  obtain ⟨⟨A, c, rfl, hm, hc⟩, hne⟩ := h
  refine ⟨⟨A, c, rfl, hm, fun hp => ?_⟩, hne⟩
  obtain ⟨a, rfl, hlt, hcc⟩ := hc hp
  have hg : a.block ≠ g := And.left <| hne a _ _ rfl (by rwa [List.length_map] at hp)
  refine ⟨a, rfl, by simpa [World.setCell] using hlt, fun i x j' u' hi hj => ?_⟩
  rw [World.cell?_of_block (w := w) (Below.heap_setCell _ _ _ _ (show (a.add (i * 2 + j')).block ≠ g by rw [addr_block']; exact hg))]
  exact hcc i x j' u' hi hj
theorem CpAt.put (h : CpAt w g P l cur) {k : Nat} {x : ScrT} (hx : l[k]? = some x) {v : Value} (hv : SpAt w g P v x.spans) : CpAt (w.setCell ⟨g, k * 2 + 1, none⟩ v) g P l (cur.setIfInBounds (k * 2 + 1) v) := by
  have hlt : k * 2 + 1 < cur.size := by
    obtain ⟨_, u, h2, _⟩ := h.elem k x hx
    exact (Array.getElem?_eq_some_iff.1 h2).1
  refine ⟨h.blk.set_ _ _, fun i y hy => ?_⟩
  obtain ⟨h1, u, h2, h3⟩ := h.elem i y hy
  rw [Array.getElem?_setIfInBounds_ne (by omega)]
  refine ⟨h1, ?_⟩
  by_cases e : i = k
  · subst e
    rw [hx] at hy
    cases hy
    exact ⟨v, by rw [Array.getElem?_setIfInBounds_self_of_lt hlt], hv.put⟩
  · exact ⟨u, by rw [Array.getElem?_setIfInBounds_ne (by omega)]; exact h2, h3.put⟩
end
/-- the copy of the scripts, whatever their number; behind block B -/
def ScrOk (w : World) (B : Nat) (P : Nat → Prop) (A : Option Addr) (l : List ScrT) : Prop := 0 < l.length → ∃ g cur, A = some ⟨g, 0, none⟩ ∧ B ≤ g ∧ CpAt w g P l cur
theorem ListAt.agree {w W : World} {A : Option Addr} {n c k : Nat} {L : List (List Value)} {X : Nat → Prop} (h : ListAt w (.slice A n c) k L) (hw : ∀ i, ¬ X i → W.heap[i]? = w.heap[i]?) (hz : w.heap.size ≤ W.heap.size) (hne : ∀ a, A = some a → 0 < L.length → ¬ X a.block) : ListAt W (.slice A n c) k L := by
  obtain ⟨A', c', e, hm, hc⟩ := h
  cases e
  refine ⟨A, c, rfl, hm, fun hp => ?_⟩
  obtain ⟨a, rfl, hlt, hcc⟩ := hc hp
  refine ⟨a, rfl, by omega, fun i x j u hi hj => ?_⟩
  rw [World.cell?_of_block (w := w) (hw _ (by rw [addr_block']; exact hne a rfl hp))]
  exact hcc i x j u hi hj
theorem SpAt.agree {w W : World} {g : Nat} {P X : Nat → Prop} {v : Value} {L : List SpanT} (h : SpAt w g P v L) (hw : ∀ i, ¬ X i → W.heap[i]? = w.heap[i]?) (hz : w.heap.size ≤ W.heap.size) (hx : ∀ i, X i → P i) : SpAt W g P v L := by
  obtain ⟨hl, hne⟩ := h
  obtain ⟨A, c, rfl, -⟩ := id hl
  exact ⟨hl.agree hw hz (fun a e hp hX => (hne a _ _ (by rw [e]) (by rwa [List.length_map] at hp)).2 (hx _ hX)), hne⟩
theorem ScrOk.agree {w W : World} {B : Nat} {P X : Nat → Prop} {A : Option Addr} {l : List ScrT} (h : ScrOk w B P A l) (hw : ∀ i, ¬ X i → W.heap[i]? = w.heap[i]?) (hz : w.heap.size ≤ W.heap.size) (hx : ∀ i, X i → P i) (hB : ∀ i, X i → i < B) : ScrOk W B P A l := fun hp => by
  obtain ⟨g, cur, e, hg, hc⟩ := h hp
  refine ⟨g, cur, e, hg, hc.blk.of (hw _ (fun hX => by have := hB _ hX; omega)), fun k x hx9 => ?_⟩
  obtain ⟨h1, v, h2, h3⟩ := hc.elem k x hx9
  exact ⟨h1, v, h2, h3.agree hw hz hx⟩
theorem ScrOk.below {w w2 : World} {B : Nat} {P : Nat → Prop} {A : Option Addr} {l : List ScrT} (h : ScrOk w B P A l) (hb : Below w.heap.size w w2) : ScrOk w2 B P A l := fun hp => by
  obtain ⟨g, cur, e, hg, hc⟩ := h hp
  exact ⟨g, cur, e, hg, hc.below hb⟩
/-- a copied list: not in block r -/
def CopyAt (w : World) (r : Nat) (A : Option Addr) (k : Nat) (L : List (List Value)) : Prop := ListAt w (.slice A L.length L.length) k L ∧ (0 < L.length → ∃ g, A = some ⟨g, 0, none⟩ ∧ r < g)
theorem CopyAt.below {w w2 : World} {r k : Nat} {A : Option Addr} {L : List (List Value)} (h : CopyAt w r A k L) (hb : Below w.heap.size w w2) : CopyAt w2 r A k L := ⟨h.1.below hb, h.2⟩
theorem CopyAt.agree {w W : World} {r k : Nat} {A : Option Addr} {L : List (List Value)} {X : Nat → Prop} (h : CopyAt w r A k L) (hw : ∀ i, ¬ X i → W.heap[i]? = w.heap[i]?) (hz : w.heap.size ≤ W.heap.size) (hx : ∀ i, X i → i ≤ r) : CopyAt W r A k L :=
  ⟨h.1.agree hw hz (fun a e hp hX => by
    obtain ⟨g, e', hg⟩ := h.2 hp
    cases e.symm.trans e'
    have := hx _ hX
    simp only at this
    omega), h.2⟩
theorem addr_at0 (g j : Nat) : (⟨g, 0, none⟩ : Addr).add j = ⟨g, j, none⟩ := by
  unfold Addr.add
  by_cases h : j = 0
  · subst h; rfl
  · rw [if_neg h]; simp
theorem ScrOk.scripts {w : World} {B n c : Nat} {P : Nat → Prop} {A : Option Addr} {l : List ScrT} (h : ScrOk w B P A l) (hn : l.length = n) (hm : n ≤ 2097152) :
    ∃ scs : List Value, scs.length = l.length ∧ ListAt w (.slice A n c) 2 ((l.zip scs).map fun p => [Value.string p.1.name, p.2]) ∧ ∀ (i : Nat) x v, l[i]? = some x → scs[i]? = some v → ListAt w v 2 (x.spans.map encSpan) := by
  by_cases h0 : 0 < l.length
  · obtain ⟨g, cur, rfl, hB, hc⟩ := h h0
    refine ⟨(List.range l.length).map fun k => (cur[k * 2 + 1]?).getD undef, by simp, ⟨some ⟨g, 0, none⟩, c, ?_, ?_, fun _ => ⟨⟨g, 0, none⟩, rfl, hc.blk.lt, fun i x j u hi hj => ?_⟩⟩, fun i x v hx hv => ?_⟩
    · rw [List.length_map, List.length_zip]; simp [hn]
    · rw [List.length_map, List.length_zip]; simp [hn]; exact hm
    · rw [List.getElem?_map] at hi
      cases hz : (l.zip ((List.range l.length).map fun k => (cur[k * 2 + 1]?).getD undef))[i]? with
      | none => rw [hz] at hi; cases hi
      | some p =>
        rw [hz] at hi
        cases hi
        obtain ⟨z1, z2⟩ := List.getElem?_zip_eq_some.1 hz
        obtain ⟨h1, v, h2, h3⟩ := hc.elem i p.1 z1
        have hil := (List.getElem?_eq_some_iff.1 z1).1
        rw [List.getElem?_map, List.getElem?_range hil] at z2
        simp only [Option.map_some, Option.some.injEq, h2, Option.getD_some] at z2
        rw [addr_at0, hc.blk.cell]
        match j, hj with
        | 0, hj => simp at hj; subst hj; rw [Nat.add_zero]; exact h1
        | 1, hj => simp at hj; subst hj; rw [h2, z2]
        | j + 2, hj => simp at hj
    · have hil := (List.getElem?_eq_some_iff.1 hx).1
      rw [List.getElem?_map, List.getElem?_range hil] at hv
      obtain ⟨h1, u, h2, h3⟩ := hc.elem i x hx
      simp only [Option.map_some, Option.some.injEq, h2, Option.getD_some] at hv
      subst hv
      exact h3.1
  · have hl : l = [] := List.length_eq_zero_iff.1 (by omega)
    subst hl
    subst hn
    exact ⟨[], rfl, ⟨A, c, rfl, by simp, fun h => absurd h (by simp)⟩, fun i x v hx => by simp at hx⟩
theorem rows_span (l : List SpanT) : Rows 2 (l.map encSpan) := fun x hx => by
  obtain ⟨m, _, rfl⟩ := List.mem_map.1 hx
  exact ⟨rfl, fun u hu => by unfold encSpan at hu; rcases List.mem_cons.1 hu with rfl | hu; rfl; rcases List.mem_cons.1 hu with rfl | hu; rfl; cases hu⟩
theorem rows_mark (l : List MarkT) : Rows 2 (l.map encMark) := fun x hx => by
  obtain ⟨m, _, rfl⟩ := List.mem_map.1 hx
  exact ⟨rfl, fun u hu => by unfold encMark at hu; rcases List.mem_cons.1 hu with rfl | hu; rfl; rcases List.mem_cons.1 hu with rfl | hu; rfl; cases hu⟩
theorem rows_pair (l : List PairT) : Rows 3 (l.map encPair) := fun x hx => by
  obtain ⟨m, _, rfl⟩ := List.mem_map.1 hx
  exact ⟨rfl, fun u hu => by unfold encPair at hu; rcases List.mem_cons.1 hu with rfl | hu; rfl; rcases List.mem_cons.1 hu with rfl | hu; rfl; rcases List.mem_cons.1 hu with rfl | hu; rfl; cases hu⟩
theorem rows_map (l : List MapT) : Rows 2 (l.map encMap) := fun x hx => by
  obtain ⟨m, _, rfl⟩ := List.mem_map.1 hx
  exact ⟨rfl, fun u hu => by unfold encMap at hu; rcases List.mem_cons.1 hu with rfl | hu; rfl; rcases List.mem_cons.1 hu with rfl | hu; rfl; cases hu⟩
theorem CopyAt.mk' {w : World} {r k c n : Nat} {A : Option Addr} {L : List (List Value)} (h : ListAt w (.slice A n c) k L) (hn : L.length = n) (hg : 0 < L.length → ∃ g, A = some ⟨g, 0, none⟩ ∧ r < g) : CopyAt w r A k L :=
  ⟨by rw [hn]; exact h.cap _, hg⟩
theorem copy_span {w wc : World} {v : Value} {l : List SpanT} {n : Nat} (h : ListAt w v 2 (l.map encSpan)) (hb : Below w.heap.size w wc) (hn : (l.map encSpan).length = n) (r : Nat) (hr : r < w.heap.size) :
    Calls Tryz.prog 69 #[v] wc fun e w' => ∃ A c, e = .returned (.slice A n c) ∧ n ≤ c ∧ n ≤ 2097152 ∧ CopyAt w' r A 2 (l.map encSpan) ∧ Below wc.heap.size wc w' ∧ Below w.heap.size w w' := by
  refine (clone_span (h.below hb) (rows_span l)).mono (fun e w' h9 => ?_)
  obtain ⟨A, c, rfl, hle, hL, hg, hB⟩ := h9
  have hm := hL.len.2
  rw [hn] at hle hL hm
  refine ⟨A, c, by rw [hn], hle, hm, CopyAt.mk' hL hn (fun hp => ?_), hB, below_trans hb hB⟩
  obtain ⟨g, cur, e, hge, hblk⟩ := hg hp
  have := hb.size
  exact ⟨g, e, by omega⟩
theorem copy_mark {w wc : World} {v : Value} {l : List MarkT} {n : Nat} (h : ListAt w v 2 (l.map encMark)) (hb : Below w.heap.size w wc) (hn : (l.map encMark).length = n) (r : Nat) (hr : r < w.heap.size) :
    Calls Tryz.prog 71 #[v] wc fun e w' => ∃ A c, e = .returned (.slice A n c) ∧ n ≤ c ∧ n ≤ 2097152 ∧ CopyAt w' r A 2 (l.map encMark) ∧ Below wc.heap.size wc w' ∧ Below w.heap.size w w' := by
  refine (clone_mark (h.below hb) (rows_mark l)).mono (fun e w' h9 => ?_)
  obtain ⟨A, c, rfl, hle, hL, hg, hB⟩ := h9
  have hm := hL.len.2
  rw [hn] at hle hL hm
  refine ⟨A, c, by rw [hn], hle, hm, CopyAt.mk' hL hn (fun hp => ?_), hB, below_trans hb hB⟩
  obtain ⟨g, cur, e, hge, hblk⟩ := hg hp
  have := hb.size
  exact ⟨g, e, by omega⟩
theorem copy_pair {w wc : World} {v : Value} {l : List PairT} {n : Nat} (h : ListAt w v 3 (l.map encPair)) (hb : Below w.heap.size w wc) (hn : (l.map encPair).length = n) (r : Nat) (hr : r < w.heap.size) :
    Calls Tryz.prog 73 #[v] wc fun e w' => ∃ A c, e = .returned (.slice A n c) ∧ n ≤ c ∧ n ≤ 2097152 ∧ CopyAt w' r A 3 (l.map encPair) ∧ Below wc.heap.size wc w' ∧ Below w.heap.size w w' := by
  refine (clone_pair (h.below hb) (rows_pair l)).mono (fun e w' h9 => ?_)
  obtain ⟨A, c, rfl, hle, hL, hg, hB⟩ := h9
  have hm := hL.len.2
  rw [hn] at hle hL hm
  refine ⟨A, c, by rw [hn], hle, hm, CopyAt.mk' hL hn (fun hp => ?_), hB, below_trans hb hB⟩
  obtain ⟨g, cur, e, hge, hblk⟩ := hg hp
  have := hb.size
  exact ⟨g, e, by omega⟩
theorem copy_map {w wc : World} {v : Value} {l : List MapT} {n : Nat} (h : ListAt w v 2 (l.map encMap)) (hb : Below w.heap.size w wc) (hn : (l.map encMap).length = n) (r : Nat) (hr : r < w.heap.size) :
    Calls Tryz.prog 75 #[v] wc fun e w' => ∃ A c, e = .returned (.slice A n c) ∧ n ≤ c ∧ n ≤ 2097152 ∧ CopyAt w' r A 2 (l.map encMap) ∧ Below wc.heap.size wc w' ∧ Below w.heap.size w w' := by
  refine (clone_map (h.below hb) (rows_map l)).mono (fun e w' h9 => ?_)
  obtain ⟨A, c, rfl, hle, hL, hg, hB⟩ := h9
  have hm := hL.len.2
  rw [hn] at hle hL hm
  refine ⟨A, c, by rw [hn], hle, hm, CopyAt.mk' hL hn (fun hp => ?_), hB, below_trans hb hB⟩
  obtain ⟨g, cur, e, hge, hblk⟩ := hg hp
  have := hb.size
  exact ⟨g, e, by omega⟩
/-- the result cell is written; the copy outlives a change of block x, too -/
theorem copied_put {w W : World} {r k x : Nat} {A A1 A2 A3 A4 A5 A6 A7 : Option Addr} {n1 n2 n3 n4 n5 n6 n7 : Nat} {T : Tab} {ty : TypeId} {z0 z1 z2 z3 z4 z5 z6 z7 : Value} (hb : Below w.heap.size w W) (hr : r = w.heap.size + 1) (hx : x < w.heap.size)
    (hres : Blk W r ty #[z0, z1, z2, z3, z4, z5, z6, z7]) (hs : ScrOk W (w.heap.size + 2) (fun i => i = r ∨ i = x) A T.scripts) (hk : T.scripts.length = k) (hm : k ≤ 2097152)
    (h1 : CopyAt W r A1 2 (T.common.map encSpan)) (e1 : (T.common.map encSpan).length = n1) (h2 : CopyAt W r A2 2 (T.marks.map encMark)) (e2 : (T.marks.map encMark).length = n2) (h3 : CopyAt W r A3 3 (T.pairs.map encPair)) (e3 : (T.pairs.map encPair).length = n3) (h4 : CopyAt W r A4 2 (T.folds.map encMap)) (e4 : (T.folds.map encMap).length = n4) (h5 : CopyAt W r A5 2 (T.looks.map encMap)) (e5 : (T.looks.map encMap).length = n5) (h6 : CopyAt W r A6 2 (T.drops.map encSpan)) (e6 : (T.drops.map encSpan).length = n6) (h7 : CopyAt W r A7 2 (T.allowed.map encSpan)) (e7 : (T.allowed.map encSpan).length = n7) :
    ∃ W', W' = ((((((((W.setCell ⟨r, 0, none⟩ (.slice A k k)).setCell ⟨r, 1, none⟩ (.slice A1 n1 n1)).setCell ⟨r, 2, none⟩ (.slice A2 n2 n2)).setCell ⟨r, 3, none⟩ (.slice A3 n3 n3)).setCell ⟨r, 4, none⟩ (.slice A4 n4 n4)).setCell ⟨r, 5, none⟩ (.slice A5 n5 n5)).setCell ⟨r, 6, none⟩ (.slice A6 n6 n6)).setCell ⟨r, 7, none⟩ (.slice A7 n7 n7)) ∧ (∀ X : World, (∀ i, i ≠ x → X.heap[i]? = W'.heap[i]?) → W'.heap.size ≤ X.heap.size → TabAt X (.slice A k k) (.slice A1 n1 n1) (.slice A2 n2 n2) (.slice A3 n3 n3) (.slice A4 n4 n4) (.slice A5 n5 n5) (.slice A6 n6 n6) (.slice A7 n7 n7) T) ∧ Blk W' r ty #[(.slice A k k), (.slice A1 n1 n1), (.slice A2 n2 n2), (.slice A3 n3 n3), (.slice A4 n4 n4), (.slice A5 n5 n5), (.slice A6 n6 n6), (.slice A7 n7 n7)] ∧ Below w.heap.size w W' := by
  have hbl := ((((((((hres.set_ 0 (.slice A k k)).set_ 1 (.slice A1 n1 n1)).set_ 2 (.slice A2 n2 n2)).set_ 3 (.slice A3 n3 n3)).set_ 4 (.slice A4 n4 n4)).set_ 5 (.slice A5 n5 n5)).set_ 6 (.slice A6 n6 n6)).set_ 7 (.slice A7 n7 n7))
  have hbb : Below w.heap.size w ((((((((W.setCell ⟨r, 0, none⟩ (.slice A k k)).setCell ⟨r, 1, none⟩ (.slice A1 n1 n1)).setCell ⟨r, 2, none⟩ (.slice A2 n2 n2)).setCell ⟨r, 3, none⟩ (.slice A3 n3 n3)).setCell ⟨r, 4, none⟩ (.slice A4 n4 n4)).setCell ⟨r, 5, none⟩ (.slice A5 n5 n5)).setCell ⟨r, 6, none⟩ (.slice A6 n6 n6)).setCell ⟨r, 7, none⟩ (.slice A7 n7 n7)) := ((((((((hb.setCell (by subst hr; simp) _).setCell (by subst hr; simp) _).setCell (by subst hr; simp) _).setCell (by subst hr; simp) _).setCell (by subst hr; simp) _).setCell (by subst hr; simp) _).setCell (by subst hr; simp) _).setCell (by subst hr; simp) _)
  have hag : ∀ i, i ≠ r → ((((((((W.setCell ⟨r, 0, none⟩ (.slice A k k)).setCell ⟨r, 1, none⟩ (.slice A1 n1 n1)).setCell ⟨r, 2, none⟩ (.slice A2 n2 n2)).setCell ⟨r, 3, none⟩ (.slice A3 n3 n3)).setCell ⟨r, 4, none⟩ (.slice A4 n4 n4)).setCell ⟨r, 5, none⟩ (.slice A5 n5 n5)).setCell ⟨r, 6, none⟩ (.slice A6 n6 n6)).setCell ⟨r, 7, none⟩ (.slice A7 n7 n7)).heap[i]? = W.heap[i]? := fun i hi => by
    rw [Below.heap_setCell _ _ _ _ hi, Below.heap_setCell _ _ _ _ hi, Below.heap_setCell _ _ _ _ hi, Below.heap_setCell _ _ _ _ hi, Below.heap_setCell _ _ _ _ hi, Below.heap_setCell _ _ _ _ hi, Below.heap_setCell _ _ _ _ hi, Below.heap_setCell _ _ _ _ hi]
  have hsz : ((((((((W.setCell ⟨r, 0, none⟩ (.slice A k k)).setCell ⟨r, 1, none⟩ (.slice A1 n1 n1)).setCell ⟨r, 2, none⟩ (.slice A2 n2 n2)).setCell ⟨r, 3, none⟩ (.slice A3 n3 n3)).setCell ⟨r, 4, none⟩ (.slice A4 n4 n4)).setCell ⟨r, 5, none⟩ (.slice A5 n5 n5)).setCell ⟨r, 6, none⟩ (.slice A6 n6 n6)).setCell ⟨r, 7, none⟩ (.slice A7 n7 n7)).heap.size = W.heap.size := by simp [World.setCell]
  obtain ⟨W', hW'⟩ : ∃ W', W' = ((((((((W.setCell ⟨r, 0, none⟩ (.slice A k k)).setCell ⟨r, 1, none⟩ (.slice A1 n1 n1)).setCell ⟨r, 2, none⟩ (.slice A2 n2 n2)).setCell ⟨r, 3, none⟩ (.slice A3 n3 n3)).setCell ⟨r, 4, none⟩ (.slice A4 n4 n4)).setCell ⟨r, 5, none⟩ (.slice A5 n5 n5)).setCell ⟨r, 6, none⟩ (.slice A6 n6 n6)).setCell ⟨r, 7, none⟩ (.slice A7 n7 n7)) := ⟨_, rfl⟩
  rw [← hW'] at hbl hbb hag hsz
  refine ⟨W', hW', fun X hX hXs => ?_, by simpa using hbl, hbb⟩
  have hw : ∀ i, ¬ (i = r ∨ i = x) → X.heap[i]? = W.heap[i]? := fun i hi => (hX i (fun e => hi (Or.inr e))).trans (hag i (fun e => hi (Or.inl e)))
  have hz : W.heap.size ≤ X.heap.size := by omega
  have hle : ∀ i, (i = r ∨ i = x) → i ≤ r := fun i hi => by rcases hi with h | h <;> omega
  refine ⟨?_, ?_, ?_, ?_, ?_, ?_, ?_, ?_⟩
  · exact ScrOk.scripts (hs.agree hw hz (fun i h => h) (fun i hi => by rcases hi with h | h <;> omega)) hk hm
  · have h := (h1.agree hw hz hle).1
    rw [e1] at h
    exact h
  · have h := (h2.agree hw hz hle).1
    rw [e2] at h
    exact h
  · have h := (h3.agree hw hz hle).1
    rw [e3] at h
    exact h
  · have h := (h4.agree hw hz hle).1
    rw [e4] at h
    exact h
  · have h := (h5.agree hw hz hle).1
    rw [e5] at h
    exact h
  · have h := (h6.agree hw hz hle).1
    rw [e6] at h
    exact h
  · have h := (h7.agree hw hz hle).1
    rw [e7] at h
    exact h
/-- the clone of the scripts -/
theorem clone_scripts {w wc : World} {v0 v1 v2 v3 v4 v5 v6 v7 : Value} {T : Tab} (h : TabAt w v0 v1 v2 v3 v4 v5 v6 v7 T) (hb : Below w.heap.size w wc) (P : Nat → Prop) (hr : ∀ k, P k → w.heap.size ≤ k) :
    Calls Tryz.prog 67 #[v0] wc fun e w' => ∃ A c, e = .returned (.slice A T.scripts.length c) ∧ T.scripts.length ≤ c ∧ T.scripts.length ≤ 2097152 ∧ ScrOk w' wc.heap.size P A T.scripts ∧ Below wc.heap.size wc w' := by
  obtain ⟨scs, hl, hL, hs⟩ := h.scripts
  have hz : ((T.scripts.zip scs).map fun p => [Value.string p.1.name, p.2]).length = T.scripts.length := by rw [List.length_map, List.length_zip, hl, Nat.min_self]
  have hm : T.scripts.length ≤ 2097152 := by obtain ⟨_, _, _, h1, _⟩ := hL; rw [hz] at h1; exact h1
  have hR : Rows 2 ((T.scripts.zip scs).map fun p => [Value.string p.1.name, p.2]) := fun x hx => by
    obtain ⟨p, hp, rfl⟩ := List.mem_map.1 hx
    refine ⟨rfl, fun u hu => ?_⟩
    rcases List.mem_cons.1 hu with rfl | hu
    · rfl
    rcases List.mem_cons.1 hu with rfl | hu
    · obtain ⟨i, hi, e⟩ := List.mem_iff_getElem.1 hp
      have hz : (T.scripts.zip scs)[i]? = some p := by rw [List.getElem?_eq_getElem hi, e]
      obtain ⟨z1, z2⟩ := List.getElem?_zip_eq_some.1 hz
      obtain ⟨A, c, e, _⟩ := hs i p.1 p.2 z1 z2
      rw [e]; rfl
    · cases hu
  refine (clone_script (hL.below hb) hR).mono (fun e w' h => ?_)
  obtain ⟨A, c, rfl, hle, hLA, hg, hB⟩ := h
  rw [hz] at hle hLA hg ⊢
  refine ⟨A, c, rfl, hle, hm, fun hpos => ?_, hB⟩
  obtain ⟨g, cur, rfl, hge, hblk⟩ := hg hpos
  refine ⟨g, cur, rfl, hge, hblk, fun k x hx => ?_⟩
  obtain ⟨vk, hv⟩ : ∃ v, scs[k]? = some v := ⟨_, List.getElem?_eq_getElem (by have := (List.getElem?_eq_some_iff.1 hx).1; omega)⟩
  obtain ⟨a, e, e0, e1⟩ := el2 (enc := fun p : ScrT × Value => [Value.string p.1.name, p.2]) (l := T.scripts.zip scs) (k := k) (m := (x, vk)) hLA (Below.refl _ w') (by rw [List.getElem?_zip_eq_some]; exact ⟨hx, hv⟩) rfl
  cases e
  rw [addr_at0, hblk.cell] at e0
  have e1' : w'.cell? ⟨g, k * 2 + 1, none⟩ = some vk := by rw [addr_at0] at e1; exact e1
  rw [hblk.cell] at e1'
  refine ⟨e0, vk, e1', ((hs k x vk hx hv).below hb).below hB, fun a n c ev hp => ?_⟩
  obtain ⟨A', c', e', _, hcc⟩ := hs k x vk hx hv
  rw [ev] at e'
  cases e'
  obtain ⟨a', ea, hlt, _⟩ := hcc (by rw [List.length_map]; exact hp)
  cases ea
  have := hb.size
  exact ⟨by omega, fun hP => by have := hr _ hP; omega⟩

set_option maxRecDepth 100000 in
set_option maxHeartbeats 8000000 in
theorem tab_copied {w0 w : World} {v0 v1 v2 v3 v4 v5 v6 v7 : Value} (T : Tab) (h : TabAt w0 v0 v1 v2 v3 v4 v5 v6 v7 T) (hbw : Below w0.heap.size w0 w) (x : Nat) (hx0 : w0.heap.size ≤ x) (hxw : x < w.heap.size) :
    Calls Tryz.prog 31 #[.agg #[v0, v1, v2, v3, v4, v5, v6, v7]] w fun e w' => (∃ u0 u1 u2 u3 u4 u5 u6 u7, e = .returned (.agg #[u0, u1, u2, u3, u4, u5, u6, u7]) ∧ ∀ X : World, (∀ i, i ≠ x → X.heap[i]? = w'.heap[i]?) → w'.heap.size ≤ X.heap.size → TabAt X u0 u1 u2 u3 u4 u5 u6 u7 T) ∧ Below w.heap.size w w' := by
  have hB0 : Below w.heap.size w ((w.alloc (.cells #[v0, v1, v2, v3, v4, v5, v6, v7] 28)).alloc (.cells #[.slice none 0 0, .slice none 0 0, .slice none 0 0, .slice none 0 0, .slice none 0 0, .slice none 0 0, .slice none 0 0, .slice none 0 0] 28)) := ((Below.refl _ w).alloc (Nat.le_refl _) _).alloc (by simp) _
  have hb0 : Blk ((w.alloc (.cells #[v0, v1, v2, v3, v4, v5, v6, v7] 28)).alloc (.cells #[.slice none 0 0, .slice none 0 0, .slice none 0 0, .slice none 0 0, .slice none 0 0, .slice none 0 0, .slice none 0 0, .slice none 0 0] 28)) w.heap.size 28 #[v0, v1, v2, v3, v4, v5, v6, v7] := (Blk.new w _ _).alloc _
  have hb1 : Blk ((w.alloc (.cells #[v0, v1, v2, v3, v4, v5, v6, v7] 28)).alloc (.cells #[.slice none 0 0, .slice none 0 0, .slice none 0 0, .slice none 0 0, .slice none 0 0, .slice none 0 0, .slice none 0 0, .slice none 0 0] 28)) (w.heap.size + 1) 28 #[.slice none 0 0, .slice none 0 0, .slice none 0 0, .slice none 0 0, .slice none 0 0, .slice none 0 0, .slice none 0 0, .slice none 0 0] := by
    have h := Blk.new (w.alloc (.cells #[v0, v1, v2, v3, v4, v5, v6, v7] 28)) 28 #[.slice none 0 0, .slice none 0 0, .slice none 0 0, .slice none 0 0, .slice none 0 0, .slice none 0 0, .slice none 0 0, .slice none 0 0]
    simp only [World.size_alloc] at h
    exact h
  have HC0 := Lib.hid (clone_scripts h (below_trans hbw hB0) (fun i => i = w.heap.size + 1 ∨ i = x) (fun i hi => by have := hbw.size; rcases hi with h | h <;> omega))
  have hz : ((w.alloc (.cells #[v0, v1, v2, v3, v4, v5, v6, v7] 28)).alloc (.cells #[.slice none 0 0, .slice none 0 0, .slice none 0 0, .slice none 0 0, .slice none 0 0, .slice none 0 0, .slice none 0 0, .slice none 0 0] 28)).heap.size = w.heap.size + 1 + 1 := by simp
  have HT := Lib.hid (h.below hbw)
  clear hbw
  have HB0 := Lib.hid hB0
  have Hb0 := Lib.hid hb0
  have Hb1 := Lib.hid hb1
  have Hz := Lib.hid hz
  clear h hB0 hb0 hb1 hz
  obtain ⟨n, hn⟩ : ∃ n, T.scripts.length = n := ⟨_, rfl⟩
  rw [hn] at HC0
  have Hn := Lib.hid hn
  clear hn
  go_enter Tryz.func31, Tryz.ntmps31
  go_wp2_with (first | (go_at_call 67; refine HC0.out.mono ?_; rintro e w2 ⟨A, c, rfl, hle, hm, hsc, hb2⟩) | (go_at_call 66; refine (clip_script hle hm).mono ?_; rintro e w' ⟨rfl, rfl⟩))
  have Hb2 := Lib.hid hb2
  have Hsc := Lib.hid hsc
  clear hb2 hsc
  go_loopw [11] (fun i wr => ∃ k : Nat, k ≤ n ∧ i = .int .i64 (k : Int) ∧ Below w.heap.size w wr ∧ w.heap.size + 1 < wr.heap.size ∧ Blk wr w.heap.size 28 #[v0, v1, v2, v3, v4, v5, v6, v7] ∧ Blk wr (w.heap.size + 1) 28 #[.slice none 0 0, .slice none 0 0, .slice none 0 0, .slice none 0 0, .slice none 0 0, .slice none 0 0, .slice none 0 0, .slice none 0 0] ∧ ScrOk wr (w.heap.size + 2) (fun i => i = w.heap.size + 1 ∨ i = x) A T.scripts) (fun i _ => n - (intOf i).toNat)
  case atStart => exact ⟨0, Nat.zero_le _, rfl, below_trans HB0.out Hb2.out, by have := Hb2.out.size; have := Hz.out; omega, Hb0.out.below Hb2.out, Hb1.out.below Hb2.out, by have h := Hsc.out; rw [Hz.out] at h; exact h⟩
  case round =>
    clear Hb2 Hsc HC0 Hb0 Hb1 HB0 Hz
    obtain ⟨k, hk, rfl, hb, hsz, hbx, hrs, hsc⟩ := hrel
    by_cases hlt : k < n
    · obtain ⟨g, cur, rfl, hge, hcp⟩ := hsc (by rw [Hn.out]; omega)
      obtain ⟨m, hm9⟩ : ∃ m, T.scripts[k]? = some m := ⟨_, List.getElem?_eq_getElem (by rw [Hn.out]; exact hlt)⟩
      obtain ⟨-, v, hcv, hsp⟩ := hcp.elem k m hm9
      have k0 : (0 : Int) ≤ (k : Int) := by omega
      have k1 : (k : Int) < (n : Int) := by omega
      obtain ⟨a, ha⟩ : ∃ a : Addr, a = ⟨g, 0, none⟩ := ⟨_, rfl⟩
      have hp : (⟨(a.add (k * 2)).block, (a.add (k * 2)).off + 1, none⟩ : Addr) = ⟨g, k * 2 + 1, none⟩ := by rw [ha, addr_at0]
      have e1 : wr.cell? ⟨(a.add (k * 2)).block, (a.add (k * 2)).off + 1, none⟩ = some v := by rw [hp, hcp.blk.cell]; exact hcv
      rw [← ha]
      have HCl := Lib.hid (clone_span hsp.1 (rows_span m.spans))
      have Hp := Lib.hid hp
      have Hcp := Lib.hid hcp
      have Hcv := Lib.hid hcv
      have Hb := Lib.hid hb
      have Hbx := Lib.hid hbx
      have Hrs := Lib.hid hrs
      have Hm9 := Lib.hid hm9
      have Ha := Lib.hid ha
      clear hp hcp hcv hb hbx hrs hm9 ha hsp hsc
      have hln : (m.spans.map encSpan).length = m.spans.length := List.length_map _
      rw [hln] at HCl
      obtain ⟨n9, hn9⟩ : ∃ n, m.spans.length = n := ⟨_, rfl⟩
      rw [hn9] at HCl
      have Hn9 := Lib.hid hn9
      clear hn9 hln
      go_wp2_with (first | (go_at_call 69; refine HCl.out.mono ?_; rintro e w2 ⟨A1, c1, rfl, hle1, hL1, hg1, hb2⟩; have Hle1 := Lib.hid hle1; have HL1 := Lib.hid hL1; have Hg1 := Lib.hid hg1; have Hb2 := Lib.hid hb2; have y1 : w2.cell? ⟨(a.add (k * 2)).block, (a.add (k * 2)).off + 1, none⟩ = some v := (by rw [Hp.out, (Hcp.out.blk.below hb2).cell]; exact Hcv.out); have yf : w2.frozen? ⟨(a.add (k * 2)).block, (a.add (k * 2)).off + 1, none⟩ = false := (by rw [Hp.out]; exact (Hcp.out.blk.below hb2).frozen _)) | (go_at_call 68; refine (clip_span Hle1.out (by have h := HL1.out.len; rw [List.length_map, Hn9.out] at h; omega)).mono ?_; rintro e w' ⟨rfl, rfl⟩))
      go_roundw
      case rel =>
        have hgl := Hcp.out.blk.lt
        have hsp' : SpAt w2 g (fun i => i = w.heap.size + 1 ∨ i = x) (.slice A1 n9 n9) m.spans := ⟨HL1.out.cap _, fun a n c e hp => by
          obtain ⟨g1, cur1, e1, h1, h2⟩ := Hg1.out (by rw [← Hn9.out]; exact hp)
          cases e; cases e1; show g1 ≠ g ∧ ¬ (g1 = _ ∨ g1 = _); omega⟩
        skip
        refine ⟨k + 1, by omega, by go_num, ?_, ?_, ?_, ?_, ?_⟩ <;> rw [Hp.out]
        · exact (below_trans Hb.out Hb2.out).setCell (p := ⟨g, k * 2 + 1, none⟩) (by show w.heap.size ≤ g; omega) _
        · have := Hb2.out.size; simp [World.setCell]; omega
        · exact (Hbx.out.below Hb2.out).of (Below.heap_setCell _ _ _ _ (show w.heap.size ≠ g by omega))
        · exact (Hrs.out.below Hb2.out).of (Below.heap_setCell _ _ _ _ (show w.heap.size + 1 ≠ g by omega))
        · exact fun _ => ⟨g, _, by rw [Ha.out], hge, (Hcp.out.below Hb2.out).put Hm9.out hsp'⟩
      case measure => simp [intOf]; omega
    · obtain rfl : k = n := by omega
      have k1 : ¬ (k : Int) < (k : Int) := by omega
      have hsl := hsc.scripts Hn.out (c := k) hm
      have HTw := Lib.hid (HT.out.below hb)
      have hf9 : ∀ w', Below wr.heap.size wr w' → w'.cell? ⟨w.heap.size, 1, none⟩ = some v1 ∧ w'.cell? ⟨w.heap.size, 2, none⟩ = some v2 ∧ w'.cell? ⟨w.heap.size, 3, none⟩ = some v3 ∧ w'.cell? ⟨w.heap.size, 4, none⟩ = some v4 ∧ w'.cell? ⟨w.heap.size, 5, none⟩ = some v5 ∧ w'.cell? ⟨w.heap.size, 6, none⟩ = some v6 ∧ w'.cell? ⟨w.heap.size, 7, none⟩ = some v7 := fun w' hw => by
        have h := hbx.below hw
        exact ⟨h.cell 1, h.cell 2, h.cell 3, h.cell 4, h.cell 5, h.cell 6, h.cell 7⟩
      have HSf := Lib.hid hf9
      have e1 : wr.cell? ⟨w.heap.size, 1, none⟩ = some v1 := hbx.cell 1
      have e2 : wr.cell? ⟨w.heap.size, 2, none⟩ = some v2 := hbx.cell 2
      have e3 : wr.cell? ⟨w.heap.size, 3, none⟩ = some v3 := hbx.cell 3
      have e4 : wr.cell? ⟨w.heap.size, 4, none⟩ = some v4 := hbx.cell 4
      have e5 : wr.cell? ⟨w.heap.size, 5, none⟩ = some v5 := hbx.cell 5
      have e6 : wr.cell? ⟨w.heap.size, 6, none⟩ = some v6 := hbx.cell 6
      have e7 : wr.cell? ⟨w.heap.size, 7, none⟩ = some v7 := hbx.cell 7
      obtain ⟨n1, hn1⟩ : ∃ n, (T.common.map encSpan).length = n := ⟨_, rfl⟩
      have Hn1 := Lib.hid hn1
      obtain ⟨n2, hn2⟩ : ∃ n, (T.marks.map encMark).length = n := ⟨_, rfl⟩
      have Hn2 := Lib.hid hn2
      obtain ⟨n3, hn3⟩ : ∃ n, (T.pairs.map encPair).length = n := ⟨_, rfl⟩
      have Hn3 := Lib.hid hn3
      obtain ⟨n4, hn4⟩ : ∃ n, (T.folds.map encMap).length = n := ⟨_, rfl⟩
      have Hn4 := Lib.hid hn4
      obtain ⟨n5, hn5⟩ : ∃ n, (T.looks.map encMap).length = n := ⟨_, rfl⟩
      have Hn5 := Lib.hid hn5
      obtain ⟨n6, hn6⟩ : ∃ n, (T.drops.map encSpan).length = n := ⟨_, rfl⟩
      have Hn6 := Lib.hid hn6
      obtain ⟨n7, hn7⟩ : ∃ n, (T.allowed.map encSpan).length = n := ⟨_, rfl⟩
      have Hn7 := Lib.hid hn7
      clear hn1 hn2 hn3 hn4 hn5 hn6 hn7
      have Hb := Lib.hid hb
      have Hbx := Lib.hid hbx
      have Hrs := Lib.hid hrs
      have Hsc := Lib.hid hsc
      clear hb hbx hrs hsc hf9
      have Hsl := Lib.hid hsl
      clear hsl
      have Hw := Lib.hid ((Below.refl wr.heap.size wr).drew)
      go_wp2_with fail
      go_region_held3 (fun w' => w'.cell? ⟨w.heap.size, 1, none⟩ = some v1 ∧ w'.cell? ⟨w.heap.size, 2, none⟩ = some v2 ∧ w'.cell? ⟨w.heap.size, 3, none⟩ = some v3 ∧ w'.cell? ⟨w.heap.size, 4, none⟩ = some v4 ∧ w'.cell? ⟨w.heap.size, 5, none⟩ = some v5 ∧ w'.cell? ⟨w.heap.size, 6, none⟩ = some v6 ∧ w'.cell? ⟨w.heap.size, 7, none⟩ = some v7) (first | with_reducible exact HSf.out _ Hw.out | go_keep) (first | (go_at_call 69; have hcc := copy_span HTw.out.common Hw.out Hn1.out (w.heap.size + 1) (by omega); with_reducible (refine hcc.mono ?_); clear hcc; rintro e w21 ⟨A1, c1, rfl, hle1, hm1, hc1, hb1, hw1⟩; clear Hw; have Hw := Lib.hid hw1; have HC1 := Lib.hid hc1; have Hb1 := Lib.hid hb1; have Hle1 := Lib.hid hle1; have Hm1 := Lib.hid hm1; clear hw1 hc1 hb1 hle1 hm1) | (go_at_call 71; have hcc := copy_mark HTw.out.marks Hw.out Hn2.out (w.heap.size + 1) (by omega); with_reducible (refine hcc.mono ?_); clear hcc; rintro e w22 ⟨A2, c2, rfl, hle2, hm2, hc2, hb2, hw2⟩; clear Hw; have Hw := Lib.hid hw2; have HC2 := Lib.hid hc2; have Hb2 := Lib.hid hb2; have Hle2 := Lib.hid hle2; have Hm2 := Lib.hid hm2; clear hw2 hc2 hb2 hle2 hm2) | (go_at_call 73; have hcc := copy_pair HTw.out.pairs Hw.out Hn3.out (w.heap.size + 1) (by omega); with_reducible (refine hcc.mono ?_); clear hcc; rintro e w23 ⟨A3, c3, rfl, hle3, hm3, hc3, hb3, hw3⟩; clear Hw; have Hw := Lib.hid hw3; have HC3 := Lib.hid hc3; have Hb3 := Lib.hid hb3; have Hle3 := Lib.hid hle3; have Hm3 := Lib.hid hm3; clear hw3 hc3 hb3 hle3 hm3) | (go_at_call 75; have hcc := copy_map HTw.out.folds Hw.out Hn4.out (w.heap.size + 1) (by omega); with_reducible (refine hcc.mono ?_); clear hcc; rintro e w24 ⟨A4, c4, rfl, hle4, hm4, hc4, hb4, hw4⟩; clear Hw; have Hw := Lib.hid hw4; have HC4 := Lib.hid hc4; have Hb4 := Lib.hid hb4; have Hle4 := Lib.hid hle4; have Hm4 := Lib.hid hm4; clear hw4 hc4 hb4 hle4 hm4) | (go_at_call 75; have hcc := copy_map HTw.out.looks Hw.out Hn5.out (w.heap.size + 1) (by omega); with_reducible (refine hcc.mono ?_); clear hcc; rintro e w25 ⟨A5, c5, rfl, hle5, hm5, hc5, hb5, hw5⟩; clear Hw; have Hw := Lib.hid hw5; have HC5 := Lib.hid hc5; have Hb5 := Lib.hid hb5; have Hle5 := Lib.hid hle5; have Hm5 := Lib.hid hm5; clear hw5 hc5 hb5 hle5 hm5) | (go_at_call 69; have hcc := copy_span HTw.out.drops Hw.out Hn6.out (w.heap.size + 1) (by omega); with_reducible (refine hcc.mono ?_); clear hcc; rintro e w26 ⟨A6, c6, rfl, hle6, hm6, hc6, hb6, hw6⟩; clear Hw; have Hw := Lib.hid hw6; have HC6 := Lib.hid hc6; have Hb6 := Lib.hid hb6; have Hle6 := Lib.hid hle6; have Hm6 := Lib.hid hm6; clear hw6 hc6 hb6 hle6 hm6) | (go_at_call 69; have hcc := copy_span HTw.out.allowed Hw.out Hn7.out (w.heap.size + 1) (by omega); with_reducible (refine hcc.mono ?_); clear hcc; rintro e w27 ⟨A7, c7, rfl, hle7, hm7, hc7, hb7, hw7⟩; clear Hw; have Hw := Lib.hid hw7; have HC7 := Lib.hid hc7; have Hb7 := Lib.hid hb7; have Hle7 := Lib.hid hle7; have Hm7 := Lib.hid hm7; clear hw7 hc7 hb7 hle7 hm7) | (go_at_call 68; with_reducible (refine (clip_span (A := A1) Hle1.out Hm1.out).mono ?_); rintro e w' ⟨rfl, rfl⟩) | (go_at_call 70; with_reducible (refine (clip_mark (A := A2) Hle2.out Hm2.out).mono ?_); rintro e w' ⟨rfl, rfl⟩) | (go_at_call 72; with_reducible (refine (clip_pair (A := A3) Hle3.out Hm3.out).mono ?_); rintro e w' ⟨rfl, rfl⟩) | (go_at_call 74; with_reducible (refine (clip_map (A := A4) Hle4.out Hm4.out).mono ?_); rintro e w' ⟨rfl, rfl⟩) | (go_at_call 74; with_reducible (refine (clip_map (A := A5) Hle5.out Hm5.out).mono ?_); rintro e w' ⟨rfl, rfl⟩) | (go_at_call 68; with_reducible (refine (clip_span (A := A6) Hle6.out Hm6.out).mono ?_); rintro e w' ⟨rfl, rfl⟩) | (go_at_call 68; with_reducible (refine (clip_span (A := A7) Hle7.out Hm7.out).mono ?_); rintro e w' ⟨rfl, rfl⟩; have yb := Hrs.out.below Hw.out; have yf0 : w27.frozen? ⟨w.heap.size + 1, 0, none⟩ = false := (yb.frozen _); have yf1 : w27.frozen? ⟨w.heap.size + 1, 1, none⟩ = false := (yb.frozen _); have yf2 : w27.frozen? ⟨w.heap.size + 1, 2, none⟩ = false := (yb.frozen _); have yf3 : w27.frozen? ⟨w.heap.size + 1, 3, none⟩ = false := (yb.frozen _); have yf4 : w27.frozen? ⟨w.heap.size + 1, 4, none⟩ = false := (yb.frozen _); have yf5 : w27.frozen? ⟨w.heap.size + 1, 5, none⟩ = false := (yb.frozen _); have yf6 : w27.frozen? ⟨w.heap.size + 1, 6, none⟩ = false := (yb.frozen _); have yf7 : w27.frozen? ⟨w.heap.size + 1, 7, none⟩ = false := (yb.frozen _); have yl : w.heap.size + 1 < w27.heap.size := (yb.lt); have y0 : w27.cell? ⟨w.heap.size + 1, 0, none⟩ = some (.slice none 0 0) := (yb.cell 0).trans rfl; have y1 : w27.cell? ⟨w.heap.size + 1, 1, none⟩ = some (.slice none 0 0) := (yb.cell 1).trans rfl; have y2 : w27.cell? ⟨w.heap.size + 1, 2, none⟩ = some (.slice none 0 0) := (yb.cell 2).trans rfl; have y3 : w27.cell? ⟨w.heap.size + 1, 3, none⟩ = some (.slice none 0 0) := (yb.cell 3).trans rfl; have y4 : w27.cell? ⟨w.heap.size + 1, 4, none⟩ = some (.slice none 0 0) := (yb.cell 4).trans rfl; have y5 : w27.cell? ⟨w.heap.size + 1, 5, none⟩ = some (.slice none 0 0) := (yb.cell 5).trans rfl; have y6 : w27.cell? ⟨w.heap.size + 1, 6, none⟩ = some (.slice none 0 0) := (yb.cell 6).trans rfl; have y7 : w27.cell? ⟨w.heap.size + 1, 7, none⟩ = some (.slice none 0 0) := (yb.cell 7).trans rfl; clear yb))
      have HR := copied_put (x := x) (below_trans Hb.out Hw.out) rfl hxw (Hrs.out.below Hw.out) (Hsc.out.below Hw.out) Hn.out hm ((((((HC1.out.below Hb2.out).below Hb3.out).below Hb4.out).below Hb5.out).below Hb6.out).below Hb7.out) Hn1.out (((((HC2.out.below Hb3.out).below Hb4.out).below Hb5.out).below Hb6.out).below Hb7.out) Hn2.out ((((HC3.out.below Hb4.out).below Hb5.out).below Hb6.out).below Hb7.out) Hn3.out (((HC4.out.below Hb5.out).below Hb6.out).below Hb7.out) Hn4.out ((HC5.out.below Hb6.out).below Hb7.out) Hn5.out (HC6.out.below Hb7.out) Hn6.out HC7.out Hn7.out
      obtain ⟨W9, hW9, hT9, hB9, hbe9⟩ := HR
      rw [← hW9]
      have HT9 := Lib.hid hT9
      have Hbe9 := Lib.hid hbe9
      clear hT9 hbe9 hW9
      have q0 : W9.cell? ⟨w.heap.size + 1, 0, none⟩ = _ := hB9.cell 0
      have q1 : W9.cell? ⟨w.heap.size + 1, 1, none⟩ = _ := hB9.cell 1
      have q2 : W9.cell? ⟨w.heap.size + 1, 2, none⟩ = _ := hB9.cell 2
      have q3 : W9.cell? ⟨w.heap.size + 1, 3, none⟩ = _ := hB9.cell 3
      have q4 : W9.cell? ⟨w.heap.size + 1, 4, none⟩ = _ := hB9.cell 4
      have q5 : W9.cell? ⟨w.heap.size + 1, 5, none⟩ = _ := hB9.cell 5
      have q6 : W9.cell? ⟨w.heap.size + 1, 6, none⟩ = _ := hB9.cell 6
      have q7 : W9.cell? ⟨w.heap.size + 1, 7, none⟩ = _ := hB9.cell 7
      go_wp2_with fail
      refine bodyPost_ret (v := .agg #[Value.slice A k k, Value.slice A1 n1 n1, Value.slice A2 n2 n2, Value.slice A3 n3 n3, Value.slice A4 n4 n4, Value.slice A5 n5 n5, Value.slice A6 n6 n6, Value.slice A7 n7 n7]) ?_ rfl ⟨⟨_, _, _, _, _, _, _, _, rfl, HT9.out⟩, Hbe9.out⟩
      simp [results, Tryz.results31, go_sem, q0, q1, q2, q3, q4, q5, q6, q7]

end Go.Proofs.YtjmkdimbbacnfaaGreatDoor
