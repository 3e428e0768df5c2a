/- guisebook.Book at runes: what Keep turns. -/
import Derived.Test.YtkenffbonnbflaaBookSR
import Derived.Deep.AppendLies
import Derived.Maps.AppendAt
import Derived.ArgAppend
namespace Go.Proofs.Ytkenffbonnbflaa
open Go.RowKit
set_option linter.unusedVariables false

theorem infoSl : (Try.prog.info? 45).map (fun i => (i.zero, i.size, i.bytes)) = some (some (.slice none 0 0), 1, 24) := by kernel_rfl

/-- every block that is no book and no row of lists stays -/
def SeesR (w w' : World) : Prop := ∀ b t row, t ≠ 43 → t ≠ 45 → Blk w b t row → w'.heap[b]? = w.heap[b]?
structure BelowR (base : Nat) (w w' : World) : Prop where
  b : Below base w w'
  s : SeesR w w'
theorem BelowR.trans {base : Nat} {a b c : World} (h : BelowR base a b) (k : BelowR base b c) : BelowR base a c :=
  ⟨h.b.trans k.b, fun g t row h1 h2 hb => (k.s g t row h1 h2 (hb.of (h.s g t row h1 h2 hb))).trans (h.s g t row h1 h2 hb)⟩
theorem BelowR.from {base : Nat} {w w' : World} (h : Below w.heap.size w w') (hb : base ≤ w.heap.size) : BelowR base w w' :=
  ⟨h.mono hb, fun g t row _ _ hg => h.block g hg.lt⟩
theorem BelowR.blk {base : Nat} {w w' : World} {b : Nat} {t : TypeId} {row : Array Value} (h : BelowR base w w') (hb : Blk w b t row) (h1 : t ≠ 43) (h2 : t ≠ 45) : Blk w' b t row := hb.of (h.s b t row h1 h2 hb)

def slV (n : Nat) (x : Option Addr × Nat) : Value := .slice x.1 n x.2
/-- a book to which lists are kept: its lists, its copies -/
structure KeepR (w : World) (base B : Nat) (vl vw : Value) (hd : Int) (E V : List (Option Addr × Nat)) (ns : List ByteArray) : Prop where
  blk : Blk w B 43 #[vl, vw, .int .i64 hd, .bool false]
  lists : w.ownsRow base 45 1 vl E.length (E.map (slV ns.length))
  was : w.ownsRow base 45 1 vw V.length (V.map (slV ns.length))
  two : ∀ g, vl.ownBlock = some g → vw.ownBlock ≠ some g
  ent : ∀ x ∈ E, EntR w x.1 x.2 ns
  copy : ∀ x ∈ V, EntR w x.1 x.2 ns

theorem own_lt {w : World} {base : Nat} {e : TypeId} {size : Nat} {v : Value} {n : Nat} {xs : List Value} (h : w.ownsRow base e size v n xs) : ∀ g, v.ownBlock = some g → g < w.heap.size ∧ base ≤ g := fun g hg => by
  rcases h.2 with ⟨rfl, _⟩ | ⟨g', cap, cur, rfl, hb, hh, _⟩
  · simp [Value.ownBlock] at hg
  · have e1 : g' = g := by simpa [Value.ownBlock] using hg
    subst e1
    exact ⟨(Array.getElem?_eq_some_iff.1 hh).1, hb⟩
theorem KeepR.step {w w' : World} {base B : Nat} {vl vw : Value} {hd : Int} {E V : List (Option Addr × Nat)} {ns : List ByteArray} (h : KeepR w base B vl vw hd E V ns) (hb : Below w.heap.size w w') : KeepR w' base B vl vw hd E V ns :=
  ⟨h.blk.below hb, own_below h.lists hb, own_below h.was hb, h.two, fun x hx => (h.ent x hx).below hb, fun x hx => (h.copy x hx).below hb⟩
/-- an entry stays where blocks of runes stay -/
theorem EntR.of {w w' : World} {A : Option Addr} {c : Nat} {ns : List ByteArray} (h : EntR w A c ns) (hs : w.heap.size ≤ w'.heap.size) (hb : ∀ g row, Blk w g 9 row → w'.heap[g]? = w.heap[g]?) : EntR w' A c ns := by
  obtain ⟨h1, h2⟩ := h
  refine ⟨fun hn => ?_, ?_⟩
  · obtain ⟨a, ha, hlt, hc⟩ := h1 hn
    refine ⟨a, ha, by omega, fun j hj => ?_⟩
    rcases h2 with ⟨e, _⟩ | ⟨g, row, e, hB, _⟩
    · rw [e] at ha; cases ha
    · rw [e] at ha
      cases ha
      rw [← hc j hj]
      exact World.cell?_of_block (by rw [addr_block]; exact hb g row hB)
  · rcases h2 with c | ⟨g, row, e, hB, r⟩
    · exact .inl c
    · exact .inr ⟨g, row, e, hB.of (hb g row hB), r⟩

section
variable {w w1 : World} {base B g cap : Nat} {vl vw : Value} {hd : Int} {E V : List (Option Addr × Nat)} {ns : List ByteArray} {o : Obj} {x : Option Addr × Nat}
/-- behind 'b.lists = append(b.lists, l)' -/
theorem KeepR.more (h : KeepR w base B vl vw hd E V ns) (hx : EntR w x.1 x.2 ns) (hbB : base ≤ B)
    (hown : w1.ownsRow base 45 1 (.slice (some ⟨g, 0, none⟩) (E.length + 1) cap) (E.length + 1) (E.map (slV ns.length) ++ [slV ns.length x])) (hgrow : (w.alloc o).grownBy w1 vl.ownBlock) (hat : vl.ownBlock = some g ∨ g = w.heap.size + 1) :
    KeepR (w1.setCell ⟨B, 0, none⟩ (.slice (some ⟨g, 0, none⟩) (E.length + 1) cap)) base B (.slice (some ⟨g, 0, none⟩) (E.length + 1) cap) vw hd (E ++ [x]) V ns ∧ BelowR base w (w1.setCell ⟨B, 0, none⟩ (.slice (some ⟨g, 0, none⟩) (E.length + 1) cap)) := by
  have hBl := h.blk.lt
  have hsz : (w.alloc o).heap.size = w.heap.size + 1 := by simp
  have hsz1 := hgrow.size
  have hblkne := own_ne_blk h.lists h.blk (by decide)
  have hb1 : Blk w1 B 43 #[vl, vw, .int .i64 hd, .bool false] := (h.blk.alloc o).of (hgrow.block _ (h.blk.alloc o).lt hblkne)
  have hst0 : SeesR w (w1.setCell ⟨B, 0, none⟩ (.slice (some ⟨g, 0, none⟩) (E.length + 1) cap)) := fun b t row ht1 ht2 hb => by
    rw [Below.heap_setCell _ _ _ _ (blk_ne hb h.blk ht1), hgrow.block _ (hb.alloc o).lt (own_ne_blk h.lists hb (Ne.symm ht2)), Below.heap_alloc _ _ _ hb.lt]
  have hst := fun b row hb => hst0 b 9 row (by decide) (by decide) hb
  have hs2 : w.heap.size ≤ (w1.setCell ⟨B, 0, none⟩ (.slice (some ⟨g, 0, none⟩) (E.length + 1) cap)).heap.size := by
    have : (w1.setCell ⟨B, 0, none⟩ (.slice (some ⟨g, 0, none⟩) (E.length + 1) cap)).heap.size = w1.heap.size := by simp [World.setCell]
    omega
  refine ⟨⟨?_, ?_, ?_, ?_, ?_, ?_⟩, ?_⟩
  · exact hb1.set_ 0 _
  · rw [List.length_append, List.map_append]
    exact own_setCell hown (by have := own_ne_blk hown hb1 (by decide); exact this) _
  · refine own_setCell (own_of h.was fun b hb => ?_) (own_ne_blk h.was h.blk (by decide)) _
    have hlt := (own_lt h.was b hb).1
    rw [hgrow.block _ (by omega) (fun e => h.two b e.symm hb), Below.heap_alloc _ _ _ hlt]
  · intro b hb hvw
    have e1 : g = b := by simpa [Value.ownBlock] using hb
    subst e1
    rcases hat with hat | hat
    · exact h.two g hat hvw
    · have := (own_lt h.was g hvw).1
      omega
  · intro y hy
    rcases List.mem_append.1 hy with hy | hy
    · exact (h.ent y hy).of hs2 hst
    · obtain rfl : y = x := by simpa using hy
      exact hx.of hs2 hst
  · intro y hy
    exact (h.copy y hy).of hs2 hst
  · exact ⟨(((Below.refl base w).alloc (by omega) o).grown hgrow (by omega) (fun b hb => (own_lt h.lists b hb).2)).setCell hbB _, hst0⟩
/-- behind 'b.was = append(b.was, ..)' -/
theorem KeepR.more2 (h : KeepR w base B vl vw hd E V ns) (hx : EntR w x.1 x.2 ns) (hbB : base ≤ B)
    (hown : w1.ownsRow base 45 1 (.slice (some ⟨g, 0, none⟩) (V.length + 1) cap) (V.length + 1) (V.map (slV ns.length) ++ [slV ns.length x])) (hgrow : (w.alloc o).grownBy w1 vw.ownBlock) (hat : vw.ownBlock = some g ∨ g = w.heap.size + 1) :
    KeepR (w1.setCell ⟨B, 1, none⟩ (.slice (some ⟨g, 0, none⟩) (V.length + 1) cap)) base B vl (.slice (some ⟨g, 0, none⟩) (V.length + 1) cap) hd E (V ++ [x]) ns ∧ BelowR base w (w1.setCell ⟨B, 1, none⟩ (.slice (some ⟨g, 0, none⟩) (V.length + 1) cap)) := by
  have hBl := h.blk.lt
  have hsz : (w.alloc o).heap.size = w.heap.size + 1 := by simp
  have hsz1 := hgrow.size
  have hblkne := own_ne_blk h.was h.blk (by decide)
  have hb1 : Blk w1 B 43 #[vl, vw, .int .i64 hd, .bool false] := (h.blk.alloc o).of (hgrow.block _ (h.blk.alloc o).lt hblkne)
  have hst0 : SeesR w (w1.setCell ⟨B, 1, none⟩ (.slice (some ⟨g, 0, none⟩) (V.length + 1) cap)) := fun b t row ht1 ht2 hb => by
    rw [Below.heap_setCell _ _ _ _ (blk_ne hb h.blk ht1), hgrow.block _ (hb.alloc o).lt (own_ne_blk h.was hb (Ne.symm ht2)), Below.heap_alloc _ _ _ hb.lt]
  have hst := fun b row hb => hst0 b 9 row (by decide) (by decide) hb
  have hs2 : w.heap.size ≤ (w1.setCell ⟨B, 1, none⟩ (.slice (some ⟨g, 0, none⟩) (V.length + 1) cap)).heap.size := by
    have : (w1.setCell ⟨B, 1, none⟩ (.slice (some ⟨g, 0, none⟩) (V.length + 1) cap)).heap.size = w1.heap.size := by simp [World.setCell]
    omega
  refine ⟨⟨?_, ?_, ?_, ?_, ?_, ?_⟩, ?_⟩
  · exact hb1.set_ 1 _
  · refine own_setCell (own_of h.lists fun b hb => ?_) (own_ne_blk h.lists h.blk (by decide)) _
    have hlt := (own_lt h.lists b hb).1
    rw [hgrow.block _ (by omega) (fun e => h.two b hb e.symm), Below.heap_alloc _ _ _ hlt]
  · rw [List.length_append, List.map_append]
    exact own_setCell hown (by have := own_ne_blk hown hb1 (by decide); exact this) _
  · intro b hb hvw
    have e1 : g = b := by simpa [Value.ownBlock] using hvw
    subst e1
    rcases hat with hat | hat
    · exact h.two g hb hat
    · have := (own_lt h.lists g hb).1
      omega
  · intro y hy
    exact (h.ent y hy).of hs2 hst
  · intro y hy
    rcases List.mem_append.1 hy with hy | hy
    · exact (h.copy y hy).of hs2 hst
    · obtain rfl : y = x := by simpa using hy
      exact hx.of hs2 hst
  · exact ⟨(((Below.refl base w).alloc (by omega) o).grown hgrow (by omega) (fun b hb => (own_lt h.was b hb).2)).setCell hbB _, hst0⟩
theorem KeepR.held (h : KeepR w base B vl vw hd E V ns) (hd2 : Int) (hbB : base ≤ B) : KeepR (w.setCell ⟨B, 2, none⟩ (.int .i64 hd2)) base B vl vw hd2 E V ns ∧ BelowR base w (w.setCell ⟨B, 2, none⟩ (.int .i64 hd2)) := by
  have hst : ∀ b row, Blk w b 9 row → (w.setCell ⟨B, 2, none⟩ (.int .i64 hd2)).heap[b]? = w.heap[b]? := fun b row hb => Below.heap_setCell _ _ _ _ (blk_ne hb h.blk (by decide))
  have hs2 : w.heap.size ≤ (w.setCell ⟨B, 2, none⟩ (.int .i64 hd2)).heap.size := by simp [World.setCell]
  exact ⟨⟨h.blk.set_ 2 _, own_setCell h.lists (own_ne_blk h.lists h.blk (by decide)) _, own_setCell h.was (own_ne_blk h.was h.blk (by decide)) _, h.two, fun y hy => (h.ent y hy).of hs2 hst, fun y hy => (h.copy y hy).of hs2 hst⟩, (Below.refl base w).setCell hbB _, fun b t row ht1 ht2 hb => Below.heap_setCell _ _ _ _ (blk_ne hb h.blk ht1)⟩
end
end Go.Proofs.Ytkenffbonnbflaa
