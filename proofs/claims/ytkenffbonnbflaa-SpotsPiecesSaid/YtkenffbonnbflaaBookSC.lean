/- guisebook.Book at runes: the copy of a list; a book to keep is a book. -/
import Derived.Test.YtkenffbonnbflaaBookSK
namespace Go.Proofs.Ytkenffbonnbflaa
open Go.RowKit
set_option linter.unusedVariables false

theorem wp_append_run {P : Program} {o : Oper} {a : Act} {w : World} {K : Act → World → Prop} {Q : Exit → Act → World → Prop} (s x : Operand) (t : TypeId)
    (ho : o.op = .call { callee := .builtin .append, args := #[s, x], argTypes := #[t, t] }) (v v' x' : Value) (hs : a.eval s = v) (hx : a.eval x = x') (w' : World)
    (hr : (Builtin.append_ #[t, t] o.type #[v, x']).run P w = .ok v' w') (h : K (a.put o.dst v') w') : o.wp P a w K Q := by
  unfold Oper.wp execOp
  simp only [ho, resolve, invoke, builtin, Sem.run_bind, Sem.run_pure, Result.andThen_ok, List.map_toArray, List.map_cons, List.map_nil, hs, hx, hr]
  exact h
theorem step_append_run {P : Program} {ops : Array Oper} {o : Oper} {a : Act} {w : World} {K : Act → World → Prop} {Q : Exit → Act → World → Prop} {E : Prop} (hgd : o.guard = none) (s x : Operand) (t : TypeId)
    (ho : o.op = .call { callee := .builtin .append, args := #[s, x], argTypes := #[t, t] }) (v v' x' : Value) (hs : a.eval s = v) (hx : a.eval x = x') (w' : World)
    (hr : (Builtin.append_ #[t, t] o.type #[v, x']).run P w = .ok v' w') (h : K (a.put o.dst v') w') : if Region.wanted o (yielded ops a.tmps) = true then Oper.wp P o a w K Q else E := by
  have hw : Region.wanted o (yielded ops a.tmps) = true := by simp [Region.wanted, hgd]
  rw [if_pos hw]
  exact wp_append_run s x t ho v v' x' hs hx w' hr h

theorem app_none (w : World) (A : Option Addr) (c : Nat) : (Builtin.append_ #[45, 45] 45 #[.slice none 0 0, .slice A 0 c]).run Try.prog w = .ok (.slice none 0 0) w := by
  cases A with
  | none => kernel_rfl
  | some a => kernel_rfl
theorem app_copy (w : World) (A : Option Addr) (c : Nat) (ns : List ByteArray) (h : RunesAt w A ns) (hl : ns.length ≤ 1000000) :
    ∃ (x : Option Addr × Nat) (w' : World), (Builtin.append_ #[45, 45] 45 #[.slice none 0 0, .slice A ns.length c]).run Try.prog w = .ok (slV ns.length x) w' ∧ EntR w' x.1 x.2 ns ∧ Below w.heap.size w w' := by
  obtain ⟨i0, hi, hz0, hz1, hz2⟩ := info_parts infoStr
  rcases Nat.eq_zero_or_pos ns.length with h0 | h0
  · refine ⟨(none, 0), w, ?_, ⟨fun hn => by omega, .inl ⟨rfl, h0, rfl⟩⟩, Below.refl _ _⟩
    rw [h0]
    exact app_none w A c
  · obtain ⟨a, rfl, ha, hc⟩ := h h0
    obtain ⟨g, cap, w', hr, hown, hgrow, hat, hlt⟩ := run_append_lies (P := Try.prog) (w := w) 45 45 w.heap.size 9 i0 _ 1 16 Try.underlying45 hi hz0 hz1 hz2 rfl (by decide) (.slice none 0 0) 0 [] (World.ownsRow_nil _ _ _ _)
      a ns.length c (ns.map (Value.string)) (by simp) (fun j u hu => by
        rw [List.getElem?_map] at hu
        have hj : j < ns.length := by
          rcases Nat.lt_or_ge j ns.length with c | c
          · exact c
          · rw [List.getElem?_eq_none c] at hu; cases hu
        rw [List.getElem?_eq_getElem hj] at hu
        rw [hc j hj, List.getD_eq_getElem?_getD, List.getElem?_eq_getElem hj]
        exact hu) (by intro u hu; obtain ⟨z, _, rfl⟩ := List.mem_map.1 hu; rfl) h0 (by unfold maxLen; omega) (by omega) (Nat.le_refl _) w.heap.size rfl
    rw [Nat.zero_add, List.nil_append] at hown
    rw [Nat.zero_add] at hr
    refine ⟨(some ⟨g, 0, none⟩, cap), w', hr, ⟨fun _ => ⟨⟨g, 0, none⟩, rfl, hlt, fun j hj => ?_⟩, ?_⟩, (Below.refl _ w).grown hgrow (Nat.le_refl _) (fun k e => by cases e)⟩
    · rw [addr_add0, Nat.zero_add, hown.cellAt j (by omega), List.getElem?_map, List.getElem?_eq_getElem hj, List.getD_eq_getElem?_getD, List.getElem?_eq_getElem hj]
      rfl
    · rcases hown.2 with ⟨h', _⟩ | ⟨g', cap', cur, h', _, hg, hcap, _, hsz, _⟩
      · simp at h'
      · simp only [Value.slice.injEq, Option.some.injEq, Addr.mk.injEq, and_true, true_and] at h'
        obtain ⟨rfl, rfl⟩ := h'
        exact .inr ⟨g, cur, rfl, hg, by omega, hcap⟩

/-- an owned row, as a block -/
theorem own_blk {w : World} {base : Nat} {e : TypeId} {v : Value} {n : Nat} {xs : List Value} (h : w.ownsRow base e 1 v n xs) (hn : 0 < n) :
    ∃ g cap cur, v = .slice (some ⟨g, 0, none⟩) n cap ∧ base ≤ g ∧ Blk w g e cur ∧ n ≤ cap ∧ ∀ j, j < n → cur[j]? = xs[j]? := by
  rcases h.2 with ⟨_, h0⟩ | ⟨g, cap, cur, hv, hb, hg, hcap, _, hsz, htake⟩
  · omega
  · refine ⟨g, cap, cur, hv, hb, hg, hcap, fun j hj => ?_⟩
    rw [← htake, List.getElem?_take, if_pos (by omega)]
    simp
/-- a book to keep is a book -/
theorem KeepR.book {w : World} {base B : Nat} {vl vw : Value} {hd : Int} {E V : List (Option Addr × Nat)} {ns : List ByteArray} (h : KeepR w base B vl vw hd E V ns) (hk : 0 < E.length) (hv : V.length = E.length)
    (hap : ∀ i j, i < E.length → j < E.length → i ≠ j → ∀ g, (E.getD i (none, 0)).1 = some ⟨g, 0, none⟩ → (E.getD j (none, 0)).1 ≠ some ⟨g, 0, none⟩) :
    ∃ gl cl gw cw, vl = .slice (some ⟨gl, 0, none⟩) E.length cl ∧ vw = .slice (some ⟨gw, 0, none⟩) E.length cw ∧
      BookR w B gl 0 cl gw 0 cw hd E.length (fun j => (E.getD j (none, 0)).1) (fun j => (E.getD j (none, 0)).2) (fun j => (V.getD j (none, 0)).1) (fun j => (V.getD j (none, 0)).2) ns := by
  obtain ⟨gl, cl, rl, e1, _, hb1, hc1, hr1⟩ := own_blk h.lists hk
  obtain ⟨gw, cw, rw_, e2, _, hb2, hc2, hr2⟩ := own_blk h.was (by omega)
  rw [hv] at e2 hc2 hr2
  refine ⟨gl, cl, gw, cw, e1, e2, ?_, ⟨rl, hb1, fun j hj => ?_⟩, ⟨rw_, hb2, fun j hj => ?_⟩, hc1, hc2, fun j hj => ?_, fun j hj => ?_, hap⟩
  · have := h.blk
    rw [e1, e2] at this
    exact this
  · rw [Nat.zero_add, hr1 j hj, List.getElem?_map, List.getElem?_eq_getElem hj, List.getD_eq_getElem?_getD, List.getElem?_eq_getElem hj]
    rfl
  · have hj2 : j < V.length := by omega
    rw [Nat.zero_add, hr2 j hj, List.getElem?_map, List.getElem?_eq_getElem hj2, List.getD_eq_getElem?_getD, List.getElem?_eq_getElem hj2]
    rfl
  · have h2 := h.ent _ (List.getElem_mem hj)
    rw [List.getD_eq_getElem?_getD, List.getElem?_eq_getElem hj]
    exact h2
  · have hj2 : j < V.length := by omega
    have h2 := h.copy _ (List.getElem_mem hj2)
    rw [List.getD_eq_getElem?_getD, List.getElem?_eq_getElem hj2]
    exact h2
/-- the first list is let go -/
theorem BookR.drop {w : World} {B gl ol cl gw ow cw : Nat} {hd hd2 : Int} {k : Nat} {A : Nat → Option Addr} {C : Nat → Nat} {V : Nat → Option Addr} {D : Nat → Nat} {ns : List ByteArray}
    (h : BookR w B gl ol cl gw ow cw hd (k + 1) A C V D ns) {w' : World} (hblk : Blk w' B 43 #[.slice (some ⟨gl, ol + 1, none⟩) k (cl - 1), .slice (some ⟨gw, ow + 1, none⟩) k (cw - 1), .int .i64 hd2, .bool false])
    (hs : w.heap.size ≤ w'.heap.size) (ho : ∀ b, b ≠ B → w'.heap[b]? = w.heap[b]?) : BookR w' B gl (ol + 1) (cl - 1) gw (ow + 1) (cw - 1) hd2 k (fun j => A (j + 1)) (fun j => C (j + 1)) (fun j => V (j + 1)) (fun j => D (j + 1)) ns := by
  obtain ⟨r, hr, hr2⟩ := h.lists
  obtain ⟨q, hq, hq2⟩ := h.was
  have h1 := h.cl
  have h2 := h.cw
  have hB := h.blk
  refine ⟨hblk, ⟨r, hr.of (ho _ (blk_ne hr hB (by decide))), fun j hj => ?_⟩, ⟨q, hq.of (ho _ (blk_ne hq hB (by decide))), fun j hj => ?_⟩, by omega, by omega, fun j hj => ?_, fun j hj => ?_, fun i j hi hj hne g => h.apart (i + 1) (j + 1) (by omega) (by omega) (by omega) g⟩
  · rw [show ol + 1 + j = ol + (j + 1) by omega]; exact hr2 (j + 1) (by omega)
  · rw [show ow + 1 + j = ow + (j + 1) by omega]; exact hq2 (j + 1) (by omega)
  · exact (h.ent (j + 1) (by omega)).of hs fun g row hg => ho _ (blk_ne hg hB (by decide))
  · exact (h.copy (j + 1) (by omega)).of hs fun g row hg => ho _ (blk_ne hg hB (by decide))
end Go.Proofs.Ytkenffbonnbflaa
