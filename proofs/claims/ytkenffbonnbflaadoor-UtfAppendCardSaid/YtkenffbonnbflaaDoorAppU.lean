/- Walks: utf.Append; append at bytes, as owned rows. -/
import Derived.Test.YtkenffbonnbflaaDoorBookYS
import Derived.Test.YtkenffbonnbflaaDoorValidU
namespace Go.Proofs.YtkenffbonnbflaaDoor
open Go.RowKit
set_option linter.unusedVariables false

theorem wpList_append_run' {P : Program} {ops : Array Oper} {rest : List Oper} {o : Oper} {a : Act} {w : World} {Q : Exit → Act → World → Prop} (hgd : o.guard = none) (s x : Operand) (t : TypeId)
    (ho : o.op = .call { callee := .builtin .append, args := #[s, x], argTypes := #[t, t] }) (v v' x' : Value) (hs : a.eval s = v) (hx : a.eval x = x') (w' : World)
    (hr : (Builtin.append_ #[t, t] o.type #[v, x']).run P w = .ok v' w') (h : wpList P ops Q rest (a.put o.dst v') w') : wpList P ops Q (o :: rest) a w :=
  wpList_plain hgd fun K hK => wp_append_run s x t ho v v' x' hs hx w' hr (hK _ _ h)

/-- an operation behind a guard that lets it by -/
theorem wpList_g {P : Program} {ops : Array Oper} {rest : List Oper} {o : Oper} {a : Act} {w : World} {Q : Exit → Act → World → Prop} (hw : Region.wanted o (yielded ops a.tmps) = true)
    (h : ∀ K : Act → World → Prop, (∀ a w, wpList P ops Q rest a w → K a w) → o.wp P a w K Q) : wpList P ops Q (o :: rest) a w :=
  wpList_step fun K hK => by rw [if_pos hw]; exact h K hK

/-- what Append makes -/
def appI (ns : List Int) (r : Int) : List Int := if Lib.validRune r then ns ++ Lib.encodeRuneZ r else []
def appE (r : Int) : Int := if Lib.validRune r then 0 else 12
theorem appI_yes {ns : List Int} {r : Int} (h : Lib.validRune r = true) : appI ns r = ns ++ Lib.encodeRuneZ r := by unfold appI; rw [if_pos h]
theorem appI_no {ns : List Int} {r : Int} (h : Lib.validRune r = false) : appI ns r = [] := by unfold appI; rw [if_neg (by rw [h]; decide)]
theorem appE_yes {r : Int} (h : Lib.validRune r = true) : appE r = 0 := by unfold appE; rw [if_pos h]
theorem appE_no {r : Int} (h : Lib.validRune r = false) : appE r = 12 := by unfold appE; rw [if_neg (by rw [h]; decide)]
theorem encZ_cells (r : Int) : Lib.strCells (Utf8.encode r) = (Lib.encodeRuneZ r).map (Value.int .u8) := by
  have h : Lib.strCells (Utf8.encode r) = Lib.byteCells (Lib.encodeRune r) := by
    unfold Lib.strCells Lib.byteCells
    rw [encode_list]
  rw [h, Lib.byteCells_encodeRune]
  rfl
theorem encZ_size (r : Int) : (Utf8.encode r).size = (Lib.encodeRuneZ r).length := by
  rw [← Lib.strCells_length, encZ_cells, List.length_map]
theorem encZ_le (r : Int) : (Lib.encodeRuneZ r).length ≤ 4 := by
  rw [← encZ_size]; exact encode_size_le r
/-- append(nil, l...) as an owned row -/
theorem app_own (w : World) (A : Option Addr) (c : Nat) (ns : List Int) (h : RunesAtY w A ns) (hl : ns.length ≤ 140737488351232) :
    ∃ (v : Value) (w' : World), (Builtin.append_ #[56, 56] 56 #[.slice none 0 0, .slice A ns.length c]).run Tryd.prog w = .ok v w' ∧ w'.ownsRow w.heap.size 5 1 v ns.length (ns.map (Value.int .u8)) ∧ Below w.heap.size w w' := by
  obtain ⟨i0, hi, hz0, hz1, hz2⟩ := info_parts infoU8
  rcases Nat.eq_zero_or_pos ns.length with h0 | h0
  · have e : ns = [] := List.eq_nil_of_length_eq_zero h0
    subst e
    exact ⟨.slice none 0 0, w, app_noneY w A c, World.ownsRow_nil _ _ _ _, Below.refl _ _⟩
  · obtain ⟨a, rfl, ha, hc⟩ := h h0
    obtain ⟨g, cap, w', hr, hown, hgrow, hat, hlt⟩ := run_append_lies (P := Tryd.prog) (w := w) 56 56 w.heap.size 5 i0 _ 1 1 Tryd.underlying56 hi hz0 hz1 hz2 rfl (by decide) (.slice none 0 0) 0 [] (World.ownsRow_nil _ _ _ _)
      a ns.length c (ns.map (Value.int .u8)) (by simp) (fun j u hu => by
        rw [List.getElem?_map] at hu
        have hj : j < ns.length := by
          rcases Nat.lt_or_ge j ns.length with c | c
          · exact c
          · rw [List.getElem?_eq_none c] at hu; cases hu
        rw [List.getElem?_eq_getElem hj] at hu
        rw [hc j hj, List.getD_eq_getElem?_getD, List.getElem?_eq_getElem hj]
        exact hu) (by intro u hu; obtain ⟨z, _, rfl⟩ := List.mem_map.1 hu; rfl) h0 (by unfold maxLen; omega) (by omega) (Nat.le_refl _) w.heap.size rfl
    rw [Nat.zero_add, List.nil_append] at hown
    rw [Nat.zero_add] at hr
    exact ⟨_, w', hr, hown, (Below.refl _ w).grown hgrow (Nat.le_refl _) (fun k e => by cases e)⟩
/-- an owned row of bytes, as a list in new memory -/
theorem own_freshY {w w' : World} {n : Nat} {v : Value} {ns : List Int} (h : w'.ownsRow w.heap.size 5 1 v n (ns.map (Value.int .u8))) : ∃ A c, v = .slice A ns.length c ∧ FreshRY w w' A c ns := by
  have hl : n = ns.length := by have := h.1; rw [List.length_map] at this; omega
  subst hl
  rcases h.2 with ⟨rfl, h0⟩ | ⟨g, cap, cur, rfl, hb, hg, hcap, hm, hsz, htake⟩
  · exact ⟨none, 0, by rw [h0], ⟨fun hn => by omega, .inl ⟨rfl, h0, rfl⟩⟩, by decide, fun g hg => by cases hg⟩
  · refine ⟨some ⟨g, 0, none⟩, cap, rfl, ⟨fun _ => ⟨⟨g, 0, none⟩, rfl, (Array.getElem?_eq_some_iff.1 hg).1, fun j hj => ?_⟩, .inr ⟨g, cur, rfl, hg, by omega, hcap⟩⟩, by unfold maxLen at hm; omega, fun g' hg' => by cases hg'; exact hb⟩
    rw [addr_add0, Nat.zero_add, h.cellAt j (by omega), List.getElem?_map, List.getElem?_eq_getElem hj, List.getD_eq_getElem?_getD, List.getElem?_eq_getElem hj]
    rfl
theorem fresh_noneY (w w' : World) : FreshRY w w' none 0 [] := ⟨⟨fun hn => by simp at hn, .inl ⟨rfl, rfl, rfl⟩⟩, by decide, fun g hg => by cases hg⟩
theorem fresh_runesY {w w' : World} {A : Option Addr} {c : Nat} {ns : List Int} (h : FreshRY w w' A c ns) : RunesAtY w' A ns := h.1.1

def AppEnd (ns : List Int) (r : Int) (w : World) (e : Ending) (w' : World) : Prop :=
  (∃ A c, e = .returned (.tuple #[.slice A (appI ns r).length c, .int .i64 (appE r)]) ∧ FreshRY w w' A c (appI ns r)) ∧ Below w.heap.size w w'
set_option maxRecDepth 100000 in
set_option maxHeartbeats 2000000 in
theorem utfAppend (ns : List Int) (A : Option Addr) (c : Nat) (r : Int) (w : World) (h : RunesAtY w A ns) (hl : ns.length ≤ 140737488351232) :
    Calls Tryd.prog 45 #[.slice A ns.length c, .int .i32 r] w (AppEnd ns r w) := by
  obtain ⟨i0, hi, hz0, hz1, hz2⟩ := info_parts infoU8
  have HV : ∀ w, Calls Tryd.prog 85 #[.int .i32 r] w fun e w' => e = .returned (.bool (Lib.validRune r)) ∧ w = w' := fun w => (Tryd.utf8_ValidRune r w).mono (by rintro e w' ⟨rfl, rfl⟩; exact ⟨rfl, rfl⟩)
  cases hv : Lib.validRune r with
  | false =>
    rw [hv] at HV
    have HV := Lib.hid HV
    have Hv := Lib.hid hv
    clear hv h
    go_enter Tryd.func45, Tryd.ntmps45
    go_wp2_with (go_at_call 85; refine (HV.out _).mono ?_; rintro e w' ⟨rfl, rfl⟩)
    go_ret2
    unfold AppEnd
    rw [appI_no Hv.out, appE_no Hv.out]
    exact ⟨⟨none, 0, rfl, fresh_noneY _ _⟩, Below.refl _ _⟩
  | true =>
    rw [hv] at HV
    have HV := Lib.hid HV
    have Hv := Lib.hid hv
    obtain ⟨v1, w1, hcp, hown, hb1⟩ := app_own w A c ns h hl
    obtain ⟨n, hn⟩ : ∃ n, ns.length = n := ⟨_, rfl⟩
    have Hn := Lib.hid hn
    have hz := encZ_size r
    have hz4 := encZ_le r
    have hsz := hb1.size
    have hlt3 := hown.lt
    rw [hn] at hcp hown hl
    rw [hn]
    clear hv h hn
    go_enter Tryd.func45, Tryd.ntmps45
    go_wp2_with (first
      | (go_at_call 85; refine (HV.out _).mono ?_; rintro e w' ⟨rfl, rfl⟩)
      | (at_builtin; refine wpList_append_run' rfl _ _ 56 rfl (.slice none 0 0) v1 (.slice A n c) rfl rfl w1 hcp ?_)
      | (at_builtin; go_must (refine Lib.wpList_append_own_string _ rfl _ _ 56 9 rfl w.heap.size 5 i0 Tryd.underlying56 Tryd.underlying9 hi hz0 hz1 hz2 v1 n _ rfl hown (Utf8.encode r) rfl (by unfold maxLen; omega) (by omega) hsz ?_); intro v' w2 hown' hgrow _))
    go_ret2
    have hown2 : w2.ownsRow w.heap.size 5 1 v' (n + (Utf8.encode r).size) ((ns ++ Lib.encodeRuneZ r).map (Value.int .u8)) := by
      rw [List.map_append, ← encZ_cells]
      exact hown'
    obtain ⟨A2, c2, rfl, hF⟩ := own_freshY hown2
    unfold AppEnd
    rw [appI_yes Hv.out, appE_yes Hv.out]
    exact ⟨⟨_, _, rfl, hF⟩, hb1.grown hgrow hsz (fun k e => (hlt3 k e).1)⟩
end Go.Proofs.YtkenffbonnbflaaDoor
