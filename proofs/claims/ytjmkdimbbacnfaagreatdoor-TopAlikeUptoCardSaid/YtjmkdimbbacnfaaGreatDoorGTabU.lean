/- tables: wrong, low, fixed; sets: wrong, Right: what they answer. slices.Clone, slices.Clip at a table's lists. (Printed by gen_clone.py.) -/
import Derived.Test.YtjmkdimbbacnfaaGreatDoorGQuiet
import Derived.Test.YtjmkdimbbacnfaaGreatDoorGShA
import Derived.Lib.SliceRun
namespace Go.Proofs.YtjmkdimbbacnfaaGreatDoor
section
open Go.RowKit
set_option linter.unusedVariables false
theorem valid_isRune (r : Int) : Lib.validRune r = isRune r := by
  unfold Lib.validRune isRune
  rw [Bool.eq_iff_iff]
  simp only [decide_eq_true_eq]
  omega

theorem tab_wrong (a b c : Int) (w : World) :
    Calls Tryz.prog 53 #[.int .i64 a, .int .i64 b, .int .i64 c] w fun e w' => e = .returned (.agg #[.int .i64 a, .int .i64 b, .int .i64 c]) ∧ Below w.heap.size w w' := by
  go_enter Tryz.func53, Tryz.ntmps53
  go_wp2_with fail
  refine bodyPost_ret (v := .agg #[.int .i64 a, .int .i64 b, .int .i64 c]) ?_ rfl ⟨rfl, (Below.refl _ w).alloc (Nat.le_refl _) _⟩
  simp [results, Tryz.results53, go_sem]
set_option maxHeartbeats 1000000 in
theorem tab_low (r : Int) (w : World) :
    Calls Tryz.prog 62 #[.int .i32 r] w fun e w' => e = .returned (.bool (lowR r)) ∧ w = w' := by
  go_enter Tryz.func62, Tryz.ntmps62
  by_cases h1 : r < 128
  · go_wp2
    go_ret
    exact ⟨by rw [show lowR r = true by simp [lowR]; omega]; rfl, rfl⟩
  · by_cases h2 : r = 65533
    · subst h2
      go_wp2
      go_ret
      exact ⟨rfl, rfl⟩
    · have t1 : (r == 65533) = false := by simpa using h2
      go_wp2
      go_ret
      exact ⟨by rw [show lowR r = false by simp [lowR]; omega]; rfl, rfl⟩
set_option maxHeartbeats 1000000 in
theorem tab_fixed (r : Int) (w : World) :
    Calls Tryz.prog 64 #[.int .i32 r] w fun e w' => e = .returned (.bool (setR r)) ∧ w = w' := by
  go_enter Tryz.func64, Tryz.ntmps64
  by_cases h1 : r < 32
  · go_wp2
    go_ret
    exact ⟨by rw [show setR r = true by simp [setR]; omega]; rfl, rfl⟩
  · by_cases h2 : r = 45
    · subst h2
      go_wp2
      go_ret
      exact ⟨rfl, rfl⟩
    · have t1 : (r == 45) = false := by simpa using h2
      by_cases h3 : r = 46
      · subst h3
        go_wp2
        go_ret
        exact ⟨rfl, rfl⟩
      · have t2 : (r == 46) = false := by simpa using h3
        by_cases h4 : r = 65533
        · subst h4
          go_wp2
          go_ret
          exact ⟨rfl, rfl⟩
        · have t3 : (r == 65533) = false := by simpa using h4
          go_wp2
          go_ret
          exact ⟨by rw [show setR r = false by simp [setR]; omega]; rfl, rfl⟩

/-- a span's own form -/
def spanF (m : SpanT) : Int := if isRune m.lo = false ∨ isRune m.hi = false then 12 else if m.hi < m.lo then 11 else 0
theorem spanAt_F {l : List SpanT} {k : Nat} {m : SpanT} (h : spanF m ≠ 0) : spanAt l k m = spanF m := by
  unfold spanF at h ⊢
  unfold spanAt
  split
  · rfl
  · split
    · rfl
    · rename_i h1 h2
      rw [if_neg h1, if_neg h2] at h
      exact absurd rfl h
theorem spanAt_F0 {l : List SpanT} {k : Nat} {m : SpanT} (h : spanF m = 0) : spanAt l k m = if 0 < k ∧ prevBad l k m = true then 13 else 0 := by
  unfold spanF at h
  unfold spanAt
  split at h
  · cases h
  · split at h
    · cases h
    · rename_i h1 h2
      rw [if_neg h1, if_neg h2]

set_option maxHeartbeats 2000000 in
theorem set_wrong (m : SpanT) (w : World) :
    Calls Tryz.prog 117 #[.agg #[.int .i32 m.lo, .int .i32 m.hi]] w fun e w' => e = .returned (.int .i64 (spanF m)) ∧ Below w.heap.size w w' := by
  have HR := Lib.hid (fun r b (hb : isRune r = b) w0 => (Tryz.utf8_ValidRune r w0).mono (R' := fun e w' => e = .returned (.bool b) ∧ w0 = w') (fun e w' h => ⟨by rw [← hb, ← valid_isRune]; exact h.1, h.2.symm⟩))
  have hb : Hid (Below w.heap.size w (w.alloc (.cells #[.int .i32 m.lo, .int .i32 m.hi] 73))) := Lib.hid ((Below.refl _ w).alloc (Nat.le_refl _) _)
  go_enter Tryz.func117, Tryz.ntmps117
  cases h1 : isRune m.lo with
  | false =>
    go_wp2_with (go_at_call 56; refine (HR.out _ _ (by assumption) _).mono ?_; rintro e w' ⟨rfl, rfl⟩)
    go_ret
    exact ⟨by unfold spanF; rw [if_pos (.inl h1)]; rfl, hb.out⟩
  | true =>
    cases h2 : isRune m.hi with
    | false =>
      go_wp2_with (go_at_call 56; refine (HR.out _ _ (by assumption) _).mono ?_; rintro e w' ⟨rfl, rfl⟩)
      go_ret
      exact ⟨by unfold spanF; rw [if_pos (.inr h2)]; rfl, hb.out⟩
    | true =>
      by_cases h3 : m.hi < m.lo
      · go_wp2_with (go_at_call 56; refine (HR.out _ _ (by assumption) _).mono ?_; rintro e w' ⟨rfl, rfl⟩)
        go_ret
        exact ⟨by unfold spanF; rw [if_neg (by simp [h1, h2]), if_pos h3]; rfl, hb.out⟩
      · go_wp2_with (go_at_call 56; refine (HR.out _ _ (by assumption) _).mono ?_; rintro e w' ⟨rfl, rfl⟩)
        go_ret
        exact ⟨by unfold spanF; rw [if_neg (by simp [h1, h2]), if_neg (by omega)]; rfl, hb.out⟩

/-- what Right hands back -/
def rightP (l : List SpanT) : Int × Int := match spansW l 0 with | none => (0, 0) | some (a, _, k) => (k, a)
set_option maxRecDepth 100000 in
set_option maxHeartbeats 4000000 in
theorem set_Right {w : World} {v : Value} (l : List SpanT) (h : ListAt w v 2 (l.map encSpan)) :
    Calls Tryz.prog 55 #[v] w fun e w' => e = .returned (.tuple #[.int .i64 (rightP l).1, .int .i64 (rightP l).2]) ∧ Below w.heap.size w w' := by
  have HL := Lib.hid h
  obtain ⟨A, c, rfl, hn⟩ := h.form
  obtain ⟨n, hln⟩ : ∃ n, l.length = n := ⟨_, rfl⟩
  rw [hln] at hn HL
  rw [hln]
  have Hl := Lib.hid hln
  clear hln h
  have HW := Lib.hid (fun m w => set_wrong m w)
  go_enter Tryz.func55, Tryz.ntmps55
  go_wp2_with fail
  go_loopw [9] (fun i wr => ∃ k : Nat, k ≤ n ∧ i = .int .i64 (k : Int) ∧ NoneTo (spanAt l) l k ∧ Below w.heap.size w wr) (fun i _ => n - (intOf i).toNat)
  case atStart => exact ⟨0, Nat.zero_le _, rfl, NoneTo.zero _ _, Below.refl _ _⟩
  case round =>
    obtain ⟨k, hk, rfl, hno, hb⟩ := hrel
    have Hno := Lib.hid hno
    have Hb := Lib.hid hb
    by_cases hlt : k < n
    · obtain ⟨m, hm⟩ : ∃ m, l[k]? = some m := ⟨_, List.getElem?_eq_getElem (by rw [Hl.out]; exact hlt)⟩
      obtain ⟨a, rfl, e0, e1⟩ := el2 HL.out hb hm rfl
      have Hm := Lib.hid hm
      have Hs : Hid (Blk (wr.alloc (.cells #[.int .i32 m.lo, .int .i32 m.hi] 73)) wr.heap.size 73 #[.int .i32 m.lo, .int .i32 m.hi]) := Lib.hid (Blk.new wr _ _)
      have Hb1 := Lib.hid ((Below.refl _ wr).alloc (Nat.le_refl _) (.cells #[.int .i32 m.lo, .int .i32 m.hi] 73))
      have k0 : (0 : Int) ≤ (k : Int) := by omega
      have k1 : (k : Int) < (n : Int) := by omega
      clear hno hb hm
      by_cases h0 : spanF m = 0
      · have Hf := Lib.hid h0
        have HW' : Hid (∀ w, Calls Tryz.prog 117 #[.agg #[.int .i32 m.lo, .int .i32 m.hi]] w fun e w' => e = .returned (.int .i64 0) ∧ Below w.heap.size w w') := Lib.hid (fun w => by have h := HW.out m w; rw [h0] at h; exact h)
        clear h0
        by_cases hz : 0 < k
        · obtain ⟨j, hj⟩ : ∃ j, k - 1 = j := ⟨_, rfl⟩
          obtain ⟨p, hp⟩ : ∃ p, l[j]? = some p := ⟨_, List.getElem?_eq_getElem (by rw [Hl.out]; omega)⟩
          obtain ⟨a', ea, -, d1⟩ := el2 HL.out Hb.out hp rfl
          cases ea
          have j0 : (0 : Int) ≤ (j : Int) := by omega
          have j1 : (j : Int) < (n : Int) := by omega
          have ej : (k : Int) - 1 = (j : Int) := by omega
          have g0 : (0 : Int) < (k : Int) := by omega
          have Hp := Lib.hid hp
          have Hj := Lib.hid hj
          have hqa := World.block_lt_of_cell? wr _ d1
          clear hp hj
          by_cases h3 : m.lo ≤ p.hi
          · have H0 : Hid (spanAt l k m = 13) := Lib.hid (by rw [spanAt_F0 Hf.out, if_pos ⟨hz, by unfold prevBad; rw [Hj.out, Hp.out]; simpa using h3⟩])
            go_wp2_with (go_at_call 117; refine (HW'.out _).mono ?_; rintro e w2 ⟨rfl, hb2⟩; have s0 : w2.cell? ⟨wr.heap.size, 0, none⟩ = some (.int .i32 m.lo) := (Hs.out.below hb2).cell 0; have d2 := ((Hb1.out.trans (hb2.mono Hb1.out.size)).cell hqa).trans d1)
            go_quiet (fail)
            go_wp2_with fail
            go_ret2
            exact ⟨by unfold rightP; rw [show spansW l 0 = _ from Hno.out.found Hm.out (by rw [H0.out]; decide) 0, H0.out]; rfl, Below.drwN ((Hb.out.trans (Hb1.out.mono Hb.out.size)).trans (hb2.mono (Nat.le_trans Hb.out.size Hb1.out.size))) _⟩
          · have H0 : Hid (spanAt l k m = 0) := Lib.hid (by rw [spanAt_F0 Hf.out, if_neg (by rintro ⟨_, h⟩; unfold prevBad at h; rw [Hj.out, Hp.out] at h; exact h3 (by simpa using h))])
            go_wp2_with (go_at_call 117; refine (HW'.out _).mono ?_; rintro e w2 ⟨rfl, hb2⟩; have s0 : w2.cell? ⟨wr.heap.size, 0, none⟩ = some (.int .i32 m.lo) := (Hs.out.below hb2).cell 0; have d2 := ((Hb1.out.trans (hb2.mono Hb1.out.size)).cell hqa).trans d1)
            go_quiet (fail)
            go_wp2_with fail
            go_roundw
            case rel => exact ⟨k + 1, by omega, by go_num, Hno.out.succ Hm.out H0.out, Below.drwN ((Hb.out.trans (Hb1.out.mono Hb.out.size)).trans (hb2.mono (Nat.le_trans Hb.out.size Hb1.out.size))) _⟩
            case measure => simp [intOf]; omega
        · have g0 : ¬ (0 : Int) < (k : Int) := by omega
          have H0 : Hid (spanAt l k m = 0) := Lib.hid (by rw [spanAt_F0 Hf.out, if_neg (by rintro ⟨h, _⟩; exact hz h)])
          go_wp2_with (go_at_call 117; refine (HW'.out _).mono ?_; rintro e w2 ⟨rfl, hb2⟩)
          go_quiet (fail)
          go_wp2_with fail
          go_roundw
          case rel => exact ⟨k + 1, by omega, by go_num, Hno.out.succ Hm.out H0.out, Below.drwN ((Hb.out.trans (Hb1.out.mono Hb.out.size)).trans (hb2.mono (Nat.le_trans Hb.out.size Hb1.out.size))) _⟩
          case measure => simp [intOf]; omega
      · have h1 : (spanF m != 0) = true := by simpa using h0
        have H0 : Hid (spanAt l k m = spanF m) := Lib.hid (spanAt_F h0)
        have Hne := Lib.hid h0
        clear h0
        go_wp2_with (go_at_call 117; refine (HW.out m _).mono ?_; rintro e w2 ⟨rfl, hb2⟩)
        go_ret2
        exact ⟨by unfold rightP; rw [show spansW l 0 = _ from Hno.out.found Hm.out (by rw [H0.out]; exact Hne.out) 0, H0.out]; rfl, (Hb.out.trans (Hb1.out.mono Hb.out.size)).trans (hb2.mono (Nat.le_trans Hb.out.size Hb1.out.size))⟩
    · obtain rfl : k = n := by omega
      go_wp2_with fail
      go_ret2
      exact ⟨by unfold rightP; rw [show spansW l 0 = none from NoneTo.all (by rw [Hl.out]; exact Hno.out) 0]; rfl, Hb.out⟩

end
section
open Go.RowKit
set_option linter.unusedVariables false
theorem flat_get {k : Nat} (hk : 0 < k) : ∀ (L : List (List Value)) (j : Nat), (∀ x ∈ L, x.length = k) → L.flatten[j]? = (L[j / k]?).bind fun x => x[j % k]?
  | [], j, _ => by simp
  | x :: r, j, h => by
    have hx := h x (by simp)
    rw [List.flatten_cons]
    by_cases hj : j < k
    · rw [List.getElem?_append_left (by omega), Nat.div_eq_of_lt hj, Nat.mod_eq_of_lt hj]; rfl
    · rw [List.getElem?_append_right (by omega), hx, flat_get hk r (j - k) (fun y hy => h y (by simp [hy]))]
      have e1 : j / k = (j - k) / k + 1 := by rw [Nat.div_eq_sub_div hk (by omega)]
      have e2 : j % k = (j - k) % k := by rw [Nat.mod_eq_sub_mod (by omega)]
      rw [e1, e2]; rfl
theorem flat_length {k : Nat} : ∀ (L : List (List Value)), (∀ x ∈ L, x.length = k) → L.flatten.length = L.length * k
  | [], _ => by simp
  | x :: r, h => by
    rw [List.flatten_cons, List.length_append, flat_length r (fun y hy => h y (by simp [hy])), h x (by simp), List.length_cons, Nat.succ_mul, Nat.add_comm]
/-- rows of k cells, each of one cell -/
def Rows (k : Nat) (L : List (List Value)) : Prop := ∀ x ∈ L, x.length = k ∧ ∀ u ∈ x, u.oneCell' = true
/-- a copy of the call's own -/
theorem listAt_own {w : World} {base k n : Nat} {e : TypeId} {v : Value} {L : List (List Value)} (hk : 0 < k) (hR : Rows k L) (hn : n = L.length) (hm : L.length ≤ 2097152) (h : w.ownsRow base e k v n L.flatten) : ∃ A c, v = .slice A L.length c ∧ n ≤ c ∧ ListAt w (.slice A L.length c) k L ∧ (0 < L.length → ∃ g cur, A = some ⟨g, 0, none⟩ ∧ base ≤ g ∧ Blk w g e cur) := by
  subst hn
  have hc : ∃ c, (∃ A, v = .slice A L.length c) ∧ L.length ≤ c := by
    obtain ⟨h1, ⟨h2, h3⟩ | ⟨g, cap, cur, h2, h3, h4, h5, _⟩⟩ := h
    · exact ⟨0, ⟨none, by rw [h2, h3]⟩, by omega⟩
    · exact ⟨cap, ⟨_, h2⟩, h5⟩
  obtain ⟨c0, ⟨A0, h0⟩, hle⟩ := hc
  obtain ⟨A, c, hv, hA⟩ := own_form h
  have ec : c0 = c := by rw [hv] at h0; cases h0; rfl
  subst ec
  refine ⟨A, c0, hv, hle, ⟨A, c0, rfl, hm, fun hpos => ?_⟩, fun hpos => by
    obtain ⟨h1, ⟨h2, h3⟩ | ⟨g, cap, cur, h2, h3, h4, _⟩⟩ := h
    · omega
    · rw [h2] at hv
      cases hv
      exact ⟨g, cur, rfl, h3, h4⟩⟩
  obtain ⟨g, rfl, _, hlt, hc⟩ := hA hpos
  refine ⟨⟨g, 0, none⟩, rfl, hlt, fun i x j u hi hj => ?_⟩
  have hx := (hR x (List.mem_of_getElem? hi)).1
  have hjk : j < k := by rw [← hx]; exact (List.getElem?_eq_some_iff.1 hj).1
  have hil := (List.getElem?_eq_some_iff.1 hi).1
  have e1 : (⟨g, 0, none⟩ : Addr).add (i * k + j) = ⟨g, i * k + j, none⟩ := by
    unfold Addr.add
    by_cases h : i * k + j = 0
    · rw [h]; rfl
    · rw [if_neg h]; simp
  have hlt2 : i * k + j < L.length * k := by
    have : (i + 1) * k ≤ L.length * k := Nat.mul_le_mul_right k hil
    rw [Nat.succ_mul] at this
    omega
  rw [e1, hc _ hlt2, flat_get hk L _ (fun x hx => (hR x hx).1)]
  have d1 : (i * k + j) / k = i := by rw [Nat.mul_comm, Nat.mul_add_div hk, Nat.div_eq_of_lt hjk, Nat.add_zero]
  have d2 : (i * k + j) % k = j := by rw [Nat.mul_comm, Nat.mul_add_mod, Nat.mod_eq_of_lt hjk]
  rw [d1, d2, hi]
  exact hj
theorem own_empty (w : World) (e : TypeId) (k : Nat) : (w.alloc (.cells #[] e)).ownsRow w.heap.size e k (.slice (some ⟨w.heap.size, 0, none⟩) 0 0) 0 [] :=
  ⟨by simp, .inr ⟨w.heap.size, 0, #[], rfl, Nat.le_refl _, Blk.new w e #[], Nat.le_refl _, Nat.zero_le _, by simp, by simp⟩⟩

theorem info_script : (Tryz.prog.info? 59).map (fun i => (i.zero, i.size, i.bytes)) = some (some (.agg #[.string ⟨#[]⟩, .slice none 0 0]), 2, 40) := by kernel_rfl
set_option maxRecDepth 100000 in
set_option maxHeartbeats 4000000 in
theorem clone_script {w : World} {v : Value} {L : List (List Value)} (h : ListAt w v 2 L) (hR : Rows 2 L) :
    Calls Tryz.prog 67 #[v] w fun e w' => ∃ A c, e = .returned (.slice A L.length c) ∧ L.length ≤ c ∧ ListAt w' (.slice A L.length c) 2 L ∧ (0 < L.length → ∃ g cur, A = some ⟨g, 0, none⟩ ∧ w.heap.size ≤ g ∧ Blk w' g 59 cur) ∧ Below w.heap.size w w' := by
  obtain ⟨i0, hi, hz0, hz1, hz2⟩ := info_parts info_script
  have HL := Lib.hid h
  have HR := Lib.hid hR
  obtain ⟨A, c, rfl, hm, hc⟩ := h
  obtain ⟨n, hn⟩ : ∃ n, L.length = n := ⟨_, rfl⟩
  rw [hn] at hm hc ⊢
  have Hn := Lib.hid hn
  have Hc := Lib.hid hc
  clear hR hc hn
  go_enter Tryz.func67, Tryz.ntmps67
  cases A with
  | none =>
    have hn0 : n = 0 := by
      rcases Nat.eq_zero_or_pos n with h | h
      · exact h
      · obtain ⟨a, e, _⟩ := Hc.out h; cases e
    subst hn0
    have heq := Lib.run_eql_slice_nil (P := Tryz.prog) w 22 59 none 0 c 0 0 Tryz.underlying22
    go_wp2_with fail
    go_ret
    exact ⟨none, 0, rfl, Nat.le_refl _, ⟨none, 0, by rw [Hn.out], by rw [Hn.out]; omega, fun h => by rw [Hn.out] at h; exact absurd h (by omega)⟩, fun h => absurd h (by decide), Below.refl _ _⟩
  | some a =>
    have heq := Lib.run_eql_slice_nil (P := Tryz.prog) w 22 59 (some a) n c 0 0 Tryz.underlying22
    have hown := own_empty w 59 2
    have hB := (Below.refl w.heap.size w).alloc (Nat.le_refl _) (.cells #[] 59)
    have hfl : L.flatten.length = n * 2 := by rw [flat_length L (fun x hx => (HR.out x hx).1), Hn.out]
    have hnews : ∀ j u, L.flatten[j]? = some u → (w.alloc (.cells #[] 59)).cell? (a.add j) = some u := fun j u hj => by
      have hjl := (List.getElem?_eq_some_iff.1 hj).1
      rw [hfl] at hjl
      obtain ⟨a', e, hlt, hcc⟩ := Hc.out (by rcases Nat.eq_zero_or_pos n with h | h; rw [h, Nat.zero_mul] at hjl; omega; exact h)
      cases e
      rw [flat_get (by omega) L j (fun x hx => (HR.out x hx).1)] at hj
      cases hx : L[j / 2]? with
      | none => rw [hx] at hj; cases hj
      | some x =>
        rw [hx] at hj
        have := hcc (j / 2) x (j % 2) u hx hj
        rw [show j / 2 * 2 + j % 2 = j by rw [Nat.mul_comm]; exact Nat.div_add_mod j 2] at this
        rw [hB.cell (p := a.add j) (by rw [addr_block']; exact hlt)]
        exact this
    have h1 : ∀ u ∈ L.flatten, u.oneCell' = true := fun u hu => by
      obtain ⟨x, hx, hux⟩ := List.mem_flatten.1 hu
      exact (HR.out x hx).2 u hux
    go_wp2_with (at_builtin; (refine wpList_append_own _ rfl _ _ 22 rfl w.heap.size 59 i0 _ 2 40 Tryz.underlying22 hi hz0 hz1 hz2 rfl (by decide) _ 0 _ rfl hown a n c L.flatten rfl hfl hnews h1 (by unfold maxLen; omega) (by omega) (by simp) ?_); intro v' w2 hown' hgrow _)
    go_ret
    rw [Nat.zero_add, List.nil_append] at hown'
    obtain ⟨A2, c2, rfl, hle, hLA, hgb⟩ := listAt_own (by omega) HR.out Hn.out.symm (by rw [Hn.out]; exact hm) hown'
    exact ⟨A2, c2, by rw [← Hn.out]; rfl, hle, by rw [← Hn.out]; exact hLA, fun h => hgb (by rw [Hn.out]; exact h), hB.grown hgrow (by simp) (fun j e => by cases e; exact Nat.le_refl _)⟩
set_option maxRecDepth 100000 in
set_option maxHeartbeats 4000000 in
theorem clip_script {w : World} {A : Option Addr} {n c : Nat} (hle : n ≤ c) (hm : n ≤ 2097152) :
    Calls Tryz.prog 66 #[.slice A n c] w fun e w' => e = .returned (.slice A n n) ∧ w = w' := by
  have k0 : (0 : Int) ≤ (n : Int) := by omega
  have k1 : (n : Int) ≤ (c : Int) := by omega
  go_enter Tryz.func66, Tryz.ntmps66
  go_wp2_with fail
  go_ret
  exact ⟨rfl, rfl⟩
theorem info_span : (Tryz.prog.info? 73).map (fun i => (i.zero, i.size, i.bytes)) = some (some (.agg #[.int .i32 0, .int .i32 0]), 2, 8) := by kernel_rfl
set_option maxRecDepth 100000 in
set_option maxHeartbeats 4000000 in
theorem clone_span {w : World} {v : Value} {L : List (List Value)} (h : ListAt w v 2 L) (hR : Rows 2 L) :
    Calls Tryz.prog 69 #[v] w fun e w' => ∃ A c, e = .returned (.slice A L.length c) ∧ L.length ≤ c ∧ ListAt w' (.slice A L.length c) 2 L ∧ (0 < L.length → ∃ g cur, A = some ⟨g, 0, none⟩ ∧ w.heap.size ≤ g ∧ Blk w' g 73 cur) ∧ Below w.heap.size w w' := by
  obtain ⟨i0, hi, hz0, hz1, hz2⟩ := info_parts info_span
  have HL := Lib.hid h
  have HR := Lib.hid hR
  obtain ⟨A, c, rfl, hm, hc⟩ := h
  obtain ⟨n, hn⟩ : ∃ n, L.length = n := ⟨_, rfl⟩
  rw [hn] at hm hc ⊢
  have Hn := Lib.hid hn
  have Hc := Lib.hid hc
  clear hR hc hn
  go_enter Tryz.func69, Tryz.ntmps69
  cases A with
  | none =>
    have hn0 : n = 0 := by
      rcases Nat.eq_zero_or_pos n with h | h
      · exact h
      · obtain ⟨a, e, _⟩ := Hc.out h; cases e
    subst hn0
    have heq := Lib.run_eql_slice_nil (P := Tryz.prog) w 23 73 none 0 c 0 0 Tryz.underlying23
    go_wp2_with fail
    go_ret
    exact ⟨none, 0, rfl, Nat.le_refl _, ⟨none, 0, by rw [Hn.out], by rw [Hn.out]; omega, fun h => by rw [Hn.out] at h; exact absurd h (by omega)⟩, fun h => absurd h (by decide), Below.refl _ _⟩
  | some a =>
    have heq := Lib.run_eql_slice_nil (P := Tryz.prog) w 23 73 (some a) n c 0 0 Tryz.underlying23
    have hown := own_empty w 73 2
    have hB := (Below.refl w.heap.size w).alloc (Nat.le_refl _) (.cells #[] 73)
    have hfl : L.flatten.length = n * 2 := by rw [flat_length L (fun x hx => (HR.out x hx).1), Hn.out]
    have hnews : ∀ j u, L.flatten[j]? = some u → (w.alloc (.cells #[] 73)).cell? (a.add j) = some u := fun j u hj => by
      have hjl := (List.getElem?_eq_some_iff.1 hj).1
      rw [hfl] at hjl
      obtain ⟨a', e, hlt, hcc⟩ := Hc.out (by rcases Nat.eq_zero_or_pos n with h | h; rw [h, Nat.zero_mul] at hjl; omega; exact h)
      cases e
      rw [flat_get (by omega) L j (fun x hx => (HR.out x hx).1)] at hj
      cases hx : L[j / 2]? with
      | none => rw [hx] at hj; cases hj
      | some x =>
        rw [hx] at hj
        have := hcc (j / 2) x (j % 2) u hx hj
        rw [show j / 2 * 2 + j % 2 = j by rw [Nat.mul_comm]; exact Nat.div_add_mod j 2] at this
        rw [hB.cell (p := a.add j) (by rw [addr_block']; exact hlt)]
        exact this
    have h1 : ∀ u ∈ L.flatten, u.oneCell' = true := fun u hu => by
      obtain ⟨x, hx, hux⟩ := List.mem_flatten.1 hu
      exact (HR.out x hx).2 u hux
    go_wp2_with (at_builtin; (refine wpList_append_own _ rfl _ _ 23 rfl w.heap.size 73 i0 _ 2 8 Tryz.underlying23 hi hz0 hz1 hz2 rfl (by decide) _ 0 _ rfl hown a n c L.flatten rfl hfl hnews h1 (by unfold maxLen; omega) (by omega) (by simp) ?_); intro v' w2 hown' hgrow _)
    go_ret
    rw [Nat.zero_add, List.nil_append] at hown'
    obtain ⟨A2, c2, rfl, hle, hLA, hgb⟩ := listAt_own (by omega) HR.out Hn.out.symm (by rw [Hn.out]; exact hm) hown'
    exact ⟨A2, c2, by rw [← Hn.out]; rfl, hle, by rw [← Hn.out]; exact hLA, fun h => hgb (by rw [Hn.out]; exact h), hB.grown hgrow (by simp) (fun j e => by cases e; exact Nat.le_refl _)⟩
set_option maxRecDepth 100000 in
set_option maxHeartbeats 4000000 in
theorem clip_span {w : World} {A : Option Addr} {n c : Nat} (hle : n ≤ c) (hm : n ≤ 2097152) :
    Calls Tryz.prog 68 #[.slice A n c] w fun e w' => e = .returned (.slice A n n) ∧ w = w' := by
  have k0 : (0 : Int) ≤ (n : Int) := by omega
  have k1 : (n : Int) ≤ (c : Int) := by omega
  go_enter Tryz.func68, Tryz.ntmps68
  go_wp2_with fail
  go_ret
  exact ⟨rfl, rfl⟩
theorem info_mark : (Tryz.prog.info? 75).map (fun i => (i.zero, i.size, i.bytes)) = some (some (.agg #[.int .i32 0, .int .i64 0]), 2, 16) := by kernel_rfl
set_option maxRecDepth 100000 in
set_option maxHeartbeats 4000000 in
theorem clone_mark {w : World} {v : Value} {L : List (List Value)} (h : ListAt w v 2 L) (hR : Rows 2 L) :
    Calls Tryz.prog 71 #[v] w fun e w' => ∃ A c, e = .returned (.slice A L.length c) ∧ L.length ≤ c ∧ ListAt w' (.slice A L.length c) 2 L ∧ (0 < L.length → ∃ g cur, A = some ⟨g, 0, none⟩ ∧ w.heap.size ≤ g ∧ Blk w' g 75 cur) ∧ Below w.heap.size w w' := by
  obtain ⟨i0, hi, hz0, hz1, hz2⟩ := info_parts info_mark
  have HL := Lib.hid h
  have HR := Lib.hid hR
  obtain ⟨A, c, rfl, hm, hc⟩ := h
  obtain ⟨n, hn⟩ : ∃ n, L.length = n := ⟨_, rfl⟩
  rw [hn] at hm hc ⊢
  have Hn := Lib.hid hn
  have Hc := Lib.hid hc
  clear hR hc hn
  go_enter Tryz.func71, Tryz.ntmps71
  cases A with
  | none =>
    have hn0 : n = 0 := by
      rcases Nat.eq_zero_or_pos n with h | h
      · exact h
      · obtain ⟨a, e, _⟩ := Hc.out h; cases e
    subst hn0
    have heq := Lib.run_eql_slice_nil (P := Tryz.prog) w 24 75 none 0 c 0 0 Tryz.underlying24
    go_wp2_with fail
    go_ret
    exact ⟨none, 0, rfl, Nat.le_refl _, ⟨none, 0, by rw [Hn.out], by rw [Hn.out]; omega, fun h => by rw [Hn.out] at h; exact absurd h (by omega)⟩, fun h => absurd h (by decide), Below.refl _ _⟩
  | some a =>
    have heq := Lib.run_eql_slice_nil (P := Tryz.prog) w 24 75 (some a) n c 0 0 Tryz.underlying24
    have hown := own_empty w 75 2
    have hB := (Below.refl w.heap.size w).alloc (Nat.le_refl _) (.cells #[] 75)
    have hfl : L.flatten.length = n * 2 := by rw [flat_length L (fun x hx => (HR.out x hx).1), Hn.out]
    have hnews : ∀ j u, L.flatten[j]? = some u → (w.alloc (.cells #[] 75)).cell? (a.add j) = some u := fun j u hj => by
      have hjl := (List.getElem?_eq_some_iff.1 hj).1
      rw [hfl] at hjl
      obtain ⟨a', e, hlt, hcc⟩ := Hc.out (by rcases Nat.eq_zero_or_pos n with h | h; rw [h, Nat.zero_mul] at hjl; omega; exact h)
      cases e
      rw [flat_get (by omega) L j (fun x hx => (HR.out x hx).1)] at hj
      cases hx : L[j / 2]? with
      | none => rw [hx] at hj; cases hj
      | some x =>
        rw [hx] at hj
        have := hcc (j / 2) x (j % 2) u hx hj
        rw [show j / 2 * 2 + j % 2 = j by rw [Nat.mul_comm]; exact Nat.div_add_mod j 2] at this
        rw [hB.cell (p := a.add j) (by rw [addr_block']; exact hlt)]
        exact this
    have h1 : ∀ u ∈ L.flatten, u.oneCell' = true := fun u hu => by
      obtain ⟨x, hx, hux⟩ := List.mem_flatten.1 hu
      exact (HR.out x hx).2 u hux
    go_wp2_with (at_builtin; (refine wpList_append_own _ rfl _ _ 24 rfl w.heap.size 75 i0 _ 2 16 Tryz.underlying24 hi hz0 hz1 hz2 rfl (by decide) _ 0 _ rfl hown a n c L.flatten rfl hfl hnews h1 (by unfold maxLen; omega) (by omega) (by simp) ?_); intro v' w2 hown' hgrow _)
    go_ret
    rw [Nat.zero_add, List.nil_append] at hown'
    obtain ⟨A2, c2, rfl, hle, hLA, hgb⟩ := listAt_own (by omega) HR.out Hn.out.symm (by rw [Hn.out]; exact hm) hown'
    exact ⟨A2, c2, by rw [← Hn.out]; rfl, hle, by rw [← Hn.out]; exact hLA, fun h => hgb (by rw [Hn.out]; exact h), hB.grown hgrow (by simp) (fun j e => by cases e; exact Nat.le_refl _)⟩
set_option maxRecDepth 100000 in
set_option maxHeartbeats 4000000 in
theorem clip_mark {w : World} {A : Option Addr} {n c : Nat} (hle : n ≤ c) (hm : n ≤ 2097152) :
    Calls Tryz.prog 70 #[.slice A n c] w fun e w' => e = .returned (.slice A n n) ∧ w = w' := by
  have k0 : (0 : Int) ≤ (n : Int) := by omega
  have k1 : (n : Int) ≤ (c : Int) := by omega
  go_enter Tryz.func70, Tryz.ntmps70
  go_wp2_with fail
  go_ret
  exact ⟨rfl, rfl⟩
theorem info_pair : (Tryz.prog.info? 77).map (fun i => (i.zero, i.size, i.bytes)) = some (some (.agg #[.int .i32 0, .int .i32 0, .int .i32 0]), 3, 12) := by kernel_rfl
set_option maxRecDepth 100000 in
set_option maxHeartbeats 4000000 in
theorem clone_pair {w : World} {v : Value} {L : List (List Value)} (h : ListAt w v 3 L) (hR : Rows 3 L) :
    Calls Tryz.prog 73 #[v] w fun e w' => ∃ A c, e = .returned (.slice A L.length c) ∧ L.length ≤ c ∧ ListAt w' (.slice A L.length c) 3 L ∧ (0 < L.length → ∃ g cur, A = some ⟨g, 0, none⟩ ∧ w.heap.size ≤ g ∧ Blk w' g 77 cur) ∧ Below w.heap.size w w' := by
  obtain ⟨i0, hi, hz0, hz1, hz2⟩ := info_parts info_pair
  have HL := Lib.hid h
  have HR := Lib.hid hR
  obtain ⟨A, c, rfl, hm, hc⟩ := h
  obtain ⟨n, hn⟩ : ∃ n, L.length = n := ⟨_, rfl⟩
  rw [hn] at hm hc ⊢
  have Hn := Lib.hid hn
  have Hc := Lib.hid hc
  clear hR hc hn
  go_enter Tryz.func73, Tryz.ntmps73
  cases A with
  | none =>
    have hn0 : n = 0 := by
      rcases Nat.eq_zero_or_pos n with h | h
      · exact h
      · obtain ⟨a, e, _⟩ := Hc.out h; cases e
    subst hn0
    have heq := Lib.run_eql_slice_nil (P := Tryz.prog) w 25 77 none 0 c 0 0 Tryz.underlying25
    go_wp2_with fail
    go_ret
    exact ⟨none, 0, rfl, Nat.le_refl _, ⟨none, 0, by rw [Hn.out], by rw [Hn.out]; omega, fun h => by rw [Hn.out] at h; exact absurd h (by omega)⟩, fun h => absurd h (by decide), Below.refl _ _⟩
  | some a =>
    have heq := Lib.run_eql_slice_nil (P := Tryz.prog) w 25 77 (some a) n c 0 0 Tryz.underlying25
    have hown := own_empty w 77 3
    have hB := (Below.refl w.heap.size w).alloc (Nat.le_refl _) (.cells #[] 77)
    have hfl : L.flatten.length = n * 3 := by rw [flat_length L (fun x hx => (HR.out x hx).1), Hn.out]
    have hnews : ∀ j u, L.flatten[j]? = some u → (w.alloc (.cells #[] 77)).cell? (a.add j) = some u := fun j u hj => by
      have hjl := (List.getElem?_eq_some_iff.1 hj).1
      rw [hfl] at hjl
      obtain ⟨a', e, hlt, hcc⟩ := Hc.out (by rcases Nat.eq_zero_or_pos n with h | h; rw [h, Nat.zero_mul] at hjl; omega; exact h)
      cases e
      rw [flat_get (by omega) L j (fun x hx => (HR.out x hx).1)] at hj
      cases hx : L[j / 3]? with
      | none => rw [hx] at hj; cases hj
      | some x =>
        rw [hx] at hj
        have := hcc (j / 3) x (j % 3) u hx hj
        rw [show j / 3 * 3 + j % 3 = j by rw [Nat.mul_comm]; exact Nat.div_add_mod j 3] at this
        rw [hB.cell (p := a.add j) (by rw [addr_block']; exact hlt)]
        exact this
    have h1 : ∀ u ∈ L.flatten, u.oneCell' = true := fun u hu => by
      obtain ⟨x, hx, hux⟩ := List.mem_flatten.1 hu
      exact (HR.out x hx).2 u hux
    go_wp2_with (at_builtin; (refine wpList_append_own _ rfl _ _ 25 rfl w.heap.size 77 i0 _ 3 12 Tryz.underlying25 hi hz0 hz1 hz2 rfl (by decide) _ 0 _ rfl hown a n c L.flatten rfl hfl hnews h1 (by unfold maxLen; omega) (by omega) (by simp) ?_); intro v' w2 hown' hgrow _)
    go_ret
    rw [Nat.zero_add, List.nil_append] at hown'
    obtain ⟨A2, c2, rfl, hle, hLA, hgb⟩ := listAt_own (by omega) HR.out Hn.out.symm (by rw [Hn.out]; exact hm) hown'
    exact ⟨A2, c2, by rw [← Hn.out]; rfl, hle, by rw [← Hn.out]; exact hLA, fun h => hgb (by rw [Hn.out]; exact h), hB.grown hgrow (by simp) (fun j e => by cases e; exact Nat.le_refl _)⟩
set_option maxRecDepth 100000 in
set_option maxHeartbeats 4000000 in
theorem clip_pair {w : World} {A : Option Addr} {n c : Nat} (hle : n ≤ c) (hm : n ≤ 2097152) :
    Calls Tryz.prog 72 #[.slice A n c] w fun e w' => e = .returned (.slice A n n) ∧ w = w' := by
  have k0 : (0 : Int) ≤ (n : Int) := by omega
  have k1 : (n : Int) ≤ (c : Int) := by omega
  go_enter Tryz.func72, Tryz.ntmps72
  go_wp2_with fail
  go_ret
  exact ⟨rfl, rfl⟩
theorem info_map : (Tryz.prog.info? 79).map (fun i => (i.zero, i.size, i.bytes)) = some (some (.agg #[.int .i32 0, .string ⟨#[]⟩]), 2, 24) := by kernel_rfl
set_option maxRecDepth 100000 in
set_option maxHeartbeats 4000000 in
theorem clone_map {w : World} {v : Value} {L : List (List Value)} (h : ListAt w v 2 L) (hR : Rows 2 L) :
    Calls Tryz.prog 75 #[v] w fun e w' => ∃ A c, e = .returned (.slice A L.length c) ∧ L.length ≤ c ∧ ListAt w' (.slice A L.length c) 2 L ∧ (0 < L.length → ∃ g cur, A = some ⟨g, 0, none⟩ ∧ w.heap.size ≤ g ∧ Blk w' g 79 cur) ∧ Below w.heap.size w w' := by
  obtain ⟨i0, hi, hz0, hz1, hz2⟩ := info_parts info_map
  have HL := Lib.hid h
  have HR := Lib.hid hR
  obtain ⟨A, c, rfl, hm, hc⟩ := h
  obtain ⟨n, hn⟩ : ∃ n, L.length = n := ⟨_, rfl⟩
  rw [hn] at hm hc ⊢
  have Hn := Lib.hid hn
  have Hc := Lib.hid hc
  clear hR hc hn
  go_enter Tryz.func75, Tryz.ntmps75
  cases A with
  | none =>
    have hn0 : n = 0 := by
      rcases Nat.eq_zero_or_pos n with h | h
      · exact h
      · obtain ⟨a, e, _⟩ := Hc.out h; cases e
    subst hn0
    have heq := Lib.run_eql_slice_nil (P := Tryz.prog) w 26 79 none 0 c 0 0 Tryz.underlying26
    go_wp2_with fail
    go_ret
    exact ⟨none, 0, rfl, Nat.le_refl _, ⟨none, 0, by rw [Hn.out], by rw [Hn.out]; omega, fun h => by rw [Hn.out] at h; exact absurd h (by omega)⟩, fun h => absurd h (by decide), Below.refl _ _⟩
  | some a =>
    have heq := Lib.run_eql_slice_nil (P := Tryz.prog) w 26 79 (some a) n c 0 0 Tryz.underlying26
    have hown := own_empty w 79 2
    have hB := (Below.refl w.heap.size w).alloc (Nat.le_refl _) (.cells #[] 79)
    have hfl : L.flatten.length = n * 2 := by rw [flat_length L (fun x hx => (HR.out x hx).1), Hn.out]
    have hnews : ∀ j u, L.flatten[j]? = some u → (w.alloc (.cells #[] 79)).cell? (a.add j) = some u := fun j u hj => by
      have hjl := (List.getElem?_eq_some_iff.1 hj).1
      rw [hfl] at hjl
      obtain ⟨a', e, hlt, hcc⟩ := Hc.out (by rcases Nat.eq_zero_or_pos n with h | h; rw [h, Nat.zero_mul] at hjl; omega; exact h)
      cases e
      rw [flat_get (by omega) L j (fun x hx => (HR.out x hx).1)] at hj
      cases hx : L[j / 2]? with
      | none => rw [hx] at hj; cases hj
      | some x =>
        rw [hx] at hj
        have := hcc (j / 2) x (j % 2) u hx hj
        rw [show j / 2 * 2 + j % 2 = j by rw [Nat.mul_comm]; exact Nat.div_add_mod j 2] at this
        rw [hB.cell (p := a.add j) (by rw [addr_block']; exact hlt)]
        exact this
    have h1 : ∀ u ∈ L.flatten, u.oneCell' = true := fun u hu => by
      obtain ⟨x, hx, hux⟩ := List.mem_flatten.1 hu
      exact (HR.out x hx).2 u hux
    go_wp2_with (at_builtin; (refine wpList_append_own _ rfl _ _ 26 rfl w.heap.size 79 i0 _ 2 24 Tryz.underlying26 hi hz0 hz1 hz2 rfl (by decide) _ 0 _ rfl hown a n c L.flatten rfl hfl hnews h1 (by unfold maxLen; omega) (by omega) (by simp) ?_); intro v' w2 hown' hgrow _)
    go_ret
    rw [Nat.zero_add, List.nil_append] at hown'
    obtain ⟨A2, c2, rfl, hle, hLA, hgb⟩ := listAt_own (by omega) HR.out Hn.out.symm (by rw [Hn.out]; exact hm) hown'
    exact ⟨A2, c2, by rw [← Hn.out]; rfl, hle, by rw [← Hn.out]; exact hLA, fun h => hgb (by rw [Hn.out]; exact h), hB.grown hgrow (by simp) (fun j e => by cases e; exact Nat.le_refl _)⟩
set_option maxRecDepth 100000 in
set_option maxHeartbeats 4000000 in
theorem clip_map {w : World} {A : Option Addr} {n c : Nat} (hle : n ≤ c) (hm : n ≤ 2097152) :
    Calls Tryz.prog 74 #[.slice A n c] w fun e w' => e = .returned (.slice A n n) ∧ w = w' := by
  have k0 : (0 : Int) ≤ (n : Int) := by omega
  have k1 : (n : Int) ≤ (c : Int) := by omega
  go_enter Tryz.func74, Tryz.ntmps74
  go_wp2_with fail
  go_ret
  exact ⟨rfl, rfl⟩

end
end Go.Proofs.YtjmkdimbbacnfaaGreatDoor
