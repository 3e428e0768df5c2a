/- tables: of: is a rune in spans that are in order. The runes of a text, byte by byte: what guiseref6.Runes reckons, told by the model's decoder. tables: name: is a text a script's name. -/
import Derived.Test.YtjmkdimbbacnfaaGreatDoorGTabU
import Derived.Test.YtjmkdimbbacnfaaGreatDoorGRefD
import Derived.Lib.DecodeN
import Derived.Lib.TrimUEq
import Derived.Lib.MapLaws
import Derived.Laws.RangeAny
import Derived.Lib.OthersKept
namespace Go.Proofs.YtjmkdimbbacnfaaGreatDoor
section
open Go.RowKit
set_option linter.unusedVariables false
theorem isRune_iff (r : Int) : isRune r = true ↔ 0 ≤ r ∧ r ≤ 1114111 ∧ (r < 55296 ∨ 57343 < r) := by unfold isRune; rw [decide_eq_true_eq]
/-- spans that may stand in a table -/
structure InOrder (l : List SpanT) : Prop where
  runes : ∀ m ∈ l, isRune m.lo = true ∧ isRune m.hi = true ∧ m.lo ≤ m.hi
  rise : ∀ (i j : Nat) x y, i < j → l[i]? = some x → l[j]? = some y → x.hi < y.lo
theorem spanAt_zero {l : List SpanT} {k : Nat} {m : SpanT} (h : spanAt l k m = 0) : isRune m.lo = true ∧ isRune m.hi = true ∧ m.lo ≤ m.hi ∧ (0 < k → prevBad l k m = false) := by
  unfold spanAt at h
  split at h
  · cases h
  · rename_i h1
    split at h
    · cases h
    · rename_i h2
      split at h
      · cases h
      · rename_i h3
        refine ⟨?_, ?_, by omega, fun hk => ?_⟩
        · cases hx : isRune m.lo
          · exact absurd (.inl hx) h1
          · rfl
        · cases hx : isRune m.hi
          · exact absurd (.inr hx) h1
          · rfl
        · cases hx : prevBad l k m
          · rfl
          · exact absurd ⟨hk, hx⟩ h3
theorem scan_zero {α : Type} {f : Nat → α → Int} {list : Int} : ∀ {l : List α} {s : Nat}, scan f list s l = none → ∀ j x, l[j]? = some x → f (s + j) x = 0
  | [], _, _, j, x, hx => by simp at hx
  | y :: r, s, h, j, x, hx => by
    unfold scan at h
    split at h
    · cases h
    · rename_i h0
      have h0 : f s y = 0 := Decidable.not_not.1 h0
      cases j with
      | zero => simp at hx; subst hx; exact h0
      | succ j =>
        have := scan_zero h j x (by simpa using hx)
        rw [show s + (j + 1) = s + 1 + j by omega]
        exact this
theorem inOrder_of {l : List SpanT} {list : Int} (h : spansW l list = none) : InOrder l := by
  have h0 : ∀ j x, l[j]? = some x → spanAt l j x = 0 := fun j x hx => by have := scan_zero h j x hx; rwa [Nat.zero_add] at this
  have step : ∀ (j : Nat) x y, l[j]? = some x → l[j + 1]? = some y → x.hi < y.lo := fun j x y hx hy => by
    have hp := (spanAt_zero (h0 (j + 1) y hy)).2.2.2 (Nat.succ_pos _)
    unfold prevBad at hp
    rw [Nat.add_sub_cancel, hx] at hp
    have := of_decide_eq_false hp
    omega
  refine ⟨fun m hm => ?_, ?_⟩
  · obtain ⟨j, hj, rfl⟩ := List.mem_iff_getElem.1 hm
    have := spanAt_zero (h0 j _ (List.getElem?_eq_getElem hj))
    exact ⟨this.1, this.2.1, this.2.2.1⟩
  · intro i j x y hij hx hy
    obtain ⟨d, rfl⟩ : ∃ d, j = i + 1 + d := ⟨j - i - 1, by omega⟩
    clear hij
    induction d generalizing y with
    | zero => exact step i x y hx hy
    | succ d ih =>
      have hlt := (List.getElem?_eq_some_iff.1 hy).1
      have hz : l[i + 1 + d]? = some (l[i + 1 + d]'(by omega)) := List.getElem?_eq_getElem (by omega)
      have h1 := ih _ hz
      have h2 := step (i + 1 + d) _ y hz hy
      have h3 := (spanAt_zero (h0 _ _ hz)).2.2.1
      omega
/-- what a search by the spans' begins tells -/
theorem of_found {l : List SpanT} (hl : InOrder l) {r : Int} (hr : isRune r = true) {k : Nat} (hkn : k ≤ l.length) (h1 : ∀ q x, q < k → l[q]? = some x → x.lo < r) (h2 : ∀ q x, k ≤ q → l[q]? = some x → r ≤ x.lo) :
    ofL r l = ((match l[k]? with | some x => decide (x.lo = r) | none => false) || (decide (0 < k) && (match l[k - 1]? with | some p => decide (r ≤ p.hi) | none => false))) := by
  rw [Bool.eq_iff_iff]
  constructor
  · intro h
    obtain ⟨m, hm, hin⟩ := List.any_eq_true.1 h
    obtain ⟨j, hj, rfl⟩ := List.mem_iff_getElem.1 hm
    unfold inSpan at hin
    rw [hr, Bool.true_and, decide_eq_true_eq] at hin
    have hje : l[j]? = some l[j] := List.getElem?_eq_getElem hj
    rw [Bool.or_eq_true, Bool.and_eq_true]
    by_cases hjk : k ≤ j
    · have ha := h2 j _ hjk hje
      by_cases e : j = k
      · subst e
        rw [hje]
        exact .inl (by simp; omega)
      · exfalso
        have hkl : k < l.length := by omega
        have hke : l[k]? = some l[k] := List.getElem?_eq_getElem hkl
        have h3 := hl.rise k j _ _ (by omega) hke hje
        have h4 := h2 k _ (Nat.le_refl _) hke
        have h5 := (hl.runes _ (List.getElem_mem hkl)).2.2
        omega
    · right
      have hk : 0 < k := by omega
      refine ⟨by simpa using hk, ?_⟩
      by_cases hkl : k - 1 < l.length
      · have hke : l[k - 1]? = some l[k - 1] := List.getElem?_eq_getElem hkl
        rw [hke]
        by_cases e : j = k - 1
        · subst e
          simpa using hin.2
        · exfalso
          have h3 := hl.rise j (k - 1) _ _ (by omega) hje hke
          have h4 := h1 (k - 1) _ (by omega) hke
          omega
      · exfalso
        omega
  · intro h
    rw [Bool.or_eq_true, Bool.and_eq_true] at h
    rcases h with h | ⟨hk, h⟩
    · cases hx : l[k]? with
      | none => rw [hx] at h; cases h
      | some x =>
        rw [hx] at h
        have h := of_decide_eq_true h
        have hm := List.mem_of_getElem? hx
        exact List.any_eq_true.2 ⟨x, hm, by unfold inSpan; rw [hr, Bool.true_and, decide_eq_true_eq]; have := (hl.runes x hm).2.2; omega⟩
    · cases hx : l[k - 1]? with
      | none => rw [hx] at h; cases h
      | some x =>
        rw [hx] at h
        have h := of_decide_eq_true h
        have hk := of_decide_eq_true hk
        have h4 := h1 (k - 1) x (by omega) hx
        exact List.any_eq_true.2 ⟨x, List.mem_of_getElem? hx, by unfold inSpan; rw [hr, Bool.true_and, decide_eq_true_eq]; omega⟩

set_option maxHeartbeats 1000000 in
theorem tab_of1 (lo hi r : Int) (hlo : isRune lo = true) (hr : isRune r = true) (w : World) :
    Calls Tryz.prog 120 #[.agg #[.int .i32 lo, .int .i32 hi], .int .i32 r] w fun e w' => e = .returned (.int .i64 (lo - r)) ∧ Below w.heap.size w w' := by
  have h1 := (isRune_iff _).1 hlo
  have h2 := (isRune_iff _).1 hr
  have a1 : -2147483648 ≤ lo - r := by omega
  have a2 : lo - r ≤ 2147483647 := by omega
  go_enter Tryz.func120, Tryz.ntmps120
  go_wp2_with fail
  go_ret
  exact ⟨rfl, (Below.refl _ w).alloc (Nat.le_refl _) _⟩

set_option maxRecDepth 100000 in
set_option maxHeartbeats 4000000 in
theorem tab_search {w : World} {v : Value} (l : List SpanT) (h : ListAt w v 2 (l.map encSpan)) (hl : InOrder l) (r : Int) (hr : isRune r = true) :
    Calls Tryz.prog 119 #[v, .int .i32 r, .func (.func 120) #[] #[]] w fun e w' => (∃ k : Nat, k ≤ l.length ∧ (∀ q x, q < k → l[q]? = some x → x.lo < r) ∧ (∀ q x, k ≤ q → l[q]? = some x → r ≤ x.lo) ∧
      e = .returned (.tuple #[.int .i64 (k : Int), .bool (match l[k]? with | some x => decide (x.lo = r) | none => false)])) ∧ Below w.heap.size w w' := by
  have HL := Lib.hid h
  have HI := Lib.hid hl
  obtain ⟨A, c, rfl, hn⟩ := h.form
  obtain ⟨n, hln⟩ : ∃ n, l.length = n := ⟨_, rfl⟩
  rw [hln] at hn HL
  rw [hln]
  have Hl := Lib.hid hln
  have HF := Lib.hid (fun lo hi hlo w => tab_of1 lo hi r hlo hr w)
  have Hr := Lib.hid hr
  clear hln h hl hr
  go_enter Tryz.func119, Tryz.ntmps119
  go_wp2_with fail
  go_loopw [9, 10] (fun s7 s8 wr => ∃ lo hi : Nat, s7 = .int .i64 lo ∧ s8 = .int .i64 hi ∧ lo ≤ hi ∧ hi ≤ n ∧ Hid (∀ q x, q < lo → l[q]? = some x → x.lo < r) ∧ Hid (∀ q x, hi ≤ q → l[q]? = some x → r ≤ x.lo) ∧ Below w.heap.size w wr) (fun s7 s8 _ => (intOf s8).toNat - (intOf s7).toNat)
  case atStart => exact ⟨0, n, rfl, rfl, Nat.zero_le _, Nat.le_refl _, Lib.hid (fun q x h => absurd h (Nat.not_lt_zero _)), Lib.hid (fun q x h hx => by have := (List.getElem?_eq_some_iff.1 hx).1; rw [Hl.out] at this; omega), Below.refl _ _⟩
  case round =>
    obtain ⟨lo, hi, rfl, rfl, hlh, hin, H1, H2, hb⟩ := hrel
    have Hb := Lib.hid hb
    by_cases hlt : lo < hi
    · obtain ⟨mid, hmid⟩ : ∃ m, (lo + hi) / 2 = m := ⟨_, rfl⟩
      have em : ((lo : Int) + (hi : Int)) / 2 = (mid : Int) := by omega
      have m1 : lo ≤ mid := by omega
      have m2 : mid < hi := by omega
      obtain ⟨m, hm⟩ : ∃ m, l[mid]? = some m := ⟨_, List.getElem?_eq_getElem (by rw [Hl.out]; omega)⟩
      obtain ⟨a, rfl, e0, e1⟩ := el2 HL.out hb hm rfl
      have hlo : isRune m.lo = true := (HI.out.runes m (List.mem_of_getElem? hm)).1
      have Hm := Lib.hid hm
      have k0 : (0 : Int) ≤ (mid : Int) := by omega
      have k1 : (mid : Int) < (n : Int) := by omega
      clear hb hm hmid
      by_cases hyx : m.lo < r
      · have t1 : m.lo - r < 0 := by omega
        go_wp2_with (go_at_call 120; refine (HF.out _ _ (by assumption) _).mono ?_; rintro e w2 ⟨rfl, hb2⟩)
        go_roundw
        case rel =>
          refine ⟨mid + 1, hi, by go_num, rfl, by omega, hin, Lib.hid (fun q x hq hx => ?_), H2, below_trans Hb.out hb2⟩
          by_cases e : q = mid
          · rw [e, Hm.out] at hx; cases hx; exact hyx
          · have h3 := HI.out.rise q mid x m (by omega) hx Hm.out
            have h4 := (HI.out.runes x (List.mem_of_getElem? hx)).2.2
            omega
        case measure => simp [intOf]; omega
      · have t1 : ¬ m.lo - r < 0 := by omega
        go_wp2_with (go_at_call 120; refine (HF.out _ _ (by assumption) _).mono ?_; rintro e w2 ⟨rfl, hb2⟩)
        go_roundw
        case rel =>
          refine ⟨lo, mid, rfl, rfl, by omega, by omega, H1, Lib.hid (fun q x hq hx => ?_), below_trans Hb.out hb2⟩
          by_cases e : q = mid
          · rw [e, Hm.out] at hx; cases hx; omega
          · have h3 := HI.out.rise mid q m x (by omega) Hm.out hx
            have h4 := (HI.out.runes m (List.mem_of_getElem? Hm.out)).2.2
            omega
        case measure => simp [intOf]; omega
    · obtain rfl : hi = lo := by omega
      by_cases hnn : hi < n
      · obtain ⟨m, hm⟩ : ∃ m, l[hi]? = some m := ⟨_, List.getElem?_eq_getElem (by rw [Hl.out]; omega)⟩
        obtain ⟨a, rfl, e0, e1⟩ := el2 HL.out hb hm rfl
        have hlo : isRune m.lo = true := (HI.out.runes m (List.mem_of_getElem? hm)).1
        have Hm := Lib.hid hm
        have k0 : (0 : Int) ≤ (hi : Int) := by omega
        have k1 : (hi : Int) < (n : Int) := by omega
        clear hb hm
        by_cases hyx : m.lo = r
        · have t1 : (m.lo - r == 0) = true := by simp [hyx]
          have Hyx := Lib.hid hyx
          clear hyx
          go_wp2_with (go_at_call 120; refine (HF.out _ _ (by assumption) _).mono ?_; rintro e w2 ⟨rfl, hb2⟩)
          go_ret2
          exact ⟨⟨hi, hin, H1.out, H2.out, by rw [Hm.out]; simp [Hyx.out]⟩, below_trans Hb.out hb2⟩
        · have t1 : (m.lo - r == 0) = false := by rw [beq_eq_false_iff_ne]; omega
          have Hyx := Lib.hid hyx
          clear hyx
          go_wp2_with (go_at_call 120; refine (HF.out _ _ (by assumption) _).mono ?_; rintro e w2 ⟨rfl, hb2⟩)
          go_ret2
          exact ⟨⟨hi, hin, H1.out, H2.out, by rw [Hm.out]; simp [Hyx.out]⟩, below_trans Hb.out hb2⟩
      · have k1 : ¬ (hi : Int) < (n : Int) := by omega
        have hnone : Hid (l[hi]? = none) := Lib.hid (List.getElem?_eq_none (by rw [Hl.out]; omega))
        clear hb
        go_wp2_with fail
        go_ret2
        exact ⟨⟨hi, hin, H1.out, H2.out, by rw [hnone.out]; rfl⟩, Hb.out⟩

set_option maxRecDepth 100000 in
set_option maxHeartbeats 4000000 in
theorem tab_of {w : World} {v : Value} (l : List SpanT) (h : ListAt w v 2 (l.map encSpan)) (hl : InOrder l) (r : Int) :
    Calls Tryz.prog 60 #[.int .i32 r, v] w fun e w' => e = .returned (.bool (ofL r l)) ∧ Below w.heap.size w w' := by
  have HR := Lib.hid (fun b (hb : isRune r = b) w0 => (Tryz.utf8_ValidRune r w0).mono (R' := fun e w' => e = .returned (.bool b) ∧ w0 = w') (fun e w' h => ⟨by rw [← hb, ← valid_isRune]; exact h.1, h.2.symm⟩))
  have HL := Lib.hid h
  have HI := Lib.hid hl
  obtain ⟨A, c, rfl, hn⟩ := h.form
  obtain ⟨n, hln⟩ : ∃ n, l.length = n := ⟨_, rfl⟩
  rw [hln] at hn HL
  rw [hln]
  have Hl := Lib.hid hln
  clear hln h hl
  go_enter Tryz.func60, Tryz.ntmps60
  cases hr : isRune r with
  | false =>
    go_wp2_with (go_at_call 56; refine (HR.out _ (by assumption) _).mono ?_; rintro e w' ⟨rfl, rfl⟩)
    go_ret
    have : ofL r l = false := by
      unfold ofL
      rw [List.any_eq_false]
      intro m _
      unfold inSpan
      rw [hr]
      simp
    exact ⟨by rw [this]; rfl, Below.refl _ _⟩
  | true =>
    have HS := Lib.hid (tab_search l HL.out HI.out r hr)
    rw [Hl.out] at HS
    have HA := Lib.hid (fun k hkn h1 h2 => of_found (k := k) HI.out hr hkn h1 h2)
    go_wp2_with (go_at_call 56; refine (HR.out _ (by assumption) _).mono ?_; rintro e w' ⟨rfl, rfl⟩)
    refine HS.out.mono ?_
    rintro e w2 ⟨⟨k, hk, h1, h2, rfl⟩, hb⟩
    have ha := HA.out k (by rw [Hl.out]; exact hk) h1 h2
    have Ha := Lib.hid ha
    have Hb := Lib.hid hb
    clear ha h1 h2
    generalize hbb : (match l[k]? with | some x => decide (x.lo = r) | none => false) = b at *
    have Hbb := Lib.hid hbb
    clear hbb
    cases b with
    | true =>
      go_wp2_with fail
      go_ret
      exact ⟨by rw [Ha.out]; rfl, Hb.out⟩
    | false =>
      by_cases h0 : 0 < k
      · obtain ⟨j, hj⟩ : ∃ j, k - 1 = j := ⟨_, rfl⟩
        obtain ⟨p, hp⟩ : ∃ p, l[j]? = some p := ⟨_, List.getElem?_eq_getElem (by rw [Hl.out]; omega)⟩
        obtain ⟨a, rfl, -, d1⟩ := el2 HL.out hb hp rfl
        have j0 : (0 : Int) ≤ (j : Int) := by omega
        have j1 : (j : Int) < (n : Int) := by omega
        have ej : (k : Int) - 1 = (j : Int) := by omega
        have g0 : (0 : Int) < (k : Int) := by omega
        have Hp := Lib.hid hp
        have Hj := Lib.hid hj
        have G0 := Lib.hid h0
        clear hp hj hb
        go_wp2_with fail
        go_ret
        exact ⟨by rw [show ofL r l = decide (r ≤ p.hi) by rw [Ha.out, Hj.out, Hp.out]; simp [G0.out]]; rfl, Hb.out⟩
      · have g0 : ¬ (0 : Int) < (k : Int) := by omega
        clear hb
        go_wp2_with fail
        go_ret
        exact ⟨by rw [Ha.out, decide_eq_false h0]; rfl, Hb.out⟩

end
section
open Go.RowKit
set_option linter.unusedVariables false
set_option linter.unusedSimpArgs false
/-- the byte at a place -/
def byt (s : ByteArray) (i : Nat) : Nat := (s.get! i).toNat
/-- a lead byte: how many follow, the least rune, what it brings -/
def LeadOf (b N : Nat) (least r0 : Int) : Prop :=
  (192 ≤ b ∧ b < 224 ∧ N = 1 ∧ least = 128 ∧ r0 = (b : Int) - 192) ∨ (224 ≤ b ∧ b < 240 ∧ N = 2 ∧ least = 2048 ∧ r0 = (b : Int) - 224) ∨ (240 ≤ b ∧ b < 248 ∧ N = 3 ∧ least = 65536 ∧ r0 = (b : Int) - 240)
def contAt (s : ByteArray) (i q : Nat) : Prop := i + q < s.size ∧ 128 ≤ byt s (i + q) ∧ byt s (i + q) < 192
/-- what the lead and q bytes behind it bring -/
def accI (s : ByteArray) (i : Nat) (r0 : Int) : Nat → Int
  | 0 => r0
  | q + 1 => accI s i r0 q * 64 + ((byt s (i + (q + 1)) : Int) - 128)
theorem byt_lt (s : ByteArray) (i : Nat) : byt s i < 256 := UInt8.toNat_lt _
theorem accI_range {s : ByteArray} {i N : Nat} {least r0 : Int} (h : LeadOf (byt s i) N least r0) (q : Nat) (hq : q ≤ N) (hc : ∀ j, 1 ≤ j → j ≤ q → contAt s i j) : 0 ≤ accI s i r0 q ∧ accI s i r0 q < 2097152 ∧ (q < N → accI s i r0 q < 32768) := by
  have hN : N ≤ 3 := by rcases h with h | h | h <;> omega
  have h0 : 0 ≤ r0 ∧ r0 < 32 ∧ (N = 2 → r0 < 16) ∧ (N = 3 → r0 < 8) := by rcases h with h | h | h <;> omega
  match q, hq, hc with
  | 0, _, _ => simp only [accI, Nat.zero_add, Nat.reduceAdd]; omega
  | 1, hq, hc =>
    obtain ⟨_, a1, a2⟩ := hc 1 (by omega) (by omega)
    simp only [accI, Nat.zero_add, Nat.reduceAdd]; omega
  | 2, hq, hc =>
    obtain ⟨_, a1, a2⟩ := hc 1 (by omega) (by omega)
    obtain ⟨_, b1, b2⟩ := hc 2 (by omega) (by omega)
    simp only [accI, Nat.zero_add, Nat.reduceAdd]; omega
  | 3, hq, hc =>
    obtain ⟨_, a1, a2⟩ := hc 1 (by omega) (by omega)
    obtain ⟨_, b1, b2⟩ := hc 2 (by omega) (by omega)
    obtain ⟨_, c1, c2⟩ := hc 3 (by omega) (by omega)
    simp only [accI, Nat.zero_add, Nat.reduceAdd]; omega
  | q + 4, hq, _ => omega
theorem dec_ascii {s : ByteArray} {i : Nat} (h : byt s i < 128) : Utf8.decode s i = (byt s i, 1) := by
  rw [Lib.decode_at]; unfold Lib.decodeN; rw [if_pos (by exact h)]; rfl
theorem dec_no {s : ByteArray} {i : Nat} (h : 128 ≤ byt s i) (h2 : byt s i < 192 ∨ 248 ≤ byt s i) : Utf8.decode s i = (65533, 1) := by
  rw [Lib.decode_at]
  have hb := byt_lt s i
  unfold byt at *
  generalize (s.get! i).toNat = b at *
  unfold Lib.decodeN
  rw [if_neg (by omega), if_neg (by omega), if_neg (by omega), if_neg (by omega)]
theorem dec_short {s : ByteArray} {i N : Nat} {least r0 : Int} (h : LeadOf (byt s i) N least r0) {k : Nat} (hk : 1 ≤ k) (hkN : k ≤ N) (hc : ¬ contAt s i k) : Utf8.decode s i = (65533, 1) := by
  rw [Lib.decode_at]
  have e1 := byt_lt s (i + 1)
  have e2 := byt_lt s (i + 2)
  have e3 := byt_lt s (i + 3)
  unfold contAt at hc
  have hk3 : k = 1 ∨ k = 2 ∨ k = 3 := by rcases h with h | h | h <;> omega
  rcases hk3 with rfl | rfl | rfl
  all_goals
    unfold byt at *
    generalize (s.get! i).toNat = b0 at *
    generalize (s.get! (i + 1)).toNat = b1 at *
    generalize (s.get! (i + 2)).toNat = b2 at *
    generalize (s.get! (i + 3)).toNat = b3 at *
    unfold Lib.decodeN
    rcases h with h | h | h
    all_goals first
      | omega
      | (repeat' split
         all_goals first | rfl | (exfalso; omega))
theorem dec_all {s : ByteArray} {i N : Nat} {least r0 : Int} (h : LeadOf (byt s i) N least r0) (hc : ∀ j, 1 ≤ j → j ≤ N → contAt s i j) :
    Utf8.decode s i = if least ≤ accI s i r0 N ∧ isRune (accI s i r0 N) = true then ((accI s i r0 N).toNat, N + 1) else (65533, 1) := by
  rw [Lib.decode_at]
  unfold isRune
  simp only [decide_eq_true_eq]
  rcases h with ⟨h1, h2, rfl, rfl, rfl⟩ | ⟨h1, h2, rfl, rfl, rfl⟩ | ⟨h1, h2, rfl, rfl, rfl⟩
  · obtain ⟨a0, a1, a2⟩ := hc 1 (by omega) (by omega)
    simp only [accI, Nat.zero_add, Nat.reduceAdd]
    unfold byt at *
    unfold Lib.decodeN
    rw [if_neg (by omega), if_pos (by omega)]
    repeat' split
    all_goals first | rfl | (exfalso; omega) | (refine Prod.ext ?_ rfl; show _ = Int.toNat _; omega)
  · obtain ⟨a0, a1, a2⟩ := hc 1 (by omega) (by omega)
    obtain ⟨c0, c1, c2⟩ := hc 2 (by omega) (by omega)
    simp only [accI, Nat.zero_add, Nat.reduceAdd]
    unfold byt at *
    unfold Lib.decodeN
    rw [if_neg (by omega), if_neg (by omega), if_pos (by omega)]
    repeat' split
    all_goals first | rfl | (exfalso; omega) | (refine Prod.ext ?_ rfl; show _ = Int.toNat _; omega)
  · obtain ⟨a0, a1, a2⟩ := hc 1 (by omega) (by omega)
    obtain ⟨c0, c1, c2⟩ := hc 2 (by omega) (by omega)
    obtain ⟨d0, d1, d2⟩ := hc 3 (by omega) (by omega)
    simp only [accI, Nat.zero_add, Nat.reduceAdd]
    unfold byt at *
    unfold Lib.decodeN
    rw [if_neg (by omega), if_neg (by omega), if_neg (by omega), if_pos (by omega)]
    repeat' split
    all_goals first | rfl | (exfalso; omega) | (refine Prod.ext ?_ rfl; show _ = Int.toNat _; omega)

theorem runesAt_fuel : ∀ (f : Nat) (p : Nat) (l : List UInt8), l.length ≤ f → runesAt f p l = runesAt l.length 0 l
  | 0, p, l, h => by
    have : l = [] := List.length_eq_zero_iff.1 (by omega)
    subst this; rfl
  | f + 1, p, l, h => by
    by_cases hl : l = []
    · subst hl; rfl
    · obtain ⟨n, hn⟩ : ∃ n, l.length = n + 1 := ⟨l.length - 1, by have := List.length_pos_iff.2 hl; omega⟩
      rw [hn]
      simp only [runesAt]
      rw [if_neg hl, if_neg hl]
      have hw := Lib.decodeL_width l
      have hd : (l.drop (Lib.decodeL l).2).length ≤ n := by rw [List.length_drop]; omega
      rw [runesAt_fuel f _ _ (by omega), runesAt_fuel n _ _ hd]
/-- the runes from a place on -/
def runesFrom (s : ByteArray) (i : Nat) : Option (List Int) := runesAt (s.data.toList.drop i).length 0 (s.data.toList.drop i)
theorem runesFrom_zero (s : ByteArray) : runesFrom s 0 = runesOf s := by
  unfold runesFrom runesOf
  rw [List.drop_zero]
  exact (runesAt_fuel s.size 0 _ (by rw [Array.length_toList]; exact Nat.le_refl _)).symm
theorem runesFrom_end {s : ByteArray} {i : Nat} (h : s.size ≤ i) : runesFrom s i = some [] := by
  unfold runesFrom
  rw [List.drop_eq_nil_of_le (by rw [Array.length_toList]; exact h)]
  rfl
theorem runesFrom_step {s : ByteArray} {i : Nat} (h : i < s.size) : runesFrom s i = if runesAt.isBadD (Utf8.decode s i) = true then none else (runesFrom s (i + (Utf8.decode s i).2)).map (((Utf8.decode s i).1 : Int) :: ·) := by
  have hl : (s.data.toList.drop i).length = s.size - i := by rw [List.length_drop, Array.length_toList]; rfl
  have hne : s.data.toList.drop i ≠ [] := fun e => by rw [e] at hl; simp at hl; omega
  have hw := Lib.decodeL_width (s.data.toList.drop i)
  unfold runesFrom
  obtain ⟨n, hn⟩ : ∃ n, (s.data.toList.drop i).length = n + 1 := ⟨s.size - i - 1, by omega⟩
  rw [hn]
  simp only [runesAt]
  rw [if_neg hne, runesAt_fuel n _ _ (by rw [List.length_drop, hn]; omega), Lib.decodeL_drop, List.drop_drop]
theorem runesFrom_bad {s : ByteArray} {i : Nat} (h : i < s.size) (hd : Utf8.decode s i = (65533, 1)) : runesFrom s i = none := by
  rw [runesFrom_step h, hd]; rfl
theorem runesFrom_good {s : ByteArray} {i : Nat} (h : i < s.size) {r : Int} {n : Nat} (hd : Utf8.decode s i = (r.toNat, n)) (h0 : 0 ≤ r) (hn : n ≠ 1 ∨ r < 128) : runesFrom s i = (runesFrom s (i + n)).map (r :: ·) := by
  rw [runesFrom_step h, hd, if_neg]
  · rw [show ((r.toNat : Nat) : Int) = r by omega]
  · unfold runesAt.isBadD
    simp
    intro h1
    rcases hn with hn | hn
    · exact hn
    · omega

end
section
open Go.RowKit
set_option linter.unusedVariables false
theorem dec_high {s : ByteArray} {p : Nat} (h : 128 ≤ byt s p) : 128 ≤ (Utf8.decode s p).1 := by
  rw [Lib.decode_at]
  unfold byt at h
  unfold Lib.decodeN
  repeat' split
  all_goals first | omega | (show 128 ≤ _; omega)
/-- an iterator over a text, in a block of the call's own -/
structure ItAt (w : World) (g : Nat) (s : ByteArray) (p : Nat) (wr : World) : Prop where
  below : Below w.heap.size w wr
  it : wr.heap[g]? = some (.stringIter s p)
section
variable {w wr w2 : World} {g p : Nat} {s : ByteArray}
theorem ItAt.lt (h : ItAt w g s p wr) : g < wr.heap.size := (Array.getElem?_eq_some_iff.1 h.it).1
theorem ItAt.start (hb : Below w.heap.size w wr) : ItAt w wr.heap.size s 0 (wr.iter s 0) :=
  ⟨hb.alloc hb.size _, heap_alloc_new wr _⟩
theorem ItAt.next (h : ItAt w g s p wr) (hg : w.heap.size ≤ g) (q : Nat) : ItAt w g s q (wr.iterAt g s q) := ⟨Lib.below_iterAt h.below hg s q, Lib.iterAt_heap _ _ _ _ _ h.it⟩
theorem ItAt.step (h : ItAt w g s p wr) (hb : Below wr.heap.size wr w2) : ItAt w g s p w2 := ⟨below_trans h.below hb, (hb.block g h.lt).trans h.it⟩
theorem ItAt.pos (h : ItAt w g s p wr) : wr.iterPos g = p := by unfold World.iterPos; rw [h.it]
end
theorem empty_at (s : ByteArray) : s.toList.isEmpty = decide (s.size = 0) := by
  have h : s.toList = s.data.toList := ByteArray.toList_eq s
  rw [h]
  rcases s with ⟨⟨l⟩⟩
  show l.isEmpty = decide (l.length = 0)
  cases l <;> simp
theorem nameOk_bad' {s : ByteArray} {k : Nat} (hk : k < s.size) (h : badB k (s.get! k) = true) : nameOk s = false := nameOk_bad hk (by rw [← show s.get! k = s[k] from get_at s k hk]; exact h)

set_option maxRecDepth 100000 in
set_option maxHeartbeats 4000000 in
theorem tab_name (s : ByteArray) (w : World) (hm : s.size ≤ 2097152) :
    Calls Tryz.prog 54 #[.string s] w fun e w' => e = .returned (.bool (nameOk s)) ∧ Below w.heap.size w w' := by
  go_enter Tryz.func54, Tryz.ntmps54
  go_wp2_with fail
  have HS0 := Lib.hid (ItAt.start (s := s) (Below.refl w.heap.size w))
  go_loopw [4] (fun _ wr => ∃ p : Nat, p ≤ s.size ∧ Hid (∀ j, j < p → badB j (s.get! j) = false) ∧ ItAt w w.heap.size s p wr) (fun _ wr => s.size - wr.iterPos w.heap.size)
  case atStart => exact ⟨0, Nat.zero_le _, Lib.hid (fun j h => absurd h (Nat.not_lt_zero _)), HS0.out⟩
  case round =>
    obtain ⟨p, hp, hno, hit⟩ := hrel
    clear HS0
    by_cases hlt : p < s.size
    · have hnx := fun ty => Lib.run_next_any_at (P := Tryz.prog) wr w.heap.size s p ty hit.it hlt
      have Hb := Lib.hid (fun h => nameOk_bad' (k := p) hlt h)
      have Hs : Hid (badB p (s.get! p) = false → ∀ j, j < p + 1 → badB j (s.get! j) = false) := Lib.hid (fun h j hj => by
        by_cases e : j = p
        · rw [e]; exact h
        · exact hno.out j (by omega))
      have HC : Hid (badB p (s.get! p) = decide (¬ (97 ≤ byt s p ∧ byt s p ≤ 122) ∧ (p = 0 ∨ (byt s p ≠ 45 ∧ (byt s p < 48 ∨ 57 < byt s p))))) := Lib.hid rfl
      have Hi := Lib.hid hit
      by_cases hc : byt s p < 128
      · rw [dec_ascii hc] at hnx
        have hn1 := Lib.hid (hit.next (Nat.le_refl _) (p + 1))
        have Hpos := Lib.hid hit.pos
        simp only at hnx
        generalize wr.iterAt w.heap.size s (p + 1) = w3 at *
        generalize byt s p = c at *
        clear hit
        have k0 : (0 : Int) ≤ (p : Int) := by omega
        have rel : badB p (s.get! p) = false → ∃ p : Nat, p ≤ s.size ∧ Hid (∀ j, j < p → badB j (s.get! j) = false) ∧ ItAt w w.heap.size s p w3 := fun h => ⟨p + 1, hlt, Lib.hid (Hs.out h), hn1.out⟩
        have Rel := Lib.hid rel
        have Meas : Hid (s.size - w3.iterPos w.heap.size < s.size - wr.iterPos w.heap.size) := Lib.hid (by rw [hn1.out.pos, Hpos.out]; omega)
        clear rel
        by_cases h1 : 97 ≤ c ∧ c ≤ 122
        · have t1 : ¬ (c : Int) < 97 := by omega
          have t2 : ¬ (122 : Int) < (c : Int) := by omega
          go_wp2_with fail
          go_roundw
          case rel => exact Rel.out (by rw [HC.out, decide_eq_false_iff_not]; omega)
          case measure => exact Meas.out
        · by_cases hz : p = 0
          · have t3 : ((p : Int) == 0) = true := by rw [beq_iff_eq]; omega
            by_cases h2 : (c : Int) < 97
            · go_wp2_with fail
              go_ret
              exact ⟨by rw [Hb.out (by rw [HC.out, decide_eq_true_iff]; omega)]; rfl, hn1.out.below⟩
            · have t2 : (122 : Int) < (c : Int) := by omega
              go_wp2_with fail
              go_ret
              exact ⟨by rw [Hb.out (by rw [HC.out, decide_eq_true_iff]; omega)]; rfl, hn1.out.below⟩
          · have t3 : ((p : Int) == 0) = false := by rw [beq_eq_false_iff_ne]; omega
            by_cases h2 : (c : Int) < 97
            · by_cases h3 : c = 45
              · have t4 : ((c : Int) != 45) = false := by rw [bne_eq_false_iff_eq]; omega
                go_wp2_with fail
                go_roundw
                case rel => exact Rel.out (by rw [HC.out, decide_eq_false_iff_not]; omega)
                case measure => exact Meas.out
              · have t4 : ((c : Int) != 45) = true := by rw [bne_iff_ne]; omega
                by_cases h4 : (c : Int) < 48
                · go_wp2_with fail
                  go_ret
                  exact ⟨by rw [Hb.out (by rw [HC.out, decide_eq_true_iff]; omega)]; rfl, hn1.out.below⟩
                · by_cases h5 : (57 : Int) < (c : Int)
                  · go_wp2_with fail
                    go_ret
                    exact ⟨by rw [Hb.out (by rw [HC.out, decide_eq_true_iff]; omega)]; rfl, hn1.out.below⟩
                  · go_wp2_with fail
                    go_roundw
                    case rel => exact Rel.out (by rw [HC.out, decide_eq_false_iff_not]; omega)
                    case measure => exact Meas.out
            · have t2 : (122 : Int) < (c : Int) := by omega
              have t4 : ((c : Int) != 45) = true := by rw [bne_iff_ne]; omega
              have t5 : ¬ (c : Int) < 48 := by omega
              have t6 : (57 : Int) < (c : Int) := by omega
              go_wp2_with fail
              go_ret
              exact ⟨by rw [Hb.out (by rw [HC.out, decide_eq_true_iff]; omega)]; rfl, hn1.out.below⟩
      · have hr := dec_high (s := s) (p := p) (by omega)
        have hn1 := Lib.hid (hit.next (Nat.le_refl _) (p + (Utf8.decode s p).2))
        generalize wr.iterAt w.heap.size s (p + (Utf8.decode s p).2) = w3 at *
        generalize (Utf8.decode s p).1 = c at *
        clear hit
        have HC' : Hid (badB p (s.get! p) = true) := Lib.hid (by rw [HC.out, decide_eq_true_iff]; omega)
        have t1 : ¬ (c : Int) < 97 := by omega
        have t2 : (122 : Int) < (c : Int) := by omega
        have t4 : ((c : Int) != 45) = true := by rw [bne_iff_ne]; omega
        have t5 : ¬ (c : Int) < 48 := by omega
        have t6 : (57 : Int) < (c : Int) := by omega
        clear hc
        by_cases hz : p = 0
        · have t3 : ((p : Int) == 0) = true := by rw [beq_iff_eq]; omega
          go_wp2_with fail
          go_ret
          exact ⟨by rw [Hb.out HC'.out]; rfl, hn1.out.below⟩
        · have t3 : ((p : Int) == 0) = false := by rw [beq_eq_false_iff_ne]; omega
          go_wp2_with fail
          go_ret
          exact ⟨by rw [Hb.out HC'.out]; rfl, hn1.out.below⟩
    · obtain rfl : p = s.size := by omega
      have hnx := fun ty => Lib.run_next_end_at (P := Tryz.prog) wr w.heap.size s s.size ty hit.it (by omega)
      have Hi := Lib.hid hit
      have hok : nameOk s = decide (1 ≤ s.size ∧ s.size ≤ 32) := by
        unfold nameOk
        rw [decide_eq_decide]
        exact ⟨fun h => ⟨h.1, h.2.1⟩, fun h => ⟨h.1, h.2, hno.out⟩⟩
      have Hok := Lib.hid hok
      clear hok hit
      have hse := empty_at s
      by_cases h1 : s.size = 0
      · rw [decide_eq_true h1] at hse
        have H1 := Lib.hid h1
        clear h1
        go_wp2_with fail
        go_ret
        exact ⟨by rw [Hok.out, show decide (1 ≤ s.size ∧ s.size ≤ 32) = false by rw [decide_eq_false_iff_not, H1.out]; omega]; rfl, Hi.out.below⟩
      · rw [decide_eq_false h1] at hse
        by_cases h2 : (s.size : Int) ≤ 32
        · go_wp2_with fail
          go_ret
          exact ⟨by rw [Hok.out, show decide (1 ≤ s.size ∧ s.size ≤ 32) = true by rw [decide_eq_true_iff]; omega]; rfl, Hi.out.below⟩
        · go_wp2_with fail
          go_ret
          exact ⟨by rw [Hok.out, show decide (1 ≤ s.size ∧ s.size ≤ 32) = false by rw [decide_eq_false_iff_not]; omega]; rfl, Hi.out.below⟩

end
end Go.Proofs.YtjmkdimbbacnfaaGreatDoor
