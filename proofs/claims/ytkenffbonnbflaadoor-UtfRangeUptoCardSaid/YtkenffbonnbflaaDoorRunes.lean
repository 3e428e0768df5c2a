/- Walks: utf.Runes, utf.Clean, utf.Text, utf.Width; guisebook.Same at runes. -/
import Derived.Test.YtkenffbonnbflaaDoorPlh
import Derived.Test.YtkenffbonnbflaaDoorU8
import Derived.Test.YtkenffbonnbflaaDoorBytes
import Derived.Test.YtkenffbonnbflaaDoorMem
import Derived.Deep.Draws
import Derived.Deep.QuietTactic
import Derived.BigQuiet
namespace Go.Proofs.YtkenffbonnbflaaDoor
open Go.RowKit
set_option linter.unusedVariables false

theorem addr_block (a : Addr) (j : Nat) : (a.add j).block = a.block := by unfold Addr.add; split <;> rfl
theorem addr_add0 (g o j : Nat) : (⟨g, o, none⟩ : Addr).add j = ⟨g, o + j, none⟩ := by unfold Addr.add; split <;> simp_all
/-- a slice that holds runes -/
def RunesAt (w : World) (A : Option Addr) (ns : List Int) : Prop := 0 < ns.length → ∃ a : Addr, A = some a ∧ a.block < w.heap.size ∧ ∀ j, j < ns.length → w.cell? (a.add j) = some (.int .i32 (ns.getD j 0))
theorem RunesAt.below {w w' : World} {A : Option Addr} {ns : List Int} (h : RunesAt w A ns) (hb : Below w.heap.size w w') : RunesAt w' A ns := fun hn => by
  obtain ⟨a, hg, hl, hc⟩ := h hn
  exact ⟨a, hg, Nat.lt_of_lt_of_le hl hb.size, fun j hj => (hb.cell (p := a.add j) (by rw [addr_block]; exact hl)).trans (hc j hj)⟩

/-- string(l), l a slice of runes -/
theorem conv_runes {w : World} {A : Option Addr} {ns : List Int} {c : Nat} (h : RunesAt w A ns) : (convert 37 9 (.slice A ns.length c)).run Tryd.prog w = .ok (.string ⟨(encL ns).toArray⟩) w := by
  cases A with
  | none =>
    have : ns = [] := List.eq_nil_of_length_eq_zero (by
      rcases Nat.eq_zero_or_pos ns.length with h0 | h0
      · exact h0
      · obtain ⟨a, hg, _⟩ := h h0; cases hg)
    subst this
    exact run_convert_runes_nil w _ _ _ _ _ Tryd.underlying37 Tryd.underlying21 Tryd.underlying9
  | some a =>
    rcases Nat.eq_zero_or_pos ns.length with h0 | h0
    · have : ns = [] := List.eq_nil_of_length_eq_zero h0
      subst this
      exact run_convert_runes w _ _ _ a 0 c [] (Nat.le_refl _) Tryd.underlying37 Tryd.underlying21 Tryd.underlying9 (fun j hj => by simp at hj)
    · obtain ⟨b, hg, hl, hc⟩ := h h0
      cases hg
      have hr := run_convert_runes (P := Tryd.prog) w 37 9 21 a ns.length c ns (Nat.le_refl _) Tryd.underlying37 Tryd.underlying21 Tryd.underlying9 hc
      rw [List.take_length, runesBytes_eq] at hr
      exact hr

/-- what '[]rune(s)' lays -/
def rowR (s : ByteArray) (cap : Nat) : Array Value := ((runesI s.data.toList).map (Value.int .i32)).toArray ++ Array.replicate (cap - nS s) (.int .i32 0)
theorem runesI_nS (s : ByteArray) : (runesI s.data.toList).length = nS s := runesI_length _
theorem conv_to_runes (s : ByteArray) (w : World) (hs : s.size ≤ 70368744177664) : (convert 9 37 (.string s)).run Tryd.prog w = .ok (.slice (some ⟨w.heap.size, 0, none⟩) (nS s) (grownCap w (nS s) 0 21)) (w.drew.alloc (.cells (rowR s (grownCap w (nS s) 0 21)) 21)) := by
  have hsz : (Conv.runesFrom s s.size 0 #[]).size = nS s := by rw [runesFrom_all]; simp [runesI_nS]
  have hle := nS_le s
  have h := run_runes_of_string (P := Tryd.prog) w 9 37 21 s Tryd.underlying9 Tryd.underlying37 Tryd.underlying21 (by omega)
  rw [hsz, runesFrom_all] at h
  exact h
theorem rowR_at (s : ByteArray) (cap : Nat) (w : World) (j : Nat) (hj : j < nS s) : (w.drew.alloc (.cells (rowR s cap) 21)).cell? ⟨w.heap.size, 0 + j, none⟩ = some (.int .i32 ((runesI s.data.toList).getD j 0)) := by
  have h := (Blk.new w.drew 21 (rowR s cap)).cell j
  rw [Nat.zero_add]
  refine h.trans ?_
  unfold rowR
  rw [Array.getElem?_append_left (by simp [runesI_nS]; exact hj)]
  have hl : j < (runesI s.data.toList).length := by rw [runesI_nS]; exact hj
  simp [List.getElem?_map, List.getElem?_eq_getElem hl, List.getD_eq_getElem?_getD]
theorem rowR_runes (s : ByteArray) (cap : Nat) (w : World) : RunesAt (w.drew.alloc (.cells (rowR s cap) 21)) (some ⟨w.heap.size, 0, none⟩) (runesI s.data.toList) := fun _ =>
  ⟨⟨w.heap.size, 0, none⟩, rfl, by simp, fun j hj => by rw [addr_add0]; exact rowR_at s cap w j (by rw [runesI_nS] at hj; exact hj)⟩

set_option maxHeartbeats 1000000 in
theorem utfRunes (s : ByteArray) (w : World) (hs : s.size ≤ 70368744177664) :
    Calls Tryd.prog 26 #[.string s] w fun e w' => (∃ A c, e = .returned (.slice A (nS s) c) ∧ RunesAt w' A (runesI s.data.toList)) ∧ Below w.heap.size w w' := by
  have hcv := fun w => conv_to_runes s w hs
  have HR := Lib.hid (fun cap => rowR_runes s cap w)
  go_enter Tryd.func26, Tryd.ntmps26
  go_wp2
  go_ret
  exact ⟨⟨_, _, rfl, HR.out _⟩, ((Below.refl _ w).drew).alloc (Nat.le_refl _) _⟩
/-- the text without bad spots -/
def cleanS (s : ByteArray) : ByteArray := ⟨(cleanL s.data.toList).toArray⟩
set_option maxHeartbeats 1000000 in
theorem utfClean (s : ByteArray) (w : World) (hs : s.size ≤ 70368744177664) :
    Calls Tryd.prog 64 #[.string s] w fun e w' => e = .returned (.string (cleanS s)) ∧ Below w.heap.size w w' := by
  have hcv := conv_to_runes s w hs
  generalize grownCap w (nS s) 0 21 = cap at hcv
  have hc2 : (convert 37 9 (.slice (some ⟨w.heap.size, 0, none⟩) (nS s) cap)).run Tryd.prog ((w.alloc (.cells (rowR s cap) 21)).drew) = .ok (.string (cleanS s)) ((w.alloc (.cells (rowR s cap) 21)).drew) := by
    have h := conv_runes (c := cap) (rowR_runes s cap w)
    rw [runesI_nS] at h
    exact h
  go_enter Tryd.func64, Tryd.ntmps64
  go_wp2
  go_ret
  exact ⟨rfl, ((Below.refl _ w).drew).alloc (Nat.le_refl _) _⟩

/-- what Text answers -/
def okL (ns : List Int) : Bool := ns.all Lib.validRune
def txtB (ns : List Int) : ByteArray := if okL ns then ⟨(encL ns).toArray⟩ else ⟨#[]⟩
def txtE (ns : List Int) : Int := if okL ns then 0 else 12
theorem okL_no {ns : List Int} (k : Nat) (hk : k < ns.length) (h : Lib.validRune (ns.getD k 0) = false) : okL ns = false := by
  unfold okL
  rw [List.all_eq_false]
  refine ⟨ns[k], List.getElem_mem hk, ?_⟩
  rw [List.getD_eq_getElem?_getD, List.getElem?_eq_getElem hk] at h
  simpa using h
theorem okL_yes {ns : List Int} (h : ∀ j, j < ns.length → Lib.validRune (ns.getD j 0) = true) : okL ns = true := by
  unfold okL
  rw [List.all_eq_true]
  intro x hx
  obtain ⟨i, hi, rfl⟩ := List.getElem_of_mem hx
  have := h i hi
  rw [List.getD_eq_getElem?_getD, List.getElem?_eq_getElem hi] at this
  exact this
def TextEnd (ns : List Int) (w : World) (e : Ending) (w' : World) : Prop := e = .returned (.tuple #[.string (txtB ns), .int .i64 (txtE ns)]) ∧ w = w'
set_option maxRecDepth 100000 in
set_option maxHeartbeats 2000000 in
theorem utfText (ns : List Int) (A : Option Addr) (c : Nat) (w : World) (h : RunesAt w A ns) (hl : ns.length ≤ 9223372036854775806) :
    Calls Tryd.prog 38 #[.slice A ns.length c] w (TextEnd ns w) := by
  have hcv := conv_runes (c := c) h
  have HCV := Lib.hid hcv
  have H := Lib.hid h
  obtain ⟨n, hn⟩ : ∃ n, ns.length = n := ⟨_, rfl⟩
  have Hn := Lib.hid hn
  rw [hn] at hcv hl
  rw [hn]
  clear h hn hcv
  go_enter Tryd.func38, Tryd.ntmps38
  go_wp2
  go_loop [5, 8] (fun _ i => ∃ k : Nat, k ≤ n ∧ i = .int .i64 (k : Int) ∧ Hid (∀ j, j < k → Lib.validRune (ns.getD j 0) = true)) (fun _ i => n - (intOf i).toNat)
  case atStart => exact ⟨0, Nat.zero_le _, rfl, Lib.hid (fun j h => by omega)⟩
  case round =>
    obtain ⟨k, hk, rfl, hkv⟩ := hrel
    by_cases hlt : k < n
    · obtain ⟨a, rfl, hg, hc⟩ := H.out (by rw [Hn.out]; omega)
      have hck := hc k (by rw [Hn.out]; exact hlt)
      have HV := Lib.hid (fun w => Tryd.utf8_ValidRune (ns.getD k 0) w)
      clear hc
      generalize hr : ns.getD k 0 = r at hck HV
      cases hv : Lib.validRune r with
      | false =>
        rw [hv] at HV
        have ho := okL_no (ns := ns) k (by rw [Hn.out]; exact hlt) (by rw [hr]; exact hv)
        have HO := Lib.hid ho
        clear ho hv hr
        go_wp2_with (go_at_call 85; refine (HV.out _).mono ?_; rintro e w' ⟨rfl, rfl⟩)
        go_ret2
        refine ⟨?_, rfl⟩
        unfold txtB txtE
        rw [HO.out]
        rfl
      | true =>
        rw [hv] at HV
        have HO : Hid (Lib.validRune (ns.getD k 0) = true) := Lib.hid (by rw [hr]; exact hv)
        clear hv hr
        go_wp2_with (go_at_call 85; refine (HV.out _).mono ?_; rintro e w' ⟨rfl, rfl⟩)
        go_round
        case rel => exact ⟨k + 1, by omega, by go_num, Lib.hid (fun j hj => by rcases Nat.lt_or_eq_of_le (Nat.lt_succ_iff.1 hj) with h | rfl; exact hkv.out j h; exact HO.out)⟩
        case measure => simp [intOf]; omega
    · obtain rfl : k = n := by omega
      have hcv := HCV.out
      rw [Hn.out] at hcv
      have HO := Lib.hid (okL_yes (ns := ns) (fun j hj => hkv.out j (by rw [Hn.out] at hj; exact hj)))
      go_wp2
      go_ret2
      refine ⟨?_, rfl⟩
      unfold txtB txtE
      rw [HO.out]
      rfl

/-- how many bytes a rune has -/
def widI (r : Int) : Int := max (Lib.runeLen r) 0
theorem utfWidth (r : Int) (w : World) : Calls Tryd.prog 42 #[.int .i32 r] w fun e w' => e = .returned (.int .i64 (widI r)) ∧ w = w' := by
  have HL : Hid (∀ w : World, Calls Tryd.prog 86 #[.int .i32 r] w fun e w' => e = .returned (.int .i64 (Lib.runeLen r)) ∧ w = w') := Lib.hid (fun w => (Tryd.utf8_RuneLen _ w).mono (by
    rintro e w' ⟨rfl, rfl⟩
    exact ⟨rfl, rfl⟩))
  go_enter Tryd.func42, Tryd.ntmps42
  go_wp2_with (go_at_call 86; refine (HL.out _).mono ?_; rintro e w' ⟨rfl, rfl⟩)
  go_ret
  exact ⟨rfl, rfl⟩

set_option maxHeartbeats 1000000 in
theorem sameR (ns : List Int) (A B : Option Addr) (c d : Nat) (w : World) (h1 : RunesAt w A ns) (h2 : RunesAt w B ns) (hl : ns.length ≤ 9223372036854775806) :
    Calls Tryd.prog 27 #[.slice A ns.length c, .slice B ns.length d] w fun e w' => e = .returned (.bool true) ∧ ∃ q, w.drewN q = w' := by
  have H1 := Lib.hid h1
  have H2 := Lib.hid h2
  obtain ⟨n, hn⟩ : ∃ n, ns.length = n := ⟨_, rfl⟩
  have Hn := Lib.hid hn
  rw [hn] at hl
  rw [hn]
  have t0 : ((n : Int) == (n : Int)) = true := by rw [beq_iff_eq]
  clear h1 h2 hn
  go_enter Tryd.func27, Tryd.ntmps27
  go_wp2_with fail
  go_loopw [5] (fun i wr => ∃ k q : Nat, k ≤ n ∧ i = .int .i64 (k : Int) ∧ wr = w.drewN q) (fun i _ => n - (intOf i).toNat)
  case atStart => exact ⟨0, 0, Nat.zero_le _, rfl, rfl⟩
  case round =>
    obtain ⟨k, q, hk, rfl, rfl⟩ := hrel
    by_cases hlt : k < n
    · obtain ⟨a, rfl, hg, hc⟩ := H1.out (by rw [Hn.out]; omega)
      obtain ⟨a', rfl, hg', hc'⟩ := H2.out (by rw [Hn.out]; omega)
      have c1 := hc k (by rw [Hn.out]; exact hlt)
      have c2 := hc' k (by rw [Hn.out]; exact hlt)
      clear hc hc'
      generalize ns.getD k 0 = r at c1 c2
      go_wp2_with fail
      go_quiet (fail)
      go_wp2_with fail
      go_roundw
      case rel => exact ⟨k + 1, _, by omega, by go_num, rfl⟩
      case measure => simp [intOf]; omega
    · obtain rfl : k = n := by omega
      go_wp2_with fail
      go_ret
      exact ⟨rfl, _, rfl⟩
end Go.Proofs.YtkenffbonnbflaaDoor
