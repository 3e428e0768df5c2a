/- Walk: guiselaw1.UtfThere: every list of runes, under the two tables of unicode/utf8. -/
import Derived.Test.YtkenffbonnbflaaDoorCleanU
namespace Go.Proofs.YtkenffbonnbflaaDoor
open Go.RowKit
set_option linter.unusedVariables false

theorem validRune_iff (r : Int) : Lib.validRune r = true ↔ (0 ≤ r ∧ r < 55296) ∨ (57343 < r ∧ r ≤ 1114111) := by
  unfold Lib.validRune
  rw [decide_eq_true_iff]
theorem widI_no {r : Int} (h : Lib.validRune r = false) : widI r = 0 := by
  have h2 : ¬ ((0 ≤ r ∧ r < 55296) ∨ (57343 < r ∧ r ≤ 1114111)) := fun c => by rw [(validRune_iff r).2 c] at h; cases h
  unfold widI Lib.runeLen
  repeat' split
  all_goals omega
theorem widI_yes {r : Int} (h : Lib.validRune r = true) : widI r = ((Lib.encodeRune r).length : Int) := by
  have h2 := (validRune_iff r).1 h
  unfold widI Lib.runeLen Lib.encodeRune
  rw [List.length_map]
  by_cases c1 : r ≤ 127
  · rw [Lib.encodeRuneZ_one (by omega) c1, if_neg (by omega), if_pos c1]; rfl
  · by_cases c2 : r ≤ 2047
    · rw [Lib.encodeRuneZ_two (by omega) c2, if_neg (by omega), if_neg (by omega), if_pos c2]; rfl
    · by_cases c3 : r ≤ 65535
      · rw [Lib.encodeRuneZ_three (by omega), if_neg (by omega), if_neg (by omega), if_neg (by omega), if_neg (by omega), if_pos c3]; rfl
      · rw [Lib.encodeRuneZ_four (by omega) (by omega), if_neg (by omega), if_neg (by omega), if_neg (by omega), if_neg (by omega), if_neg (by omega), if_pos (by omega)]; rfl
theorem okL_get {ns : List Int} (h : okL ns = true) (k : Nat) (hk : k < ns.length) : Lib.validRune (ns.getD k 0) = true := by
  unfold okL at h
  rw [List.all_eq_true] at h
  rw [List.getD_eq_getElem?_getD, List.getElem?_eq_getElem hk]
  exact h _ (List.getElem_mem hk)
/-- runes that may be encoded are natural numbers -/
theorem ok_nat {ns : List Int} (h : okL ns = true) : ∃ ms : List Nat, ns = ms.map Int.ofNat ∧ ∀ m ∈ ms, m < 55296 ∨ 57343 < m ∧ m ≤ 1114111 := by
  unfold okL at h
  rw [List.all_eq_true] at h
  refine ⟨ns.map Int.toNat, ?_, fun m hm => ?_⟩
  · rw [List.map_map]
    symm
    refine (List.map_congr_left fun x hx => ?_).trans (List.map_id ns)
    have := (validRune_iff x).1 (h x hx)
    show ((x.toNat : Nat) : Int) = x
    omega
  · obtain ⟨x, hx, rfl⟩ := List.mem_map.1 hm
    have := (validRune_iff x).1 (h x hx)
    omega
theorem enc_runes {ns : List Int} (h : okL ns = true) : runesI (encL ns) = ns ∧ AllGood (encL ns) := by
  obtain ⟨ms, rfl, hm⟩ := ok_nat h
  have := spotsAt_enc ms 0 hm
  exact ⟨by unfold runesI runesN spots; rw [this.1], this.2⟩
theorem encL_take (ns : List Int) (k : Nat) (hk : k < ns.length) : (encL (ns.take (k + 1))).length = (encL (ns.take k)).length + (Lib.encodeRune (ns.getD k 0)).length := by
  rw [List.take_succ_eq_append_getElem hk, encL_append, List.length_append]
  congr 1
  rw [List.getD_eq_getElem?_getD, List.getElem?_eq_getElem hk]
  show (encL [ns[k]]).length = _
  rw [encL_cons]
  simp [encL]

theorem conv_to_runesN (s : ByteArray) (w : World) (hs : nS s ≤ 70368744177664) : (convert 9 37 (.string s)).run Tryd.prog w = .ok (.slice (some ⟨w.heap.size, 0, none⟩) (nS s) (grownCap w (nS s) 0 21)) (w.drew.alloc (.cells (rowR s (grownCap w (nS s) 0 21)) 21)) := by
  have hsz : (Conv.runesFrom s s.size 0 #[]).size = nS s := by rw [runesFrom_all]; simp [runesI_nS]
  have h := run_runes_of_string (P := Tryd.prog) w 9 37 21 s Tryd.underlying9 Tryd.underlying37 Tryd.underlying21 (by omega)
  rw [hsz, runesFrom_all] at h
  exact h
theorem utfRunesN (s : ByteArray) (w : World) (hs : nS s ≤ 70368744177664) :
    Calls Tryd.prog 26 #[.string s] w fun e w' => (∃ A c, e = .returned (.slice A (nS s) c) ∧ RunesAt w' A (runesI s.data.toList)) ∧ Below w.heap.size w w' := by
  have hcv := fun w => conv_to_runesN s w hs
  have HR := Lib.hid (fun cap => rowR_runes s cap w)
  go_enter Tryd.func26, Tryd.ntmps26
  go_wp2
  go_ret
  exact ⟨⟨_, _, rfl, HR.out _⟩, ((Below.refl _ w).drew).alloc (Nat.le_refl _) _⟩
set_option maxRecDepth 100000 in
set_option maxHeartbeats 4000000 in
theorem thereU_walk (ns : List Int) (A : Option Addr) (c : Nat) (w : World) (h : RunesAt w A ns) (hl : ns.length ≤ 35184372088832) (hT : Lib.Utf8Tabs 0 1 w) :
    Calls Tryd.prog 14 #[.slice A ns.length c] w fun e w' => e = .returned (.bool true) ∧ Below w.heap.size w w' := by
  have HT := Lib.hid hT
  have HF := Lib.hid (fun w hT => alive_yes w hT)
  have H := Lib.hid h
  have HTx := fun w h => utfText ns A c w h (by omega)
  unfold TextEnd txtB txtE at HTx
  have hel := encL_length ns
  have hwk : Hid (∀ k, (encL (ns.take k)).length ≤ 4 * ns.length) := Lib.hid (fun k => by
    have h1 := encL_length (ns.take k)
    have h2 : (ns.take k).length ≤ ns.length := by rw [List.length_take]; omega
    omega)
  obtain ⟨n, hn⟩ : ∃ n, ns.length = n := ⟨_, rfl⟩
  have Hn := Lib.hid hn
  rw [hn] at HTx hl hel hwk
  rw [hn]
  clear hT h hn
  cases hok : okL ns with
  | false =>
    rw [hok] at HTx
    have HTx := Lib.hid HTx
    have Hok := Lib.hid hok
    clear hok
    go_enter Tryd.func14, Tryd.ntmps14
    go_wp2_with fail
    refine (HF.out _ HT.out).mono ?_
    rintro e w1 ⟨rfl, hb1⟩
    have H1 := Lib.hid (H.out.below hb1)
    go_wp2_with fail
    refine (HTx.out _ H1.out).mono ?_
    rintro e w' ⟨rfl, rfl⟩
    go_wp2_with fail
    go_loop [5, 6] (fun a i => ∃ k : Nat, k ≤ n ∧ i = .int .i64 (k : Int) ∧ a = .int .i64 ((encL (ns.take k)).length : Int) ∧ Hid (∀ j, j < k → Lib.validRune (ns.getD j 0) = true)) (fun _ i => n - (intOf i).toNat)
    case atStart => exact ⟨0, Nat.zero_le _, rfl, rfl, Lib.hid (fun j h => by omega)⟩
    case round =>
      obtain ⟨k, hk, rfl, rfl, hkv⟩ := hrel
      by_cases hlt : k < n
      · obtain ⟨a, rfl, hg, hc⟩ := H1.out (by rw [Hn.out]; omega)
        have hck := hc k (by rw [Hn.out]; exact hlt)
        have hw := hwk.out k
        cases hv : Lib.validRune (ns.getD k 0) with
        | false =>
          have HW := fun w => utfWidth (ns.getD k 0) w
          rw [widI_no hv] at HW
          have HW := Lib.hid HW
          clear hc hv
          generalize ns.getD k 0 = r at hck HW
          go_wp2_with (go_at_call 42; refine (HW.out _).mono ?_; rintro e w' ⟨rfl, rfl⟩)
          go_ret
          exact ⟨by first | rfl | simp, hb1⟩
        | true =>
          have HW := fun w => utfWidth (ns.getD k 0) w
          rw [widI_yes hv] at HW
          have HW := Lib.hid HW
          have hst := Lib.hid (encL_take ns k (by rw [Hn.out]; exact hlt))
          have hp := encodeRune_pos (ns.getD k 0)
          have hz : (((Lib.encodeRune (ns.getD k 0)).length : Int) == 0) = false := by rw [beq_eq_false_iff_ne]; omega
          have Hv := Lib.hid hv
          clear hc hv
          generalize hrr : ns.getD k 0 = r at hck HW hst hz hp
          have Hrr := Lib.hid hrr
          clear hrr
          go_wp2_with (go_at_call 42; refine (HW.out _).mono ?_; rintro e w' ⟨rfl, rfl⟩)
          go_round
          case rel => exact ⟨k + 1, by omega, by go_num, by rw [hst.out]; go_num, Lib.hid (fun j hj => by rcases Nat.lt_or_eq_of_le (Nat.lt_succ_iff.1 hj) with h | rfl; exact hkv.out j h; exact Hv.out)⟩
          case measure => simp [intOf]; omega
      · exfalso
        obtain rfl : k = n := by omega
        have := okL_yes (ns := ns) (fun j hj => hkv.out j (by rw [Hn.out] at hj; exact hj))
        rw [Hok.out] at this
        cases this
  | true =>
    rw [hok] at HTx
    obtain ⟨he1, he2⟩ := enc_runes hok
    simp only [if_true] at HTx
    obtain ⟨t, ht⟩ : ∃ t : ByteArray, (⟨(encL ns).toArray⟩ : ByteArray) = t := ⟨_, rfl⟩
    have htl : t.data.toList = encL ns := by rw [← ht]
    have hsz : t.size = (encL ns).length := by rw [← toList_len, htl]
    have hnst : nS t = n := by rw [← runesI_nS, htl, he1, Hn.out]
    rw [ht] at HTx
    have HTx := Lib.hid HTx
    have HV := fun w => Valid_any t w (by omega)
    unfold ValidEnd at HV
    rw [goodB_yes (by rw [htl]; exact he2)] at HV
    have HV := Lib.hid HV
    have HR := fun w => utfRunesN t w (by omega)
    rw [hnst, htl, he1] at HR
    have HR := Lib.hid HR
    have HSm := fun A B c d w h1 h2 => sameR ns A B c d w h1 h2 (by rw [Hn.out]; omega)
    rw [Hn.out] at HSm
    have HSm := Lib.hid HSm
    have Hok := Lib.hid hok
    have Hsz := Lib.hid hsz
    clear hok ht htl hsz hnst he1 he2
    go_enter Tryd.func14, Tryd.ntmps14
    go_wp2_with fail
    refine (HF.out _ HT.out).mono ?_
    rintro e w1 ⟨rfl, hb1⟩
    have H1 := Lib.hid (H.out.below hb1)
    go_wp2_with fail
    refine (HTx.out _ H1.out).mono ?_
    rintro e w' ⟨rfl, rfl⟩
    go_wp2_with fail
    go_loop [5, 6] (fun a i => ∃ k : Nat, k ≤ n ∧ i = .int .i64 (k : Int) ∧ a = .int .i64 ((encL (ns.take k)).length : Int)) (fun _ i => n - (intOf i).toNat)
    case atStart => exact ⟨0, Nat.zero_le _, rfl, rfl⟩
    case round =>
      obtain ⟨k, hk, rfl, rfl⟩ := hrel
      by_cases hlt : k < n
      · obtain ⟨a, rfl, hg, hc⟩ := H1.out (by rw [Hn.out]; omega)
        have hck := hc k (by rw [Hn.out]; exact hlt)
        have hw := hwk.out k
        have hv := okL_get Hok.out k (by rw [Hn.out]; exact hlt)
        have HW := fun w => utfWidth (ns.getD k 0) w
        rw [widI_yes hv] at HW
        have HW := Lib.hid HW
        have hst := Lib.hid (encL_take ns k (by rw [Hn.out]; exact hlt))
        have hp := encodeRune_pos (ns.getD k 0)
        have hz : (((Lib.encodeRune (ns.getD k 0)).length : Int) == 0) = false := by rw [beq_eq_false_iff_ne]; omega
        clear hc hv
        generalize ns.getD k 0 = r at hck HW hst hz hp
        go_wp2_with (go_at_call 42; refine (HW.out _).mono ?_; rintro e w' ⟨rfl, rfl⟩)
        go_round
        case rel => exact ⟨k + 1, by omega, by go_num, by rw [hst.out]; go_num⟩
        case measure => simp [intOf]; omega
      · obtain rfl : k = n := by omega
        have htk : ns.take k = ns := List.take_of_length_le (by rw [Hn.out]; exact Nat.le_refl _)
        have t1 : ((t.size : Int) == ((encL (ns.take k)).length : Int)) = true := by rw [htk, beq_iff_eq, Hsz.out]
        have H1' := H1.out
        clear htk
        go_wp2_with fail
        refine (HV.out _).mono ?_
        rintro e w2 ⟨⟨p1, p2, rfl⟩, hb2⟩
        have hb12 := hb1.trans (hb2.mono hb1.size)
        have hb13 := hb12.alloc hb12.size (.cells #[.int .i64 p1, .int .i64 p2] 82)
        go_wp2_with fail
        refine (HR.out _).mono ?_
        rintro e w3 ⟨⟨A3, c3, rfl, hA3⟩, hb3⟩
        have hb14 := hb13.trans (hb3.mono hb13.size)
        go_wp2_with fail
        refine (HSm.out _ _ _ _ _ hA3 (H.out.below hb14)).mono ?_
        rintro e w4 ⟨rfl, q4, rfl⟩
        go_wp2_with fail
        go_ret
        exact ⟨by first | rfl | simp, hb14.trans ⟨rfl, rfl, rfl, Nat.le_refl _, fun _ _ => rfl⟩⟩
end Go.Proofs.YtkenffbonnbflaaDoor
