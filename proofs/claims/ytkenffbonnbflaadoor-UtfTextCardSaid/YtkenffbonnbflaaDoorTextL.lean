/- Walk: guiselaw1.UtfText: every list of runes, under the two tables of unicode/utf8. -/
import Derived.Test.YtkenffbonnbflaaDoorTextU
import Derived.OpenShut
namespace Go.Proofs.YtkenffbonnbflaaDoor
open Go.RowKit
set_option linter.unusedVariables false

def xorI (r : Int) : Int := bits BinOp.xor IntKind.i32 r 1
theorem xorI_range (r : Int) : -2147483648 ≤ xorI r ∧ xorI r ≤ 2147483647 := by
  unfold xorI bits
  rw [IntKind.wrap_i32]
  omega
/-- the first k numbers are others -/
def mixX (ns : List Int) (k : Nat) : List Int := (ns.take k).map xorI ++ ns.drop k
theorem mixX_len (ns : List Int) (k : Nat) : (mixX ns k).length = ns.length := by unfold mixX; simp; omega
theorem mixX_at (ns : List Int) (k : Nat) (hk : k < ns.length) : (mixX ns k)[k]? = some (ns.getD k 0) := by
  unfold mixX
  rw [List.getElem?_append_right (by simp; omega), List.length_map, List.length_take, Nat.min_eq_left (by omega), Nat.sub_self, List.getElem?_drop, Nat.add_zero, List.getElem?_eq_getElem hk, List.getD_eq_getElem?_getD, List.getElem?_eq_getElem hk]
  rfl
theorem mixX_set (ns : List Int) (k : Nat) (hk : k < ns.length) : (mixX ns k).set k (xorI (ns.getD k 0)) = mixX ns (k + 1) := by
  unfold mixX
  have hl : ((ns.take k).map xorI).length = k := by simp; omega
  rw [List.set_append_right _ _ (by omega), hl, Nat.sub_self, List.drop_eq_getElem_cons hk, List.set_cons_zero, List.take_succ_eq_append_getElem hk, List.map_append, List.append_assoc]
  congr 2
  rw [List.getD_eq_getElem?_getD, List.getElem?_eq_getElem hk]
  rfl
theorem roomC_set (ns : List Int) (m v : Int) (k : Nat) (hk : k < ns.length) : (roomC ns m).set k (.int .i32 v) = roomC (ns.set k v) m := by
  unfold roomC
  rw [List.set_append_left _ _ (by simpa using hk), List.map_set]

set_option maxRecDepth 100000 in
set_option maxHeartbeats 8000000 in
theorem textU_walk (ns : List Int) (A : Option Addr) (c : Nat) (w : World) (h : RunesAt w A ns) (hl : ns.length ≤ 35184372088832) (hr : ∀ n ∈ ns, -2147483648 ≤ n ∧ n ≤ 2147483647) (hT : Lib.Utf8Tabs 0 1 w) :
    Calls Tryd.prog 6 #[.slice A ns.length c] w fun e w' => e = .returned (.bool true) ∧ Below w.heap.size w w' := by
  have HT := Lib.hid hT
  have HF := Lib.hid (fun w hT => alive_yes w hT)
  have H := Lib.hid h
  have HRm := fun w h => roomyR ns A c 77 w h hl
  have HRT := fun w h => refText ns A c w h hl hr
  have HTx := fun B d w h => utfText ns B d w h (by omega)
  have HIn := fun g w hB h => intactR ns A g c 77 w hB h hl
  have hXl : (mixX ns ns.length).length = ns.length := mixX_len ns ns.length
  have HRT2 := fun B d w h => refText (mixX ns ns.length) B d w h (by rw [hXl]; exact hl) (fun n hn => by
    unfold mixX at hn
    rw [List.take_length, List.drop_length, List.append_nil] at hn
    obtain ⟨z, _, rfl⟩ := List.mem_map.1 hn
    exact xorI_range z)
  have HTx2 := fun B d w h => utfText (mixX ns ns.length) B d w h (by rw [hXl]; omega)
  rw [hXl] at HRT2 HTx2
  obtain ⟨n, hn⟩ : ∃ n, ns.length = n := ⟨_, rfl⟩
  have Hn := Lib.hid hn
  rw [hn] at HRm HRT HTx HIn HRT2 HTx2 hl
  rw [hn]
  unfold TextEnd at HTx HTx2
  obtain ⟨ms, hms⟩ : ∃ ms, mixX ns n = ms := ⟨_, rfl⟩
  have Hms := Lib.hid hms
  rw [hms] at HRT2 HTx2
  clear hms
  generalize txtB ns = T1 at HRT HTx
  generalize txtE ns = E1 at HRT HTx
  generalize txtB ms = T2 at HRT2 HTx2
  generalize txtE ms = E2 at HRT2 HTx2
  have HRm := Lib.hid HRm
  have HRT := Lib.hid HRT
  have HTx := Lib.hid HTx
  have HIn := Lib.hid HIn
  have HRT2 := Lib.hid HRT2
  have HTx2 := Lib.hid HTx2
  clear hT h hr hXl hn
  go_enter Tryd.func6, Tryd.ntmps6
  go_wp2_with fail
  refine (HF.out _ HT.out).mono ?_
  rintro e w1 ⟨rfl, hb1⟩
  go_wp2_with fail
  refine (HRm.out _ (H.out.below hb1)).mono ?_
  rintro e w2 ⟨rfl, hB2, hb2⟩
  have hb12 := hb1.trans (hb2.mono hb1.size)
  go_wp2_with fail
  refine (HRT.out _ (H.out.below hb12)).mono ?_
  rintro e w3 ⟨rfl, hb3⟩
  have hb13 := hb12.trans (hb3.mono hb12.size)
  have hB3 := Lib.hid (hB2.below hb3)
  have hgw : w.heap.size ≤ w1.heap.size := hb1.size
  clear hB2 hb2 hb3 hb12
  go_wp2_with fail
  go_loop [6] (fun i => ∃ k : Nat, k ≤ 2 ∧ i = .int .i64 (k : Int)) (fun i => 2 - (intOf i).toNat)
  case atStart => exact ⟨0, by omega, rfl⟩
  case round =>
    obtain ⟨k, hk, rfl⟩ := hrel
    by_cases hlt : k < 2
    · go_wp2_with fail
      refine (HTx.out _ _ _ (room_runes hB3.out)).mono ?_
      rintro e w' ⟨rfl, rfl⟩
      go_wp2_with fail
      go_round
      case rel => exact ⟨k + 1, by omega, by go_num⟩
      case measure => simp [intOf]; omega
    · obtain rfl : k = 2 := by omega
      go_wp2_with fail
      refine (HIn.out _ _ hB3.out (H.out.below hb13)).mono ?_
      rintro e w4 ⟨rfl, q4, rfl⟩
      go_wp2_with fail
      go_loopw [9] (fun i wr => ∃ k : Nat, k ≤ n ∧ i = .int .i64 (k : Int) ∧ Hid (Blk wr w1.heap.size 21 (roomC (mixX ns k) 77).toArray) ∧ Below w.heap.size w wr) (fun i _ => n - (intOf i).toNat)
      case atStart => exact ⟨0, Nat.zero_le _, rfl, Lib.hid hB3.out, hb13.trans ⟨rfl, rfl, rfl, Nat.le_refl _, fun _ _ => rfl⟩⟩
      case round =>
        obtain ⟨k, hk2, rfl, hB, hb⟩ := hrel
        by_cases hlt : k < n
        · have hkn : k < ns.length := by rw [Hn.out]; exact hlt
          have hc1 : wr.cell? ⟨w1.heap.size, k, none⟩ = some (.int .i32 (ns.getD k 0)) := by
            have h1 := hB.out.cell k
            rw [h1, List.getElem?_toArray]
            unfold roomC
            rw [List.getElem?_append_left (by rw [List.length_map, mixX_len]; exact hkn), List.getElem?_map, mixX_at ns k hkn]
            rfl
          have hf1 := hB.out.frozen k
          have hst : Hid (Blk (wr.setCell ⟨w1.heap.size, k, none⟩ (.int .i32 (xorI (ns.getD k 0)))) w1.heap.size 21 (roomC (mixX ns (k + 1)) 77).toArray) := Lib.hid (by
            have h1 := hB.out.set_ k (.int .i32 (xorI (ns.getD k 0)))
            rw [List.setIfInBounds_toArray, roomC_set _ _ _ _ (by rw [mixX_len]; exact hkn), mixX_set ns k hkn] at h1
            exact h1)
          have i2 : k < n + 80 := by omega
          have i3 : (k : Int) < (n : Int) + 80 := by omega
          clear hkn
          unfold xorI at hst
          generalize ns.getD k 0 = r at hc1 hst
          go_wp2_with fail
          go_roundw
          case rel => exact ⟨k + 1, by omega, by go_num, hst, hb.setCell hgw _⟩
          case measure => simp [intOf]; omega
        · obtain rfl : k = n := by omega
          have hB5 := hB.out
          rw [Hms.out] at hB5
          have hR := Lib.hid (room_runes hB5)
          clear hB5
          go_wp2_with fail
          refine (HRT2.out _ _ _ hR.out).mono ?_
          rintro e w5 ⟨rfl, hb5⟩
          go_wp2_with fail
          refine (HTx2.out _ _ _ (hR.out.below hb5)).mono ?_
          rintro e w' ⟨rfl, rfl⟩
          go_wp2_with fail
          go_ret
          exact ⟨by first | rfl | simp, hb.trans (hb5.mono hb.size)⟩
end Go.Proofs.YtkenffbonnbflaaDoor
