/- guisetop.awake. guisetop.TopAlike: the walk. What the row's list gives; a world that holds it. An argument of type api.Tables, as a reading has it: a table in memory. -/
import Derived.Test.YtjmkdimbbacnfaaGreatDoorGHsZ
import Derived.Test.YtjmkdimbbacnfaaGreatDoorGShA
import Derived.Test.YtjmkdimbbacnfaaGreatDoorGRefC
import Derived.Test.YtjmkdimbbacnfaaGreatDoorCards
import Derived.Test.YtjmkdimbbacnfaaGreatDoorTie
import Derived.Lib.LaidIn
import Derived.LaidHandle
import Derived.Lib.LaidU8
import Derived.Deep.DeepHandedRow
import Derived.Deep.DeepWitnessRowRef
import Derived.ProofKit
import Derived.WalkKit
import Derived.OpenShut
import Derived.Test.YtjmkdimbbacnfaaGreatDoorRows
import Derived.ChangeSame
import Derived.ChangeArms
import Derived.Deep.Strs
import Derived.WideShapes
import Derived.Laws.World
namespace Go.Proofs.YtjmkdimbbacnfaaGreatDoor
section
open Go.RowKit Go.Shelf
set_option linter.unusedVariables false
theorem house_ok : TabOk houseT where
  scripts := by unfold i32; decide +kernel
  common := by unfold i32; decide +kernel
  marks := by unfold i32 i64; decide +kernel
  pairs := by unfold i32; decide +kernel
  folds := by unfold i32; decide +kernel
  looks := by unfold i32; decide +kernel
  drops := by unfold i32; decide +kernel
  allowed := by unfold i32; decide +kernel
theorem house_none : checkW houseT = none := Option.isNone_iff_eq_none.1 house_check
theorem house_up : upT houseT = true := by unfold upT; rw [house_large, house_check]; rfl
theorem house_R : RightT houseT := right_of house_ok house_none
theorem house_e : normS houseT ⟨#[69, 204, 129]⟩ = ⟨#[195, 169]⟩ := by decide +kernel
theorem of_up {n : Nat} {T : Tab} {e : Ending} {w : World} (hu : upT T = true) (h : OfAns n T e w) : ∃ b, e = .returned (.tuple #[.pointer (some ⟨b, 0, none⟩), .bool true, .bool true]) ∧ Bk w b T := by
  unfold OfAns at h
  rw [if_pos hu] at h
  obtain ⟨b, h1, h2⟩ := h
  exact ⟨b, h1, h2.bk⟩
theorem norm_at {w : World} {b : Nat} (hK : Bk w b houseT) : Calls Tryz.prog 15 #[.pointer (some ⟨b, 0, none⟩), .string ⟨#[69, 204, 129]⟩] w fun e w' => e = .returned (.string ⟨#[195, 169]⟩) ∧ Below w.heap.size w w' := by
  have h := norm_Norm hK house_R ⟨#[69, 204, 129]⟩ (by decide)
  rw [house_e] at h
  exact h
theorem alike_1 {w : World} {b : Nat} (hK : Bk w b houseT) : Calls Tryz.prog 7 #[.pointer (some ⟨b, 0, none⟩), .string ⟨#[108, 97, 109, 112]⟩, .string ⟨#[49, 97, 114, 110, 112]⟩] w fun e w' => e = .returned (.bool true) ∧ Below w.heap.size w w' := by
  have h := look_Alike hK house_R ⟨#[108, 97, 109, 112]⟩ ⟨#[49, 97, 114, 110, 112]⟩ (by decide) (by decide)
  rw [house_alike1] at h
  exact h
theorem alike_2 {w : World} {b : Nat} (hK : Bk w b houseT) : Calls Tryz.prog 7 #[.pointer (some ⟨b, 0, none⟩), .string ⟨#[108, 97, 109, 112]⟩, .string ⟨#[108, 97, 109, 98]⟩] w fun e w' => e = .returned (.bool false) ∧ Below w.heap.size w w' := by
  have h := look_Alike hK house_R ⟨#[108, 97, 109, 112]⟩ ⟨#[108, 97, 109, 98]⟩ (by decide) (by decide)
  rw [house_alike2] at h
  exact h
set_option maxRecDepth 100000 in
set_option maxHeartbeats 4000000 in
theorem top_awake {w : World} {m : Int} (hT : Lib.Utf8Tabs 0 1 w) (hm : w.cell? ⟨3, 0, none⟩ = some (.int .i64 m)) (h3 : 3 < w.heap.size) :
    Calls Tryz.prog 5 #[] w fun e w' => e = .returned (.bool true) ∧ Below w.heap.size w w' := by
  have HU := Lib.hid hT
  have HM := Lib.hid hm
  have HH := Lib.hid book_House
  clear hT hm
  go_enter Tryz.func5, Tryz.ntmps5
  go_wp2_with (first
    | (go_at_call 12; refine (HH.out _).mono ?_; rintro e w1 ⟨⟨v0, v1, v2, v3, v4, v5, v6, v7, rfl, ht⟩, h1⟩))
  refine (keep_Of houseT ht house_ok (Utf8Tabs_below HU.out h1)).mono ?_
  rintro e w2 ⟨hof, h2⟩
  obtain ⟨b, rfl, K2⟩ := of_up house_up hof
  have B2 := h1.trans (h2.mono h1.size)
  have m2 := cell_below HM.out B2 h3
  have s2 : 3 < w2.heap.size := Nat.lt_of_lt_of_le h3 B2.size
  have K2 := Lib.hid K2
  have M2 := Lib.hid m2
  have B2 := Lib.hid B2
  clear ht h1 h2 hof m2
  go_wp2_with fail
  refine (name_ASCII M2.out s2 K2.out house_R house_R.allowed).mono ?_
  rintro e w3 ⟨rfl, h4⟩
  have K3 := Lib.hid (K2.out.below h4)
  have M3 := Lib.hid (cell_below M2.out h4 s2)
  have B3 := Lib.hid (B2.out.trans (h4.mono B2.out.size))
  have s3 : 3 < w3.heap.size := Nat.lt_of_lt_of_le s2 h4.size
  clear h4 K2 M2 B2
  go_wp2_with fail
  refine (name_Unicode M3.out s3 K3.out house_R house_R.allowed).mono ?_
  rintro e w4 ⟨rfl, h5⟩
  have K4 := Lib.hid (K3.out.below h5)
  have B4 := Lib.hid (B3.out.trans (h5.mono B3.out.size))
  clear h5 K3 M3 B3
  go_wp2_with fail
  refine (norm_at K4.out).mono ?_
  rintro e w5 ⟨rfl, h6⟩
  have K5 := Lib.hid (K4.out.below h6)
  have B5 := Lib.hid (B4.out.trans (h6.mono B4.out.size))
  clear h6 K4 B4
  go_wp2_with fail
  refine (alike_1 K5.out).mono ?_
  rintro e w6 ⟨rfl, h7⟩
  have K6 := Lib.hid (K5.out.below h7)
  have B6 := Lib.hid (B5.out.trans (h7.mono B5.out.size))
  clear h7 K5 B5
  go_wp2_with fail
  refine (alike_2 K6.out).mono ?_
  rintro e w7 ⟨rfl, h8⟩
  go_wp2_with fail
  go_ret
  exact ⟨rfl, B6.out.trans (h8.mono B6.out.size)⟩

end
section
open Go.RowKit Go.Shelf
set_option linter.unusedVariables false
theorem few_size (s : ByteArray) (n : Nat) : (fewL s n).size ≤ n := by
  unfold fewL
  split
  · rw [ByteArray.size_extract]; omega
  · omega
theorem of_down {n : Nat} {T : Tab} {e : Ending} {w : World} (hu : upT T = false) (h : OfAns n T e w) : e = .returned (.tuple #[.pointer none, .bool false, .bool true]) := by
  unfold OfAns at h
  rw [if_neg (by rw [hu]; decide)] at h
  exact h
theorem up_right {T : Tab} (hok : TabOk T) (hu : upT T = true) : RightT T := by
  refine right_of hok (Option.isNone_iff_eq_none.1 ?_)
  unfold upT at hu
  exact (Bool.and_eq_true_iff.1 hu).2
theorem alike_self (T : Tab) (s : ByteArray) : alikeB T s s = true := by unfold alikeB; exact beq_self_eq_true _
theorem alike_turn (T : Tab) (s t : ByteArray) : alikeB T s t = alikeB T t s := by unfold alikeB; exact Bool.beq_comm
theorem alike_third (T : Tab) {s t u : ByteArray} (h1 : alikeB T s t = true) (h2 : alikeB T t u = true) : alikeB T s u = true := by
  unfold alikeB at *
  rw [beq_iff_eq] at *
  exact h1.trans h2
set_option maxRecDepth 100000 in
set_option maxHeartbeats 8000000 in
theorem top_Alike {w : World} {v0 v1 v2 v3 v4 v5 v6 v7 : Value} (T : Tab) (h : TabAt w v0 v1 v2 v3 v4 v5 v6 v7 T) (hok : TabOk T) (hT : Lib.Utf8Tabs 0 1 w) {m : Int} (hm : w.cell? ⟨3, 0, none⟩ = some (.int .i64 m)) (h3 : 3 < w.heap.size) (s u v : ByteArray) (hs : s.size ≤ 1048576) (hu : u.size ≤ 1048576) (hv : v.size ≤ 1048576) :
    Calls Tryz.prog 3 #[.agg #[v0, v1, v2, v3, v4, v5, v6, v7], .string s, .string u, .string v] w fun e w' => e = .returned (.bool true) ∧ Below w.heap.size w w' := by
  have hb1 : Below w.heap.size w (w.alloc (.cells #[v0, v1, v2, v3, v4, v5, v6, v7] 28)) := (Below.refl _ w).alloc (Nat.le_refl _) _
  have HK := Lib.hid (keep_Of T (h.below hb1) hok (Utf8Tabs_below hT hb1))
  have HU := Lib.hid hT
  have HM := Lib.hid hm
  have HB1 := Lib.hid hb1
  clear h hT hm hb1
  have hf1 := few_size s 500
  have hf2 := few_size u 500
  have hf3 := few_size v 500
  have HF : Hid (∀ (x : ByteArray), x.size ≤ 1048576 → ∀ W, Calls Tryz.prog 6 #[.string x, .int .i64 500] W fun e w' => e = .returned (.string (fewL x 500)) ∧ Below W.heap.size W w') := Lib.hid (fun x hx W => top_few x 500 (by omega) (by decide))
  cases hup : upT T with
  | false =>
    go_enter Tryz.func3, Tryz.ntmps3
    go_wp2_with fail
    refine HK.out.mono ?_
    rintro e w2 ⟨hof, h2⟩
    obtain rfl := of_down hup hof
    have hB := HB1.out.trans (h2.mono HB1.out.size)
    have HW := Lib.hid (top_awake (Utf8Tabs_below HU.out hB) (cell_below HM.out hB h3) (Nat.lt_of_lt_of_le h3 hB.size))
    have HB := Lib.hid hB
    clear hof h2 hB
    go_wp2_with fail
    refine HW.out.mono ?_
    rintro e w3 ⟨rfl, h4⟩
    go_wp2_with fail
    go_ret
    exact ⟨rfl, HB.out.trans (h4.mono HB.out.size)⟩
  | true =>
    have hR := Lib.hid (up_right hok hup)
    go_enter Tryz.func3, Tryz.ntmps3
    go_wp2_with fail
    refine HK.out.mono ?_
    rintro e w2 ⟨hof, h2⟩
    obtain ⟨b, rfl, K2⟩ := of_up hup hof
    have hB := HB1.out.trans (h2.mono HB1.out.size)
    have HB := Lib.hid hB
    have HW : Hid (∀ W, Below w2.heap.size w2 W → Calls Tryz.prog 5 #[] W fun e w' => e = .returned (.bool true) ∧ Below W.heap.size W w') := Lib.hid (fun W hW => top_awake (Utf8Tabs_below (Utf8Tabs_below HU.out hB) hW) (cell_below (cell_below HM.out hB h3) hW (Nat.lt_of_lt_of_le h3 hB.size)) (Nat.lt_of_lt_of_le h3 (Nat.le_trans hB.size hW.size)))
    have HA : Hid (∀ W, Below w2.heap.size w2 W → ∀ (x y : ByteArray) (r : Bool), x.size ≤ 500 → y.size ≤ 500 → alikeB T x y = r → Calls Tryz.prog 7 #[.pointer (some ⟨b, 0, none⟩), .string x, .string y] W fun e w' => e = .returned (.bool r) ∧ Below W.heap.size W w') := Lib.hid (fun W hW x y r hx hy hr => by rw [← hr]; exact look_Alike (K2.below hW) hR.out x y hx hy)
    have HS : Hid (∀ W, Below w2.heap.size w2 W → ∀ (x k : ByteArray), x.size ≤ 500 → skelS T x = k → Calls Tryz.prog 8 #[.pointer (some ⟨b, 0, none⟩), .string x] W fun e w' => e = .returned (.string k) ∧ Below W.heap.size W w') := Lib.hid (fun W hW x k hx hk => by rw [← hk]; exact look_Skeleton (K2.below hW) hR.out x hx)
    clear hof h2 hB K2
    have hb : Below w2.heap.size w2 w2 := Below.refl _ _
    go_wp2_with (go_at_call 6; refine (HF.out _ (by assumption) _).mono ?_; rintro e wk ⟨rfl, h9⟩; replace hb := hb.trans (h9.mono hb.size); clear h9)
    generalize fewL s 500 = s1 at hf1 ⊢
    generalize fewL u 500 = u1 at hf2 ⊢
    generalize fewL v 500 = t1 at hf3 ⊢
    have e1 := alike_self T s1
    obtain ⟨p, hp⟩ : ∃ p, alikeB T s1 u1 = p := ⟨_, rfl⟩
    obtain ⟨q, hq⟩ : ∃ q, alikeB T u1 t1 = q := ⟨_, rfl⟩
    obtain ⟨r, hr⟩ : ∃ r, alikeB T s1 t1 = r := ⟨_, rfl⟩
    have hp2 : alikeB T u1 s1 = p := by rw [alike_turn]; exact hp
    have h4 : p = true → q = true → r = true := fun h1 h2 => by rw [← hr]; exact alike_third T (hp.trans h1) (hq.trans h2)
    obtain ⟨k1, hk1⟩ : ∃ k, skelS T s1 = k := ⟨_, rfl⟩
    obtain ⟨k2, hk2⟩ : ∃ k, skelS T u1 = k := ⟨_, rfl⟩
    have hk : (k1.toList == k2.toList) = p := by rw [← hk1, ← hk2]; exact hp
    clear hok hs hu hv HK HU HM HB1 HF hup hR
    cases p with
    | false =>
      clear h4
      refine (HA.out _ hb _ _ _ hf1 hf1 e1).mono ?_
      rintro e wk ⟨rfl, h9⟩
      replace hb := hb.trans (h9.mono hb.size)
      clear h9
      go_wp2_with fail
      refine (HA.out _ hb _ _ _ hf1 hf2 hp).mono ?_
      rintro e wk ⟨rfl, h9⟩
      replace hb := hb.trans (h9.mono hb.size)
      clear h9
      go_wp2_with fail
      refine (HA.out _ hb _ _ _ hf2 hf1 hp2).mono ?_
      rintro e wk ⟨rfl, h9⟩
      replace hb := hb.trans (h9.mono hb.size)
      clear h9
      go_wp2_with fail
      refine (HA.out _ hb _ _ _ hf1 hf2 hp).mono ?_
      rintro e wk ⟨rfl, h9⟩
      replace hb := hb.trans (h9.mono hb.size)
      clear h9
      go_wp2_with fail
      refine (HS.out _ hb _ _ hf1 hk1).mono ?_
      rintro e wk ⟨rfl, h9⟩
      replace hb := hb.trans (h9.mono hb.size)
      clear h9
      go_wp2_with fail
      refine (HS.out _ hb _ _ hf2 hk2).mono ?_
      rintro e wk ⟨rfl, h9⟩
      replace hb := hb.trans (h9.mono hb.size)
      clear h9
      go_wp2_with fail
      refine (HA.out _ hb _ _ _ hf1 hf2 hp).mono ?_
      rintro e wk ⟨rfl, h9⟩
      replace hb := hb.trans (h9.mono hb.size)
      clear h9
      go_wp2_with fail
      refine (HW.out _ hb).mono ?_
      rintro e wk ⟨rfl, h9⟩
      replace hb := hb.trans (h9.mono hb.size)
      clear h9
      go_wp2_with fail
      go_ret
      exact ⟨rfl, HB.out.trans (hb.mono HB.out.size)⟩
    | true =>
      cases q with
      | false =>
        clear h4
        refine (HA.out _ hb _ _ _ hf1 hf1 e1).mono ?_
        rintro e wk ⟨rfl, h9⟩
        replace hb := hb.trans (h9.mono hb.size)
        clear h9
        go_wp2_with fail
        refine (HA.out _ hb _ _ _ hf1 hf2 hp).mono ?_
        rintro e wk ⟨rfl, h9⟩
        replace hb := hb.trans (h9.mono hb.size)
        clear h9
        go_wp2_with fail
        refine (HA.out _ hb _ _ _ hf2 hf1 hp2).mono ?_
        rintro e wk ⟨rfl, h9⟩
        replace hb := hb.trans (h9.mono hb.size)
        clear h9
        go_wp2_with fail
        refine (HA.out _ hb _ _ _ hf1 hf2 hp).mono ?_
        rintro e wk ⟨rfl, h9⟩
        replace hb := hb.trans (h9.mono hb.size)
        clear h9
        go_wp2_with fail
        refine (HS.out _ hb _ _ hf1 hk1).mono ?_
        rintro e wk ⟨rfl, h9⟩
        replace hb := hb.trans (h9.mono hb.size)
        clear h9
        go_wp2_with fail
        refine (HS.out _ hb _ _ hf2 hk2).mono ?_
        rintro e wk ⟨rfl, h9⟩
        replace hb := hb.trans (h9.mono hb.size)
        clear h9
        go_wp2_with fail
        refine (HA.out _ hb _ _ _ hf1 hf2 hp).mono ?_
        rintro e wk ⟨rfl, h9⟩
        replace hb := hb.trans (h9.mono hb.size)
        clear h9
        go_wp2_with fail
        refine (HA.out _ hb _ _ _ hf2 hf3 hq).mono ?_
        rintro e wk ⟨rfl, h9⟩
        replace hb := hb.trans (h9.mono hb.size)
        clear h9
        go_wp2_with fail
        refine (HW.out _ hb).mono ?_
        rintro e wk ⟨rfl, h9⟩
        replace hb := hb.trans (h9.mono hb.size)
        clear h9
        go_wp2_with fail
        go_ret
        exact ⟨rfl, HB.out.trans (hb.mono HB.out.size)⟩
      | true =>
        obtain rfl : r = true := h4 rfl rfl
        clear h4
        refine (HA.out _ hb _ _ _ hf1 hf1 e1).mono ?_
        rintro e wk ⟨rfl, h9⟩
        replace hb := hb.trans (h9.mono hb.size)
        clear h9
        go_wp2_with fail
        refine (HA.out _ hb _ _ _ hf1 hf2 hp).mono ?_
        rintro e wk ⟨rfl, h9⟩
        replace hb := hb.trans (h9.mono hb.size)
        clear h9
        go_wp2_with fail
        refine (HA.out _ hb _ _ _ hf2 hf1 hp2).mono ?_
        rintro e wk ⟨rfl, h9⟩
        replace hb := hb.trans (h9.mono hb.size)
        clear h9
        go_wp2_with fail
        refine (HA.out _ hb _ _ _ hf1 hf2 hp).mono ?_
        rintro e wk ⟨rfl, h9⟩
        replace hb := hb.trans (h9.mono hb.size)
        clear h9
        go_wp2_with fail
        refine (HS.out _ hb _ _ hf1 hk1).mono ?_
        rintro e wk ⟨rfl, h9⟩
        replace hb := hb.trans (h9.mono hb.size)
        clear h9
        go_wp2_with fail
        refine (HS.out _ hb _ _ hf2 hk2).mono ?_
        rintro e wk ⟨rfl, h9⟩
        replace hb := hb.trans (h9.mono hb.size)
        clear h9
        go_wp2_with fail
        refine (HA.out _ hb _ _ _ hf1 hf2 hp).mono ?_
        rintro e wk ⟨rfl, h9⟩
        replace hb := hb.trans (h9.mono hb.size)
        clear h9
        go_wp2_with fail
        refine (HA.out _ hb _ _ _ hf2 hf3 hq).mono ?_
        rintro e wk ⟨rfl, h9⟩
        replace hb := hb.trans (h9.mono hb.size)
        clear h9
        go_wp2_with fail
        refine (HA.out _ hb _ _ _ hf1 hf3 hr).mono ?_
        rintro e wk ⟨rfl, h9⟩
        replace hb := hb.trans (h9.mono hb.size)
        clear h9
        go_wp2_with fail
        refine (HW.out _ hb).mono ?_
        rintro e wk ⟨rfl, h9⟩
        replace hb := hb.trans (h9.mono hb.size)
        clear h9
        go_wp2_with fail
        go_ret
        exact ⟨rfl, HB.out.trans (hb.mono HB.out.size)⟩

end
section
open Go.ChangeShapes Go.WideShapes Go.ChangeAt Go.RowKit
set_option linter.unusedVariables false
theorem u8Extra : U8Extra Tryz.prog Tryz.lays260_ren := ⟨by kernel_rfl, by kernel_rfl, by kernel_rfl, by kernel_rfl, by kernel_rfl, by kernel_rfl, by kernel_rfl⟩
/-- the row's list -/
def theLaid : List (String × DataW Unit) := [("unicode/utf8.acceptRanges", Rows.laid_unicode_utf8_acceptRanges), ("errors.errorType", Rows.laid_errors_errorType), ("unicode/utf8.first", Rows.laid_unicode_utf8_first)]
theorem acc_eq : (Rows.laid_unicode_utf8_acceptRanges : DataW Unit) = Lib.acceptData := by kernel_rfl
set_option maxRecDepth 100000 in
theorem first_eq : (Rows.laid_unicode_utf8_first : DataW Unit) = Lib.firstData := by kernel_rfl
/-- those that are no type's handle -/
def thePlain : List (String × DataW Unit) := [("unicode/utf8.acceptRanges", Rows.laid_unicode_utf8_acceptRanges), ("unicode/utf8.first", Rows.laid_unicode_utf8_first)]
theorem tabs {W : World} (h : laidMetH Tryz.prog theLaid W) : Lib.Utf8Tabs 0 1 W := by
  have h' : laidMet Tryz.prog thePlain W ∧ handlesMet Tryz.prog [("errors.errorType", Rows.laid_errors_errorType)] W := h
  have h4 := Lib.laidMet.reads h'.1 (.head _)
  have h3 := Lib.laidMet.reads h'.1 (.tail _ (.head _))
  rw [acc_eq] at h4
  rw [first_eq] at h3
  exact utf8Tabs_of_reads Tryz.lays260 u8Extra h3 h4
theorem max_len {W : World} (h : W.ShapedOpen Tryz.prog) : ∃ m, W.cell? ⟨3, 0, none⟩ = some (.int .i64 m) := Tryz.laysM146.s1_3 W h
/-- a world that holds them -/
noncomputable def laidWorld (os : Os) : World :=
  let w0 := World.holding Tryz.prog os ⟨#[], #[], []⟩
  let put (h : Array Obj) (g : Nat) (cs : Array Value) : Array Obj := h.modify g fun
    | .cells _ t frozen => .cells cs t frozen
    | o => o
  let h1 := put w0.heap 0 (Lib.firstTab.map fun z => Value.int .u8 z).toArray
  let h2 := put h1 1 ((List.range 16).flatMap fun i => [Value.int .u8 (Lib.accLo i), Value.int .u8 (Lib.accHi i)]).toArray
  let h3 := put h2 2 #[.iface 231 (.agg #[.pointer (some ⟨4, 46, none⟩)])]
  { w0 with heap := h3 }
theorem laid_plain (os : Os) (args : Array Value) : laidMet Tryz.prog thePlain ((laidWorld os).forCall (fun _ _ => 0) ⟨#[], args, []⟩).memory := by
  have e : thePlain = [("unicode/utf8.acceptRanges", Lib.acceptData), ("unicode/utf8.first", Lib.firstData)] := by unfold thePlain; rw [acc_eq, first_eq]
  rw [e]
  exact (LaidIn.of_run (l := [("unicode/utf8.acceptRanges", Lib.acceptData), ("unicode/utf8.first", Lib.firstData)]) [1, 0] 8 (by kernel_rfl) (by kernel_rfl) (by kernel_rfl) (by kernel_rfl)).met
theorem laid_met (os : Os) (args : Array Value) : laidMetH Tryz.prog theLaid ((laidWorld os).forCall (fun _ _ => 0) ⟨#[], args, []⟩).memory :=
  laidMetH_of_parts (laid_plain os args) (by kernel_rfl)

end
section
open Go.ChangeShapes Go.WideShapes Go.RowKit
set_option linter.unusedVariables false
set_option linter.unusedSimpArgs false
section
variable {H : Type}
theorem bulk_pos : ∀ d : DataW H, 1 ≤ Rows.uptoBulk d
  | .lit l => by cases l <;> simp [Rows.uptoBulk]
  | .nil => by simp [Rows.uptoBulk]
  | .ptr d => by simp [Rows.uptoBulk]
  | .slice e s => by simp [Rows.uptoBulk]
  | .agg p => by simp [Rows.uptoBulk]
  | .iface _ d => by simp [Rows.uptoBulk]
  | .map e => by simp [Rows.uptoBulk]
  | .held _ => by simp [Rows.uptoBulk]
theorem bulk_len : ∀ l : List (DataW H), l.length ≤ Rows.uptoBulkAll l
  | [] => by simp
  | d :: r => by have h1 := bulk_pos d; have h2 := bulk_len r; simp only [List.length_cons, Rows.uptoBulkAll]; omega
theorem bulk_mem : ∀ (l : List (DataW H)) (d : DataW H), d ∈ l → Rows.uptoBulk d ≤ Rows.uptoBulkAll l
  | [], d, h => by cases h
  | x :: r, d, h => by
    simp only [Rows.uptoBulkAll]
    rcases List.mem_cons.1 h with rfl | h
    · omega
    · have := bulk_mem r d h; omega
end
theorem list_of_lt {α : Type} {p : Nat → α → Prop} : ∀ n, (∀ i, i < n → ∃ x, p i x) → ∃ L : List α, L.length = n ∧ ∀ i x, L[i]? = some x → p i x
  | 0, _ => ⟨[], rfl, fun i x h => by simp at h⟩
  | n + 1, h => by
    obtain ⟨L, hl, hL⟩ := list_of_lt n (fun i hi => h i (by omega))
    obtain ⟨x, hx⟩ := h n (by omega)
    refine ⟨L ++ [x], by simp [hl], fun i y hy => ?_⟩
    by_cases hi : i < n
    · rw [List.getElem?_append_left (by omega)] at hy
      exact hL i y hy
    · rw [List.getElem?_append_right (by omega)] at hy
      have h0 : i - L.length = 0 := by
        have := (List.getElem?_eq_some_iff.1 hy).1
        simp at this
        omega
      rw [h0] at hy
      obtain rfl : x = y := by simpa using hy
      obtain rfl : i = n := by omega
      exact hx
theorem bd32 {x : Int} (h : (Lit.int .i32 x).wf = true) : i32 x := by
  unfold i32
  simpa [Lit.wf, IntKind.min, IntKind.max, IntKind.signed, IntKind.bits] using h
theorem bd64 {x : Int} (h : (Lit.int .i64 x).wf = true) : i64 x := by
  unfold i64
  simpa [Lit.wf, IntKind.min, IntKind.max, IntKind.signed, IntKind.bits] using h
section
variable {H : Type} {enc : TypeId × Value → H} {W : World} {base : Nat} {sp : Nat → Bool} {hd : Bool}
theorem open_list {α : Type} {encA : α → List Value} {okA : α → Prop} {t e : TypeId} {k fuel : Nat} {v : Value} {d : DataW H} {p : List MemPlace}
    (ht : Tryz.prog.underlying t = some (.slice e)) (ce : Tryz.prog.cellsOf e = k) (hk : 0 < k) (h : DataW.trod enc Tryz.prog W base sp hd fuel t [v] = some (d, p)) (hb : Rows.uptoBulk d ≤ 1048576)
    (hel : ∀ n cs y, DataW.trod enc Tryz.prog W base sp hd n e cs = some y → Rows.uptoBulk y.1 ≤ 1048576 → ∃ x : α, cs = encA x ∧ okA x) :
    ∃ L : List α, ListAt W v k (L.map encA) ∧ ∀ x ∈ L, okA x := by
  rcases DataW.trod_slice ht h with ⟨hcs, hx⟩ | ⟨a, len, cap, elems, rest, n, _, hcs, hx, _, hle, _, hlen, hget, _, _⟩
  · obtain rfl : v = .slice none 0 0 := by simpa using hcs
    exact ⟨[], ⟨none, 0, rfl, by simp, fun h0 => by simp at h0⟩, fun x hx => by cases hx⟩
  · obtain rfl : v = .slice (some a) len cap := by simpa using hcs
    obtain ⟨rfl, -⟩ := Prod.mk.inj hx
    simp only [Rows.uptoBulk] at hb
    have hbl := bulk_len (elems.map (·.1))
    rw [List.length_map, hlen] at hbl
    have each : ∀ i, i < len → ∃ x : α, okA x ∧ W.cells? base (a.add (i * k)) k = some (encA x) := fun i hi => by
      have hg := hget i hi
      rw [ce, List.getElem?_eq_getElem (by omega)] at hg
      obtain ⟨cs, h1, h2⟩ := Option.bind_eq_some_iff.1 hg
      have hm := bulk_mem (elems.map (·.1)) (elems[i]'(by omega)).1 (List.mem_map.2 ⟨_, List.getElem_mem _, rfl⟩)
      obtain ⟨x, rfl, hx⟩ := hel n cs _ h2 (by omega)
      exact ⟨x, hx, h1⟩
    obtain ⟨L, hL, hp⟩ := list_of_lt len each
    have hcell : ∀ i x j u, (L.map encA)[i]? = some x → x[j]? = some u → W.cell? (a.add (i * k + j)) = some u := fun i x j u hi hj => by
      rw [List.getElem?_map] at hi
      obtain ⟨y, hy, rfl⟩ := Option.map_eq_some_iff.1 hi
      obtain ⟨_, hl2, hc⟩ := World.cells?_some (hp i y hy).2
      have hjk : j < k := by rw [← hl2]; exact (List.getElem?_eq_some_iff.1 hj).1
      rw [← Addr.add_add, hc j hjk, hj]
    refine ⟨L, ⟨some a, cap, by rw [List.length_map, hL], by rw [List.length_map, hL]; omega, fun h0 => ⟨a, rfl, ?_, hcell⟩⟩, fun x hx => ?_⟩
    · rw [List.length_map] at h0
      obtain ⟨_, hl2, hc⟩ := World.cells?_some (hp 0 L[0] (List.getElem?_eq_getElem h0)).2
      have h1 := hc 0 hk
      rw [List.getElem?_eq_getElem (by omega)] at h1
      have h2 := World.block_lt_of_cell? W _ h1
      rwa [addr_block', addr_block'] at h2
    · obtain ⟨i, hi, rfl⟩ := List.mem_iff_getElem.1 hx
      exact (hp i _ (List.getElem?_eq_getElem hi)).1
theorem c32 : Tryz.prog.cellsOf 21 = 1 := by kernel_rfl
theorem c64 : Tryz.prog.cellsOf 3 = 1 := by kernel_rfl
theorem cstr : Tryz.prog.cellsOf 9 = 1 := by kernel_rfl
theorem csps : Tryz.prog.cellsOf 23 = 1 := by kernel_rfl
theorem cSpan : Tryz.prog.cellsOf 73 = 2 := by kernel_rfl
theorem cMark : Tryz.prog.cellsOf 75 = 2 := by kernel_rfl
theorem cPair : Tryz.prog.cellsOf 77 = 3 := by kernel_rfl
theorem cMap : Tryz.prog.cellsOf 79 = 2 := by kernel_rfl
theorem cScript : Tryz.prog.cellsOf 59 = 2 := by kernel_rfl
set_option maxRecDepth 100000 in
theorem el_span (n : Nat) (cs : List Value) (y : DataW H × List MemPlace) (h : DataW.trod enc Tryz.prog W base sp hd n 73 cs = some y) (_ : Rows.uptoBulk y.1 ≤ 1048576) : ∃ x : SpanT, cs = encSpan x ∧ (i32 x.lo ∧ i32 x.hi) := by
  obtain ⟨y0, y1, m, rfl, hl, h0, h1⟩ := trod_struct2 Tryz.underlying73 h
  rw [cSpan] at hl
  match cs, hl with
  | [v0, v1], _ =>
    simp only [c32, List.drop_zero, List.drop_succ_cons, List.take_succ_cons, List.take_zero] at h0 h1
    obtain ⟨a, ha, -, wa⟩ := DataW.trod_int Tryz.underlying21 h0
    obtain ⟨b, hb, -, wb⟩ := DataW.trod_int Tryz.underlying21 h1
    cases ha; cases hb
    exact ⟨⟨a, b⟩, rfl, bd32 wa, bd32 wb⟩
set_option maxRecDepth 100000 in
theorem el_mark (n : Nat) (cs : List Value) (y : DataW H × List MemPlace) (h : DataW.trod enc Tryz.prog W base sp hd n 75 cs = some y) (_ : Rows.uptoBulk y.1 ≤ 1048576) : ∃ x : MarkT, cs = encMark x ∧ (i32 x.r ∧ i64 x.c) := by
  obtain ⟨y0, y1, m, rfl, hl, h0, h1⟩ := trod_struct2 Tryz.underlying75 h
  rw [cMark] at hl
  match cs, hl with
  | [v0, v1], _ =>
    simp only [c32, c64, List.drop_zero, List.drop_succ_cons, List.take_succ_cons, List.take_zero] at h0 h1
    obtain ⟨a, ha, -, wa⟩ := DataW.trod_int Tryz.underlying21 h0
    obtain ⟨b, hb, -, wb⟩ := DataW.trod_int Tryz.underlying3 h1
    cases ha; cases hb
    exact ⟨⟨a, b⟩, rfl, bd32 wa, bd64 wb⟩
set_option maxRecDepth 100000 in
theorem el_pair (n : Nat) (cs : List Value) (y : DataW H × List MemPlace) (h : DataW.trod enc Tryz.prog W base sp hd n 77 cs = some y) (_ : Rows.uptoBulk y.1 ≤ 1048576) : ∃ x : PairT, cs = encPair x ∧ (i32 x.whole ∧ i32 x.base ∧ i32 x.mark) := by
  obtain ⟨y0, y1, y2, m, rfl, hl, h0, h1, h2⟩ := Deep.trod_struct3 Tryz.underlying77 h
  rw [cPair] at hl
  match cs, hl with
  | [v0, v1, v2], _ =>
    simp only [c32, List.drop_zero, List.drop_succ_cons, List.take_succ_cons, List.take_zero] at h0 h1 h2
    obtain ⟨a, ha, -, wa⟩ := DataW.trod_int Tryz.underlying21 h0
    obtain ⟨b, hb, -, wb⟩ := DataW.trod_int Tryz.underlying21 h1
    obtain ⟨c, hc, -, wc⟩ := DataW.trod_int Tryz.underlying21 h2
    cases ha; cases hb; cases hc
    exact ⟨⟨a, b, c⟩, rfl, bd32 wa, bd32 wb, bd32 wc⟩
set_option maxRecDepth 100000 in
theorem el_map (n : Nat) (cs : List Value) (y : DataW H × List MemPlace) (h : DataW.trod enc Tryz.prog W base sp hd n 79 cs = some y) (hb : Rows.uptoBulk y.1 ≤ 1048576) : ∃ x : MapT, cs = encMap x ∧ (i32 x.frm ∧ x.to.size ≤ 2097152) := by
  obtain ⟨y0, y1, m, rfl, hl, h0, h1⟩ := trod_struct2 Tryz.underlying79 h
  rw [cMap] at hl
  match cs, hl with
  | [v0, v1], _ =>
    simp only [c32, cstr, List.drop_zero, List.drop_succ_cons, List.take_succ_cons, List.take_zero] at h0 h1
    obtain ⟨a, ha, -, wa⟩ := DataW.trod_int Tryz.underlying21 h0
    obtain ⟨t, ht, hy, wt⟩ := DataW.trod_string Tryz.underlying9 h1
    cases ha; cases ht
    subst hy
    simp only [Rows.uptoBulk, Rows.uptoBulkAll] at hb
    have e : t.data.toList.length = t.size := by rw [Array.length_toList]; rfl
    exact ⟨⟨a, t⟩, rfl, bd32 wa, by show t.size ≤ 2097152; omega⟩
set_option maxRecDepth 100000 in
theorem el_script (n : Nat) (cs : List Value) (y : DataW H × List MemPlace) (h : DataW.trod enc Tryz.prog W base sp hd n 59 cs = some y) (hb : Rows.uptoBulk y.1 ≤ 1048576) :
    ∃ x : ScrT × Value, cs = [Value.string x.1.name, x.2] ∧ (x.1.name.size ≤ 2097152 ∧ (∀ z ∈ x.1.spans, i32 z.lo ∧ i32 z.hi) ∧ ListAt W x.2 2 (x.1.spans.map encSpan)) := by
  obtain ⟨y0, y1, m, rfl, hl, h0, h1⟩ := trod_struct2 Tryz.underlying59 h
  rw [cScript] at hl
  match cs, hl with
  | [v0, v1], _ =>
    simp only [cstr, csps, List.drop_zero, List.drop_succ_cons, List.take_succ_cons, List.take_zero] at h0 h1
    obtain ⟨t, ht, hy, wt⟩ := DataW.trod_string Tryz.underlying9 h0
    cases ht
    subst hy
    simp only [Rows.uptoBulk, Rows.uptoBulkAll] at hb
    have e : t.data.toList.length = t.size := by rw [Array.length_toList]; rfl
    obtain ⟨L, hL, hz⟩ := open_list Tryz.underlying23 cSpan (by decide) h1 (by omega) el_span
    exact ⟨(⟨t, L⟩, v1), rfl, by show t.size ≤ 2097152; omega, hz, hL⟩
theorem zip_fst {α β : Type} : ∀ l : List (α × β), (l.map (·.1)).zip (l.map (·.2)) = l
  | [] => rfl
  | x :: r => by simp [zip_fst r]
set_option maxRecDepth 100000 in
/-- a table, as a reading has it -/
theorem open_tables {r : Reach} {b0 : Nat} {v : Value} {d : DataW H} {p : List MemPlace} (hv : Value.okWide Tryz.prog W r b0 28 v) (h : DataW.Trod enc Tryz.prog W base sp hd 28 v d p) (hb : Rows.uptoBulk d ≤ 1048576) :
    ∃ (v0 v1 v2 v3 v4 v5 v6 v7 : Value) (T : Tab), v = .agg #[v0, v1, v2, v3, v4, v5, v6, v7] ∧ TabAt W v0 v1 v2 v3 v4 v5 v6 v7 T ∧ TabOk T := by
  obtain ⟨cs, rfl, hsz⟩ := okWide_struct Tryz.underlying28 hv
  rw [show Tryz.prog.cellsOf 28 = 8 by kernel_rfl] at hsz
  obtain ⟨fuel, hf⟩ := h
  obtain ⟨xs, n, _, hx, hl, hlen, hfi⟩ := DataW.trod_struct Tryz.underlying28 hf
  obtain ⟨l⟩ := cs
  match l, hsz, xs, hlen with
  | [v0, v1, v2, v3, v4, v5, v6, v7], _, [y0, y1, y2, y3, y4, y5, y6, y7], _ =>
    obtain ⟨rfl, -⟩ := Prod.mk.inj hx
    simp only [Rows.uptoBulk, Rows.uptoBulkAll, List.map_cons, List.map_nil] at hb
    have g0 := hfi 0 _ rfl
    have g1 := hfi 1 _ rfl
    have g2 := hfi 2 _ rfl
    have g3 := hfi 3 _ rfl
    have g4 := hfi 4 _ rfl
    have g5 := hfi 5 _ rfl
    have g6 := hfi 6 _ rfl
    have g7 := hfi 7 _ rfl
    simp only [show Tryz.prog.cellsOf 22 = 1 by kernel_rfl, csps, show Tryz.prog.cellsOf 24 = 1 by kernel_rfl, show Tryz.prog.cellsOf 25 = 1 by kernel_rfl, show Tryz.prog.cellsOf 26 = 1 by kernel_rfl, Value.cells, List.drop_zero, List.drop_succ_cons, List.take_succ_cons, List.take_zero, List.getElem?_cons_zero, List.getElem?_cons_succ] at g0 g1 g2 g3 g4 g5 g6 g7
    obtain ⟨L0, l0, k0⟩ := open_list Tryz.underlying22 cScript (by decide) g0 (by omega) el_script
    obtain ⟨L1, l1, k1⟩ := open_list Tryz.underlying23 cSpan (by decide) g1 (by omega) el_span
    obtain ⟨L2, l2, k2⟩ := open_list Tryz.underlying24 cMark (by decide) g2 (by omega) el_mark
    obtain ⟨L3, l3, k3⟩ := open_list Tryz.underlying25 cPair (by decide) g3 (by omega) el_pair
    obtain ⟨L4, l4, k4⟩ := open_list Tryz.underlying26 cMap (by decide) g4 (by omega) el_map
    obtain ⟨L5, l5, k5⟩ := open_list Tryz.underlying26 cMap (by decide) g5 (by omega) el_map
    obtain ⟨L6, l6, k6⟩ := open_list Tryz.underlying23 cSpan (by decide) g6 (by omega) el_span
    obtain ⟨L7, l7, k7⟩ := open_list Tryz.underlying23 cSpan (by decide) g7 (by omega) el_span
    refine ⟨v0, v1, v2, v3, v4, v5, v6, v7, ⟨L0.map (·.1), L1, L2, L3, L4, L5, L6, L7⟩, rfl, ⟨⟨L0.map (·.2), by simp, ?_, ?_⟩, l1, l2, l3, l4, l5, l6, l7⟩, ⟨?_, k1, k2, k3, k4, k5, k6, k7⟩⟩
    · show ListAt W v0 2 (((L0.map (·.1)).zip (L0.map (·.2))).map fun p => [Value.string p.1.name, p.2])
      rw [zip_fst]
      exact l0
    · intro i x u hx hu
      have hx' : (L0.map (·.1))[i]? = some x := hx
      rw [List.getElem?_map] at hx' hu
      obtain ⟨z, hz, rfl⟩ := Option.map_eq_some_iff.1 hx'
      rw [hz] at hu
      obtain rfl : z.2 = u := by simpa using hu
      exact (k0 z (List.mem_of_getElem? hz)).2.2
    · intro x hx
      obtain ⟨z, hz, rfl⟩ := List.mem_map.1 hx
      exact ⟨(k0 z hz).1, (k0 z hz).2.1⟩
end
end
end Go.Proofs.YtjmkdimbbacnfaaGreatDoor
