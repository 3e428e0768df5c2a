/- guiseref6: Check. (Printed by gen_check.py.) tables.check: what its steps hold on to; texts of runes. A map in memory, told key by key. tables: the Book's maps. -/
import Derived.Test.YtjmkdimbbacnfaaGreatDoorGRefO
import Derived.Test.YtjmkdimbbacnfaaGreatDoorGTabG
import Derived.Test.YtjmkdimbbacnfaaGreatDoorGQuiet
import Derived.Lib.ValidLaws
import Derived.Lib.RuneCount
import Derived.Maps.OwnSet
import Derived.DeepKeys4
namespace Go.Proofs.YtjmkdimbbacnfaaGreatDoor
section
open Go.RowKit
set_option linter.unusedVariables false
/-- what is wrong with a table -/
def checkW (T : Tab) : Option (Int × Int × Int) := orW (longW T) (orW (formsW T) (orW (twiceW T) (orW (pairsW T) (orW (dropsW T) (orW (tosW T) (houseW T))))))
theorem tooL_ne {n : Nat} {most list : Int} : ∀ x y z, tooL n most list = some (x, y, z) → x ≠ 0 := by
  intro x y z h
  unfold tooL at h
  split at h
  · cases h; decide
  · cases h
theorem longW_ne {T : Tab} : ∀ x y z, longW T = some (x, y, z) → x ≠ 0 := by
  intro x y z h
  unfold longW at h
  split at h
  · cases h; decide
  · exact orW_ne scan_ne' (orW_ne tooL_ne (orW_ne tooL_ne (orW_ne tooL_ne (orW_ne tooL_ne (orW_ne tooL_ne (orW_ne tooL_ne tooL_ne)))))) x y z h
theorem formsW_ne {T : Tab} : ∀ x y z, formsW T = some (x, y, z) → x ≠ 0 :=
  orW_ne scan_ne' (orW_ne scan_ne' (orW_ne scan_ne' (orW_ne scan_ne' (orW_ne scan_ne' (orW_ne scan_ne' (orW_ne scan_ne' scan_ne'))))))
theorem twiceW_ne {T : Tab} : ∀ x y z, twiceW T = some (x, y, z) → x ≠ 0 := orW_ne scan_ne' (orW_ne scan_ne' (orW_ne scan_ne' (orW_ne scan_ne' scan_ne')))
theorem pairsW_ne {T : Tab} : ∀ x y z, pairsW T = some (x, y, z) → x ≠ 0 := orW_ne scan_ne' scan_ne'
theorem dropsW_ne {T : Tab} : ∀ x y z, dropsW T = some (x, y, z) → x ≠ 0 := orW_ne scan_ne' (orW_ne scan_ne' (orW_ne scan_ne' scan_ne'))
theorem tosW_ne {T : Tab} : ∀ x y z, tosW T = some (x, y, z) → x ≠ 0 := orW_ne scan_ne' (orW_ne scan_ne' (orW_ne scan_ne' scan_ne'))
theorem allW_ne {T : Tab} : ∀ x y z, allW T = some (x, y, z) → x ≠ 0 := by
  intro x y z h
  unfold allW at h
  split at h
  · cases h
  · cases h; decide
theorem houseW_ne {T : Tab} : ∀ x y z, houseW T = some (x, y, z) → x ≠ 0 := orW_ne rowsW_ne (orW_ne scan_ne' (orW_ne scan_ne' allW_ne))

set_option maxRecDepth 100000 in
set_option maxHeartbeats 8000000 in
theorem ref_Check {w : World} {v0 v1 v2 v3 v4 v5 v6 v7 : Value} (T : Tab) (h : TabAt w v0 v1 v2 v3 v4 v5 v6 v7 T) (hok : TabOk T) :
    Calls Tryz.prog 11 #[.agg #[v0, v1, v2, v3, v4, v5, v6, v7]] w fun e w' => e = .returned (wrongV (checkW T)) ∧ Below w.heap.size w w' := by
  have HT := Lib.hid h
  have HO := Lib.hid hok
  clear h hok
  go_enter Tryz.func11, Tryz.ntmps11
  have Hr : Hid (RS w v0 v1 v2 v3 v4 v5 v6 v7 ((w.alloc (.cells #[v0, v1, v2, v3, v4, v5, v6, v7] 28)).alloc (.cells #[.int .i64 0, .int .i64 0, .int .i64 0] 40))) := Lib.hid (RS.start w v0 v1 v2 v3 v4 v5 v6 v7)
  have hcon := ref_long T (HT.out.below Hr.out.below) HO.out
  obtain ⟨b0, b1, b2, b3, b4, b5, b6, b7⟩ := Hr.out.boxF
  cases hcw0 : longW T with
  | some x =>
    obtain ⟨xa, xb, xc⟩ := x
    rw [hcw0] at hcon
    have h1 : (xa == 0) = false := by have := longW_ne _ _ _ hcw0; simpa using this
    have HC0 := Lib.hid hcon
    have HCW0 := Lib.hid hcw0
    clear hcon hcw0
    unfold wrongV at HC0
    go_wp2_with (go_at_call 32; refine HC0.out.mono ?_; rintro e w2 ⟨rfl, hb2⟩; have hr3 := (Hr.out.step hb2).step ((Below.refl _ w2).alloc (Nat.le_refl _) (.cells #[.int .i64 xa, .int .i64 xb, .int .i64 xc] 40)); obtain ⟨r1, r2, r3, f1, f2, f3⟩ := hr3.resF; have Hp := Lib.hid (And.intro hr3 trivial); clear hr3)
    obtain ⟨hB, hW⟩ := (Hp.out.1).ret (.int .i64 xa) (.int .i64 xb) (.int .i64 xc)
    obtain ⟨s1, s2, s3, -, -, -⟩ := wrong_facts hB
    refine bodyPost_ret (v := .agg #[.int .i64 xa, .int .i64 xb, .int .i64 xc]) ?_ rfl ⟨?_, hW⟩
    · simp [results, Tryz.results11, go_sem, s1, s2, s3]
    · rw [show checkW T = some (xa, xb, xc) by unfold checkW; rw [HCW0.out]; rfl]
      rfl
  | none =>
    rw [hcw0] at hcon
    have HC0 := Lib.hid hcon
    have HCW0 := Lib.hid hcw0
    clear hcon hcw0
    unfold wrongV at HC0
    go_wp2_with (go_at_call 32; refine HC0.out.mono ?_; rintro e w2 ⟨rfl, hb2⟩; have hr3 := (Hr.out.step hb2).step ((Below.refl _ w2).alloc (Nat.le_refl _) (.cells #[.int .i64 0, .int .i64 0, .int .i64 0] 40)); obtain ⟨b0, b1, b2, b3, b4, b5, b6, b7⟩ := hr3.boxF; clear hr3)
    have hp := (Hr.out.step hb2).step ((Below.refl _ w2).alloc (Nat.le_refl _) (.cells #[.int .i64 0, .int .i64 0, .int .i64 0] 40))
    have hg := Blk.new w2 40 #[.int .i64 0, .int .i64 0, .int .i64 0]
    have hgl : w.heap.size + 1 < w2.heap.size := (Hr.out.step hb2).res.lt
    obtain ⟨g, hge⟩ : ∃ g, w2.heap.size = g := ⟨_, rfl⟩
    rw [hge] at hg hgl
    simp only [hge]
    obtain ⟨W2, hW2⟩ : ∃ W2, w2.alloc (.cells #[.int .i64 0, .int .i64 0, .int .i64 0] 40) = W2 := ⟨_, rfl⟩
    rw [hW2] at hp hg b0 b1 b2 b3 b4 b5 b6 b7 ⊢
    have Hp := Lib.hid (And.intro hp hg)
    clear hp hg hW2 hge
    have Hr := Lib.hid Hp.out.1
    have Hg := Lib.hid Hp.out.2
    clear hb2 Hp
    have hcon := ref_forms ref_Runes T (HT.out.below Hr.out.below) HO.out
    cases hcw1 : formsW T with
    | some x =>
      obtain ⟨xa, xb, xc⟩ := x
      rw [hcw1] at hcon
      have h1 : (xa == 0) = false := by have := formsW_ne _ _ _ hcw1; simpa using this
      have HC1 := Lib.hid hcon
      have HCW1 := Lib.hid hcw1
      clear hcon hcw1
      unfold wrongV at HC1
      refine HC1.out.mono ?_
      rintro e w2 ⟨rfl, hb2⟩
      have hp := (Hr.out.step hb2).putG (Hg.out.below hb2) hgl (.int .i64 xa) (.int .i64 xb) (.int .i64 xc)
      obtain ⟨p1, p2, p3, p4, p5, p6⟩ := wrong_facts hp.2
      obtain ⟨b0, b1, b2, b3, b4, b5, b6, b7⟩ := hp.1.boxF
      obtain ⟨r1, r2, r3, f1, f2, f3⟩ := hp.1.resF
      obtain ⟨q1, q2, q3, q4, q5, q6⟩ := wrong_facts (Hg.out.below hb2)
      have Hp := Lib.hid hp
      clear hp
      go_wp2_with fail
      obtain ⟨hB, hW⟩ := (Hp.out.1).ret (.int .i64 xa) (.int .i64 xb) (.int .i64 xc)
      obtain ⟨s1, s2, s3, -, -, -⟩ := wrong_facts hB
      refine bodyPost_ret (v := .agg #[.int .i64 xa, .int .i64 xb, .int .i64 xc]) ?_ rfl ⟨?_, hW⟩
      · simp [results, Tryz.results11, go_sem, s1, s2, s3]
      · rw [show checkW T = some (xa, xb, xc) by unfold checkW; rw [HCW0.out, HCW1.out]; rfl]
        rfl
    | none =>
      rw [hcw1] at hcon
      have HC1 := Lib.hid hcon
      have HCW1 := Lib.hid hcw1
      clear hcon hcw1
      unfold wrongV at HC1
      refine HC1.out.mono ?_
      rintro e w2 ⟨rfl, hb2⟩
      have hp := (Hr.out.step hb2).putG (Hg.out.below hb2) hgl (.int .i64 0) (.int .i64 0) (.int .i64 0)
      obtain ⟨p1, p2, p3, p4, p5, p6⟩ := wrong_facts hp.2
      obtain ⟨b0, b1, b2, b3, b4, b5, b6, b7⟩ := hp.1.boxF
      obtain ⟨r1, r2, r3, f1, f2, f3⟩ := hp.1.resF
      obtain ⟨q1, q2, q3, q4, q5, q6⟩ := wrong_facts (Hg.out.below hb2)
      have Hp := Lib.hid hp
      clear hp
      go_wp2_with fail
      have Hr := Lib.hid Hp.out.1
      have Hg := Lib.hid Hp.out.2
      clear hb2 Hp q1 q2 q3 q4 q5 q6
      have hcon := ref_twice T (HT.out.below Hr.out.below) HO.out
      cases hcw2 : twiceW T with
      | some x =>
        obtain ⟨xa, xb, xc⟩ := x
        rw [hcw2] at hcon
        have h1 : (xa == 0) = false := by have := twiceW_ne _ _ _ hcw2; simpa using this
        have HC2 := Lib.hid hcon
        have HCW2 := Lib.hid hcw2
        clear hcon hcw2
        unfold wrongV at HC2
        refine HC2.out.mono ?_
        rintro e w2 ⟨rfl, hb2⟩
        have hp := (Hr.out.step hb2).putG (Hg.out.below hb2) hgl (.int .i64 xa) (.int .i64 xb) (.int .i64 xc)
        obtain ⟨p1, p2, p3, p4, p5, p6⟩ := wrong_facts hp.2
        obtain ⟨b0, b1, b2, b3, b4, b5, b6, b7⟩ := hp.1.boxF
        obtain ⟨r1, r2, r3, f1, f2, f3⟩ := hp.1.resF
        obtain ⟨q1, q2, q3, q4, q5, q6⟩ := wrong_facts (Hg.out.below hb2)
        have Hp := Lib.hid hp
        clear hp
        go_wp2_with fail
        obtain ⟨hB, hW⟩ := (Hp.out.1).ret (.int .i64 xa) (.int .i64 xb) (.int .i64 xc)
        obtain ⟨s1, s2, s3, -, -, -⟩ := wrong_facts hB
        refine bodyPost_ret (v := .agg #[.int .i64 xa, .int .i64 xb, .int .i64 xc]) ?_ rfl ⟨?_, hW⟩
        · simp [results, Tryz.results11, go_sem, s1, s2, s3]
        · rw [show checkW T = some (xa, xb, xc) by unfold checkW; rw [HCW0.out, HCW1.out, HCW2.out]; rfl]
          rfl
      | none =>
        rw [hcw2] at hcon
        have HC2 := Lib.hid hcon
        have HCW2 := Lib.hid hcw2
        clear hcon hcw2
        unfold wrongV at HC2
        refine HC2.out.mono ?_
        rintro e w2 ⟨rfl, hb2⟩
        have hp := (Hr.out.step hb2).putG (Hg.out.below hb2) hgl (.int .i64 0) (.int .i64 0) (.int .i64 0)
        obtain ⟨p1, p2, p3, p4, p5, p6⟩ := wrong_facts hp.2
        obtain ⟨b0, b1, b2, b3, b4, b5, b6, b7⟩ := hp.1.boxF
        obtain ⟨r1, r2, r3, f1, f2, f3⟩ := hp.1.resF
        obtain ⟨q1, q2, q3, q4, q5, q6⟩ := wrong_facts (Hg.out.below hb2)
        have Hp := Lib.hid hp
        clear hp
        go_wp2_with fail
        have Hr := Lib.hid Hp.out.1
        have Hg := Lib.hid Hp.out.2
        clear hb2 Hp q1 q2 q3 q4 q5 q6
        have hcon := ref_pairs T (HT.out.below Hr.out.below) HO.out
        cases hcw3 : pairsW T with
        | some x =>
          obtain ⟨xa, xb, xc⟩ := x
          rw [hcw3] at hcon
          have h1 : (xa == 0) = false := by have := pairsW_ne _ _ _ hcw3; simpa using this
          have HC3 := Lib.hid hcon
          have HCW3 := Lib.hid hcw3
          clear hcon hcw3
          unfold wrongV at HC3
          refine HC3.out.mono ?_
          rintro e w2 ⟨rfl, hb2⟩
          have hp := (Hr.out.step hb2).putG (Hg.out.below hb2) hgl (.int .i64 xa) (.int .i64 xb) (.int .i64 xc)
          obtain ⟨p1, p2, p3, p4, p5, p6⟩ := wrong_facts hp.2
          obtain ⟨b0, b1, b2, b3, b4, b5, b6, b7⟩ := hp.1.boxF
          obtain ⟨r1, r2, r3, f1, f2, f3⟩ := hp.1.resF
          obtain ⟨q1, q2, q3, q4, q5, q6⟩ := wrong_facts (Hg.out.below hb2)
          have Hp := Lib.hid hp
          clear hp
          go_wp2_with fail
          obtain ⟨hB, hW⟩ := (Hp.out.1).ret (.int .i64 xa) (.int .i64 xb) (.int .i64 xc)
          obtain ⟨s1, s2, s3, -, -, -⟩ := wrong_facts hB
          refine bodyPost_ret (v := .agg #[.int .i64 xa, .int .i64 xb, .int .i64 xc]) ?_ rfl ⟨?_, hW⟩
          · simp [results, Tryz.results11, go_sem, s1, s2, s3]
          · rw [show checkW T = some (xa, xb, xc) by unfold checkW; rw [HCW0.out, HCW1.out, HCW2.out, HCW3.out]; rfl]
            rfl
        | none =>
          rw [hcw3] at hcon
          have HC3 := Lib.hid hcon
          have HCW3 := Lib.hid hcw3
          clear hcon hcw3
          unfold wrongV at HC3
          refine HC3.out.mono ?_
          rintro e w2 ⟨rfl, hb2⟩
          have hp := (Hr.out.step hb2).putG (Hg.out.below hb2) hgl (.int .i64 0) (.int .i64 0) (.int .i64 0)
          obtain ⟨p1, p2, p3, p4, p5, p6⟩ := wrong_facts hp.2
          obtain ⟨b0, b1, b2, b3, b4, b5, b6, b7⟩ := hp.1.boxF
          obtain ⟨r1, r2, r3, f1, f2, f3⟩ := hp.1.resF
          obtain ⟨q1, q2, q3, q4, q5, q6⟩ := wrong_facts (Hg.out.below hb2)
          have Hp := Lib.hid hp
          clear hp
          go_wp2_with fail
          have Hr := Lib.hid Hp.out.1
          have Hg := Lib.hid Hp.out.2
          clear hb2 Hp q1 q2 q3 q4 q5 q6
          have hcon := ref_drops T (HT.out.below Hr.out.below) HO.out
          cases hcw4 : dropsW T with
          | some x =>
            obtain ⟨xa, xb, xc⟩ := x
            rw [hcw4] at hcon
            have h1 : (xa == 0) = false := by have := dropsW_ne _ _ _ hcw4; simpa using this
            have HC4 := Lib.hid hcon
            have HCW4 := Lib.hid hcw4
            clear hcon hcw4
            unfold wrongV at HC4
            refine HC4.out.mono ?_
            rintro e w2 ⟨rfl, hb2⟩
            have hp := (Hr.out.step hb2).putG (Hg.out.below hb2) hgl (.int .i64 xa) (.int .i64 xb) (.int .i64 xc)
            obtain ⟨p1, p2, p3, p4, p5, p6⟩ := wrong_facts hp.2
            obtain ⟨b0, b1, b2, b3, b4, b5, b6, b7⟩ := hp.1.boxF
            obtain ⟨r1, r2, r3, f1, f2, f3⟩ := hp.1.resF
            obtain ⟨q1, q2, q3, q4, q5, q6⟩ := wrong_facts (Hg.out.below hb2)
            have Hp := Lib.hid hp
            clear hp
            go_wp2_with fail
            obtain ⟨hB, hW⟩ := (Hp.out.1).ret (.int .i64 xa) (.int .i64 xb) (.int .i64 xc)
            obtain ⟨s1, s2, s3, -, -, -⟩ := wrong_facts hB
            refine bodyPost_ret (v := .agg #[.int .i64 xa, .int .i64 xb, .int .i64 xc]) ?_ rfl ⟨?_, hW⟩
            · simp [results, Tryz.results11, go_sem, s1, s2, s3]
            · rw [show checkW T = some (xa, xb, xc) by unfold checkW; rw [HCW0.out, HCW1.out, HCW2.out, HCW3.out, HCW4.out]; rfl]
              rfl
          | none =>
            rw [hcw4] at hcon
            have HC4 := Lib.hid hcon
            have HCW4 := Lib.hid hcw4
            clear hcon hcw4
            unfold wrongV at HC4
            refine HC4.out.mono ?_
            rintro e w2 ⟨rfl, hb2⟩
            have hp := (Hr.out.step hb2).putG (Hg.out.below hb2) hgl (.int .i64 0) (.int .i64 0) (.int .i64 0)
            obtain ⟨p1, p2, p3, p4, p5, p6⟩ := wrong_facts hp.2
            obtain ⟨b0, b1, b2, b3, b4, b5, b6, b7⟩ := hp.1.boxF
            obtain ⟨r1, r2, r3, f1, f2, f3⟩ := hp.1.resF
            obtain ⟨q1, q2, q3, q4, q5, q6⟩ := wrong_facts (Hg.out.below hb2)
            have Hp := Lib.hid hp
            clear hp
            go_wp2_with fail
            have Hr := Lib.hid Hp.out.1
            have Hg := Lib.hid Hp.out.2
            clear hb2 Hp q1 q2 q3 q4 q5 q6
            have hcon := ref_tos ref_Runes T (HT.out.below Hr.out.below) HO.out
            cases hcw5 : tosW T with
            | some x =>
              obtain ⟨xa, xb, xc⟩ := x
              rw [hcw5] at hcon
              have h1 : (xa == 0) = false := by have := tosW_ne _ _ _ hcw5; simpa using this
              have HC5 := Lib.hid hcon
              have HCW5 := Lib.hid hcw5
              clear hcon hcw5
              unfold wrongV at HC5
              refine HC5.out.mono ?_
              rintro e w2 ⟨rfl, hb2⟩
              have hp := (Hr.out.step hb2).putG (Hg.out.below hb2) hgl (.int .i64 xa) (.int .i64 xb) (.int .i64 xc)
              obtain ⟨p1, p2, p3, p4, p5, p6⟩ := wrong_facts hp.2
              obtain ⟨b0, b1, b2, b3, b4, b5, b6, b7⟩ := hp.1.boxF
              obtain ⟨r1, r2, r3, f1, f2, f3⟩ := hp.1.resF
              obtain ⟨q1, q2, q3, q4, q5, q6⟩ := wrong_facts (Hg.out.below hb2)
              have Hp := Lib.hid hp
              clear hp
              go_wp2_with fail
              obtain ⟨hB, hW⟩ := (Hp.out.1).ret (.int .i64 xa) (.int .i64 xb) (.int .i64 xc)
              obtain ⟨s1, s2, s3, -, -, -⟩ := wrong_facts hB
              refine bodyPost_ret (v := .agg #[.int .i64 xa, .int .i64 xb, .int .i64 xc]) ?_ rfl ⟨?_, hW⟩
              · simp [results, Tryz.results11, go_sem, s1, s2, s3]
              · rw [show checkW T = some (xa, xb, xc) by unfold checkW; rw [HCW0.out, HCW1.out, HCW2.out, HCW3.out, HCW4.out, HCW5.out]; rfl]
                rfl
            | none =>
              rw [hcw5] at hcon
              have HC5 := Lib.hid hcon
              have HCW5 := Lib.hid hcw5
              clear hcon hcw5
              unfold wrongV at HC5
              refine HC5.out.mono ?_
              rintro e w2 ⟨rfl, hb2⟩
              have hp := (Hr.out.step hb2).putG (Hg.out.below hb2) hgl (.int .i64 0) (.int .i64 0) (.int .i64 0)
              obtain ⟨p1, p2, p3, p4, p5, p6⟩ := wrong_facts hp.2
              obtain ⟨b0, b1, b2, b3, b4, b5, b6, b7⟩ := hp.1.boxF
              obtain ⟨r1, r2, r3, f1, f2, f3⟩ := hp.1.resF
              obtain ⟨q1, q2, q3, q4, q5, q6⟩ := wrong_facts (Hg.out.below hb2)
              have Hp := Lib.hid hp
              clear hp
              go_wp2_with fail
              have Hr := Lib.hid Hp.out.1
              have Hg := Lib.hid Hp.out.2
              clear hb2 Hp q1 q2 q3 q4 q5 q6
              have hcon := ref_house ref_Runes T (HT.out.below Hr.out.below) HO.out
              cases hcw6 : houseW T with
              | some x =>
                obtain ⟨xa, xb, xc⟩ := x
                rw [hcw6] at hcon
                have h1 : (xa == 0) = false := by have := houseW_ne _ _ _ hcw6; simpa using this
                have HC6 := Lib.hid hcon
                have HCW6 := Lib.hid hcw6
                clear hcon hcw6
                unfold wrongV at HC6
                refine HC6.out.mono ?_
                rintro e w2 ⟨rfl, hb2⟩
                have hp := (Hr.out.step hb2).putG (Hg.out.below hb2) hgl (.int .i64 xa) (.int .i64 xb) (.int .i64 xc)
                obtain ⟨p1, p2, p3, p4, p5, p6⟩ := wrong_facts hp.2
                obtain ⟨b0, b1, b2, b3, b4, b5, b6, b7⟩ := hp.1.boxF
                obtain ⟨r1, r2, r3, f1, f2, f3⟩ := hp.1.resF
                obtain ⟨q1, q2, q3, q4, q5, q6⟩ := wrong_facts (Hg.out.below hb2)
                have Hp := Lib.hid hp
                clear hp
                go_wp2_with fail
                obtain ⟨hB, hW⟩ := (Hp.out.1).ret (.int .i64 xa) (.int .i64 xb) (.int .i64 xc)
                obtain ⟨s1, s2, s3, -, -, -⟩ := wrong_facts hB
                refine bodyPost_ret (v := .agg #[.int .i64 xa, .int .i64 xb, .int .i64 xc]) ?_ rfl ⟨?_, hW⟩
                · simp [results, Tryz.results11, go_sem, s1, s2, s3]
                · rw [show checkW T = some (xa, xb, xc) by unfold checkW; rw [HCW0.out, HCW1.out, HCW2.out, HCW3.out, HCW4.out, HCW5.out, HCW6.out]; rfl]
                  rfl
              | none =>
                rw [hcw6] at hcon
                have HC6 := Lib.hid hcon
                have HCW6 := Lib.hid hcw6
                clear hcon hcw6
                unfold wrongV at HC6
                refine HC6.out.mono ?_
                rintro e w2 ⟨rfl, hb2⟩
                have hp := (Hr.out.step hb2).putG (Hg.out.below hb2) hgl (.int .i64 0) (.int .i64 0) (.int .i64 0)
                obtain ⟨p1, p2, p3, p4, p5, p6⟩ := wrong_facts hp.2
                obtain ⟨b0, b1, b2, b3, b4, b5, b6, b7⟩ := hp.1.boxF
                obtain ⟨r1, r2, r3, f1, f2, f3⟩ := hp.1.resF
                obtain ⟨q1, q2, q3, q4, q5, q6⟩ := wrong_facts (Hg.out.below hb2)
                have Hp := Lib.hid hp
                clear hp
                go_wp2_with fail
                obtain ⟨hB, hW⟩ := (Hp.out.1).ret (.int .i64 0) (.int .i64 0) (.int .i64 0)
                obtain ⟨s1, s2, s3, -, -, -⟩ := wrong_facts hB
                refine bodyPost_ret (v := .agg #[.int .i64 0, .int .i64 0, .int .i64 0]) ?_ rfl ⟨?_, hW⟩
                · simp [results, Tryz.results11, go_sem, s1, s2, s3]
                · rw [show checkW T = none by unfold checkW; rw [HCW0.out, HCW1.out, HCW2.out, HCW3.out, HCW4.out, HCW5.out, HCW6.out]; rfl]
                  rfl

end
section
open Go.RowKit
set_option linter.unusedVariables false
theorem validD_runes : ∀ (n : Nat) (l : List UInt8), l.length = n → Lib.validD l = (runesAt l.length 0 l).isSome := by
  intro n
  induction n using Nat.strongRecOn with
  | ind n ih =>
    intro l hl
    by_cases hne : l = []
    · subst hne; rfl
    · obtain ⟨k, hk⟩ : ∃ k, l.length = k + 1 := ⟨l.length - 1, by have := List.length_pos_iff.2 hne; omega⟩
      have hw := Lib.decodeL_width l
      rw [Lib.validD_step l hne, hk]
      simp only [runesAt]
      rw [if_neg hne, runesAt_fuel k _ _ (by rw [List.length_drop]; omega)]
      have hb : runesAt.isBadD (Lib.decodeL l) = decide ((Lib.decodeL l).1 = 65533 ∧ (Lib.decodeL l).2 = 1) := by
        unfold runesAt.isBadD
        rw [Bool.eq_iff_iff]
        simp
      rw [hb]
      by_cases h : (Lib.decodeL l).1 = 65533 ∧ (Lib.decodeL l).2 = 1
      · rw [if_pos h, if_pos (by simpa using h)]; rfl
      · rw [if_neg h, if_neg (by simpa using h), ih _ (by rw [List.length_drop]; omega) _ rfl]
        cases runesAt (l.drop (Lib.decodeL l).2).length 0 (l.drop (Lib.decodeL l).2) <;> rfl
theorem valid_runes (s : ByteArray) : Lib.validD s.data.toList = (runesOf s).isSome := by
  rw [validD_runes _ _ rfl, ← runesFrom_zero]
  unfold runesFrom
  rw [List.drop_zero]
theorem count_runes (s : ByteArray) : ∀ (fuel pos : Nat) (rs : List Int), s.size ≤ pos + fuel → runesFrom s pos = some rs → Lib.runeCountFrom s fuel pos = rs.length
  | 0, pos, rs, h, hr => by
    rw [runesFrom_end (by omega)] at hr
    cases hr; rfl
  | fuel + 1, pos, rs, h, hr => by
    unfold Lib.runeCountFrom
    by_cases hp : pos < s.size
    · rw [if_pos hp]
      rw [runesFrom_step hp] at hr
      split at hr
      · cases hr
      · cases hq : runesFrom s (pos + (Utf8.decode s pos).2) with
        | none => rw [hq] at hr; cases hr
        | some rs2 =>
          rw [hq] at hr
          cases hr
          have hw := Lib.decode_width_pos s pos hp
          rw [count_runes s fuel _ rs2 (by omega) hq]
          simp; omega
    · rw [if_neg hp]
      rw [runesFrom_end (by omega)] at hr
      cases hr; rfl
theorem count_of {s : ByteArray} {rs : List Int} (h : runesOf s = some rs) : Lib.runeCount s = rs.length := count_runes s _ 0 rs (by omega) (by rw [runesFrom_zero]; exact h)
theorem count_le (s : ByteArray) : Lib.runeCount s ≤ s.size := Lib.runeCount_le s

/-- a scan's list is but a name -/
theorem scan_list {α : Type} {f : Nat → α → Int} (a b : Int) : ∀ {l : List α} {s : Nat}, scan f a s l = (scan f b s l).map fun x => (x.1, a, x.2.2)
  | [], _ => rfl
  | x :: r, s => by
    unfold scan
    split
    · rfl
    · exact scan_list a b
theorem spansW_list (l : List SpanT) (a : Int) : spansW l a = (spansW l 0).map fun x => (x.1, a, x.2.2) := scan_list a 0
theorem rightP_none {l : List SpanT} (h : spansW l 0 = none) : rightP l = (0, 0) := by unfold rightP; rw [h]
theorem rightP_some {l : List SpanT} {a b c : Int} (h : spansW l 0 = some (a, b, c)) : rightP l = (c, a) := by unfold rightP; rw [h]

/-- the result's cell, all else as it was -/
structure CS (w : World) (wr : World) : Prop where
  below : Below w.heap.size w wr
  res : Blk wr w.heap.size 40 #[.int .i64 0, .int .i64 0, .int .i64 0]
section
variable {w wr w2 : World}
theorem CS.start (w : World) : CS w (w.alloc (.cells #[.int .i64 0, .int .i64 0, .int .i64 0] 40)) := ⟨(Below.refl _ w).alloc (Nat.le_refl _) _, Blk.new w _ _⟩
theorem CS.step (h : CS w wr) (hb : Below wr.heap.size wr w2) : CS w w2 := ⟨below_trans h.below hb, h.res.below hb⟩
theorem CS.resF (h : CS w wr) : wr.cell? ⟨w.heap.size, 0, none⟩ = some (.int .i64 0) ∧ wr.cell? ⟨w.heap.size, 1, none⟩ = some (.int .i64 0) ∧ wr.cell? ⟨w.heap.size, 2, none⟩ = some (.int .i64 0) ∧ wr.frozen? ⟨w.heap.size, 0, none⟩ = false ∧ wr.frozen? ⟨w.heap.size, 1, none⟩ = false ∧ wr.frozen? ⟨w.heap.size, 2, none⟩ = false := wrong_facts h.res
theorem CS.ret (h : CS w wr) (a b c : Value) : Blk (((wr.setCell ⟨w.heap.size, 0, none⟩ a).setCell ⟨w.heap.size, 1, none⟩ b).setCell ⟨w.heap.size, 2, none⟩ c) w.heap.size 40 #[a, b, c] ∧
    Below w.heap.size w (((wr.setCell ⟨w.heap.size, 0, none⟩ a).setCell ⟨w.heap.size, 1, none⟩ b).setCell ⟨w.heap.size, 2, none⟩ c) :=
  ⟨h.res.set3 a b c, ((h.below.setCell (Nat.le_refl _) _).setCell (Nat.le_refl _) _).setCell (Nat.le_refl _) _⟩
end
theorem chk_facts {W : World} {c : Nat} {t : TypeId} {v0 v1 v2 v3 v4 v5 v6 v7 v8 : Value} (h : Blk W c t #[v0, v1, v2, v3, v4, v5, v6, v7, v8]) :
    W.cell? ⟨c, 0, none⟩ = some v0 ∧ W.cell? ⟨c, 1, none⟩ = some v1 ∧ W.cell? ⟨c, 2, none⟩ = some v2 ∧ W.cell? ⟨c, 3, none⟩ = some v3 ∧ W.cell? ⟨c, 4, none⟩ = some v4 ∧ W.cell? ⟨c, 5, none⟩ = some v5 ∧ W.cell? ⟨c, 6, none⟩ = some v6 ∧ W.cell? ⟨c, 7, none⟩ = some v7 ∧ W.cell? ⟨c, 8, none⟩ = some v8 :=
  ⟨h.cell 0, h.cell 1, h.cell 2, h.cell 3, h.cell 4, h.cell 5, h.cell 6, h.cell 7, h.cell 8⟩

end
section
open Go.RowKit
open Go.Maps (Keyed)
set_option linter.unusedVariables false
/-- an element's value, as it is -/
def asIs (v : Value) : Option (DataW Value × List MemPlace) := some (.held v, [])
/-- block b of w is a map of at most n entries that holds g, keys as kv, elements as ev -/
def MapV {K V : Type} (P : Program) (k : TypeId) (kv : K → Value) (ev : V → Value) (w : World) (b n : Nat) (g : K → Option V) : Prop :=
  ∃ D, w.ownsMap P k asIs b n D ∧ ∀ x kl, keyOf P k (kv x) = some kl → Maps.has D kl = (g x).isSome ∧ ∀ v, g x = some v → ∀ z, D.atKey kl z = .held (ev v)
section
variable {K V : Type} {P : Program} {k t e : TypeId} {kv : K → Value} {ev : V → Value} {w w' : World} {b n : Nat} {g : K → Option V}
theorem MapV.made (P : Program) (k : TypeId) (kv : K → Value) (ev : V → Value) (w : World) : MapV P k kv ev (w.alloc (.map #[] 0)) w.heap.size 0 (fun _ => none) :=
  ⟨.map [], World.ownsMap_made _ _ _ _, fun x kl _ => ⟨rfl, fun v h => by cases h⟩⟩
theorem MapV.lt (h : MapV P k kv ev w b n g) : b < w.heap.size := by obtain ⟨D, h1, _⟩ := h; exact h1.lt
theorem MapV.kept {row : Option Nat} (h : MapV P k kv ev w b n g) (hg : w.grownBy w' row) (hne : some b ≠ row) : MapV P k kv ev w' b n g := by obtain ⟨D, h1, h2⟩ := h; exact ⟨D, h1.kept hg hne, h2⟩
theorem MapV.of_block (h : MapV P k kv ev w b n g) (hb : w'.heap[b]? = w.heap[b]?) : MapV P k kv ev w' b n g := by
  obtain ⟨D, ⟨es, clock, h0, h1⟩, h2⟩ := h
  exact ⟨D, ⟨es, clock, hb.trans h0, h1⟩, h2⟩
theorem MapV.below {m : Nat} (h : MapV P k kv ev w b n g) (hb : Below m w w') (hm : b < m) : MapV P k kv ev w' b n g := h.of_block (hb.block b hm)
theorem MapV.look (h : MapV P k kv ev w b n g) (KK : Keyed P k) (ht : P.underlying t = some (.map k e)) {z : Value} (hz : (zeroValue e).run P w = .ok z w) {x : K} {kl : Lit} (hkey : keyOf P k (kv x) = some kl) :
    (Instr.lookup t (.map (some b)) (kv x) false).run P w = .ok (match g x with | some v => ev v | none => z) w := by
  obtain ⟨D, h1, h2⟩ := h
  obtain ⟨v, ps, hrun, hv⟩ := h1.lookup KK ht hz (zd := .held z) (zp := []) rfl hkey
  rw [hrun]
  simp only [asIs, Option.some.injEq, Prod.mk.injEq] at hv
  obtain ⟨hh, hval⟩ := h2 x kl hkey
  cases hg : g x with
  | some u =>
    rw [hval u hg] at hv
    cases hv.1
    rfl
  | none =>
    rw [hg] at hh
    rw [Maps.atKey_of_not_has hh] at hv
    cases hv.1
    rfl
theorem MapV.lookOk (h : MapV P k kv ev w b n g) (KK : Keyed P k) (ht : P.underlying t = some (.map k e)) {z : Value} (hz : (zeroValue e).run P w = .ok z w) {x : K} {kl : Lit} (hkey : keyOf P k (kv x) = some kl) :
    (Instr.lookup t (.map (some b)) (kv x) true).run P w = .ok (.tuple #[match g x with | some v => ev v | none => z, .bool (g x).isSome]) w := by
  obtain ⟨D, h1, h2⟩ := h
  obtain ⟨v, ps, hrun, hv⟩ := h1.look_ok KK ht hz (zd := .held z) (zp := []) rfl hkey
  rw [hrun]
  simp only [asIs, Option.some.injEq, Prod.mk.injEq] at hv
  obtain ⟨hh, hval⟩ := h2 x kl hkey
  rw [hh]
  cases hg : g x with
  | some u =>
    rw [hval u hg] at hv
    cases hv.1
    rfl
  | none =>
    rw [hg] at hh
    rw [Maps.atKey_of_not_has hh] at hv
    cases hv.1
    rfl
theorem MapV.store [DecidableEq K] (h : MapV P k kv ev w b n g) (KK : Keyed P k) (ht : P.underlying t = some (.map k e)) (hn : n < maxLen) (hinj : ∀ x y, kv x = kv y → x = y) {x : K} {kl : Lit} (hkey : keyOf P k (kv x) = some kl) (u : V) :
    ∃ w', (Instr.mapUpdate t (.map (some b)) (kv x) (ev u)).run P w = .ok () w' ∧ MapV P k kv ev w' b (n + 1) (fun y => if y = x then some u else g y) ∧ w.grownBy w' (some b) := by
  obtain ⟨D, h1, h2⟩ := h
  obtain ⟨w', hrun, hown, hgr⟩ := h1.update KK ht hn hkey (val := ev u) (d := .held (ev u)) (ps := []) rfl
  refine ⟨w', hrun, ⟨_, hown, fun y kl2 hk2 => ?_⟩, hgr⟩
  by_cases hy : y = x
  · subst hy
    rw [hkey] at hk2
    cases hk2
    dsimp only
    rw [if_pos rfl]
    refine ⟨Maps.has_put_same h1.isMap (KK.key hkey) _, fun v hv z => ?_⟩
    cases hv
    exact Maps.atKey_put_same h1.isMap (KK.key hkey) _ _
  · have hne : kl2 ≠ kl := fun e => hy (hinj _ _ (KK.inj (e ▸ hk2) hkey))
    dsimp only
    rw [if_neg hy, Maps.has_put_other hne]
    obtain ⟨a1, a2⟩ := h2 y kl2 hk2
    exact ⟨a1, fun v hv z => (Maps.atKey_put_other hne _ _).trans (a2 v hv z)⟩
end
end
section
open Go.RowKit
open Go.Maps (Keyed)
set_option linter.unusedVariables false
theorem key32 : Keyed Tryz.prog 21 := Maps.int_keyed Tryz.underlying21
theorem key32_mk {r : Int} (h : i32 r) : keyOf Tryz.prog 21 (.int .i32 r) = some (.int .i32 r) := Maps.keyOf_int_mk Tryz.underlying21 (WalkArith.wf_i32 h)
theorem keyStr : Keyed Tryz.prog 9 := Maps.string_keyed Tryz.underlying9
def pairK (p : Int × Int) : Value := .agg #[.int .i32 p.1, .int .i32 p.2]
theorem pairK_inj (x y : Int × Int) (h : pairK x = pairK y) : x = y := by
  unfold pairK at h
  simp only [Value.agg.injEq, Array.mk.injEq, List.cons.injEq, Value.int.injEq, true_and, and_true] at h
  exact Prod.ext h.1 h.2
theorem int32_inj (x y : Int) (h : Value.int .i32 x = Value.int .i32 y) : x = y := by simpa using h
theorem keyP : Keyed Tryz.prog 112 := Keyed.of_law (deep_law_laid (by kernel_rfl) (m := 5) (by decide) (of_decide_eq_true (by kernel_rfl)) (by kernel_rfl) (by kernel_rfl))
theorem keyP_mk {p : Int × Int} (h1 : i32 p.1) (h2 : i32 p.2) : ∃ kl, keyOf Tryz.prog 112 (pairK p) = some kl := by
  have e1 : Tryz.prog.cellsOf 112 = 2 := by kernel_rfl
  have e2 : Tryz.prog.cellsOf 21 = 1 := by kernel_rfl
  have e3 : Tryz.prog.keyType 112 = true := by kernel_rfl
  have w1 : (Lit.int .i32 p.1).wf = true := WalkArith.wf_i32 h1
  have w2 : (Lit.int .i32 p.2).wf = true := WalkArith.wf_i32 h2
  have hs : 1 ≤ Tryz.prog.types.size := of_decide_eq_true (by kernel_rfl)
  obtain ⟨d, hd⟩ : ∃ d, Tryz.prog.types.size + 1 = d + 2 := ⟨Tryz.prog.types.size - 1, by omega⟩
  refine ⟨.string (keyBytes [.int .i32 p.1, .int .i32 p.2]), ?_⟩
  unfold keyOf
  rw [Tryz.underlying112]
  dsimp only
  rw [if_pos]
  · rw [hd]
    simp [Program.keyLits, Tryz.underlying112, Tryz.underlying21, e1, e2, pairK, Value.cells, w1, w2, List.range_succ]
  · simp [e3, Value.formed, pairK, Tryz.underlying112, e1]

/-- what a Book's maps hold -/
structure MC where
  cls : Int → Option Int
  pr : Int → Option (Int × Int)
  jn : Int × Int → Option Int
  fl : Int → Option ByteArray
  lk : Int → Option ByteArray
/-- a Book: its table's eight slices, its five maps -/
structure MS (w : World) (b m1 m2 m3 m4 m5 : Nat) (t0 t1 t2 t3 t4 t5 t6 t7 : Value) (M : MC) : Prop where
  book : Blk w b 66 #[t0, t1, t2, t3, t4, t5, t6, t7, .map (some m1), .map (some m2), .map (some m3), .map (some m4), .map (some m5)]
  cls : ∃ n, MapV Tryz.prog 21 (Value.int .i32) (Value.int .i64) w m1 n M.cls
  pr : ∃ n, MapV Tryz.prog 21 (Value.int .i32) pairK w m2 n M.pr
  jn : ∃ n, MapV Tryz.prog 112 pairK (Value.int .i32) w m3 n M.jn
  fl : ∃ n, MapV Tryz.prog 21 (Value.int .i32) Value.string w m4 n M.fl
  lk : ∃ n, MapV Tryz.prog 21 (Value.int .i32) Value.string w m5 n M.lk
section
variable {w W : World} {b m1 m2 m3 m4 m5 : Nat} {t0 t1 t2 t3 t4 t5 t6 t7 : Value} {M : MC}
theorem MapV.belowE {K V : Type} {P : Program} {k : TypeId} {kv : K → Value} {ev : V → Value} {m : Nat} {g : K → Option V} (h : ∃ n, MapV P k kv ev w m n g) (hb : Below w.heap.size w W) : ∃ n, MapV P k kv ev W m n g := by
  obtain ⟨n, hn⟩ := h
  exact ⟨n, hn.below hb hn.lt⟩
theorem MS.below (h : MS w b m1 m2 m3 m4 m5 t0 t1 t2 t3 t4 t5 t6 t7 M) (hb : Below w.heap.size w W) : MS W b m1 m2 m3 m4 m5 t0 t1 t2 t3 t4 t5 t6 t7 M :=
  ⟨h.book.below hb, MapV.belowE h.cls hb, MapV.belowE h.pr hb, MapV.belowE h.jn hb, MapV.belowE h.fl hb, MapV.belowE h.lk hb⟩
theorem MS.look_cls (h : MS W b m1 m2 m3 m4 m5 t0 t1 t2 t3 t4 t5 t6 t7 M) {r : Int} (hr : i32 r) : (Instr.lookup 61 (.map (some m1)) (.int .i32 r) false).run Tryz.prog W = .ok (.int .i64 ((M.cls r).getD 0)) W := by
  obtain ⟨n, hn⟩ := h.cls
  rw [hn.look key32 Tryz.underlying61 (z := .int .i64 0) (by kernel_rfl) (key32_mk hr)]
  cases M.cls r <;> rfl
theorem MS.look_pr (h : MS W b m1 m2 m3 m4 m5 t0 t1 t2 t3 t4 t5 t6 t7 M) {r : Int} (hr : i32 r) : (Instr.lookup 62 (.map (some m2)) (.int .i32 r) true).run Tryz.prog W = .ok (.tuple #[.agg #[.int .i32 ((M.pr r).getD (0, 0)).1, .int .i32 ((M.pr r).getD (0, 0)).2], .bool (M.pr r).isSome]) W := by
  obtain ⟨n, hn⟩ := h.pr
  rw [hn.lookOk key32 Tryz.underlying62 (z := .agg #[.int .i32 0, .int .i32 0]) (by kernel_rfl) (key32_mk hr)]
  cases M.pr r <;> rfl
theorem MS.look_fl (h : MS W b m1 m2 m3 m4 m5 t0 t1 t2 t3 t4 t5 t6 t7 M) {r : Int} (hr : i32 r) : (Instr.lookup 64 (.map (some m4)) (.int .i32 r) true).run Tryz.prog W = .ok (.tuple #[.string ((M.fl r).getD ⟨#[]⟩), .bool (M.fl r).isSome]) W := by
  obtain ⟨n, hn⟩ := h.fl
  rw [hn.lookOk key32 Tryz.underlying64 (z := .string ⟨#[]⟩) (by kernel_rfl) (key32_mk hr)]
  cases M.fl r <;> rfl
theorem MS.look_lk (h : MS W b m1 m2 m3 m4 m5 t0 t1 t2 t3 t4 t5 t6 t7 M) {r : Int} (hr : i32 r) : (Instr.lookup 64 (.map (some m5)) (.int .i32 r) true).run Tryz.prog W = .ok (.tuple #[.string ((M.lk r).getD ⟨#[]⟩), .bool (M.lk r).isSome]) W := by
  obtain ⟨n, hn⟩ := h.lk
  rw [hn.lookOk key32 Tryz.underlying64 (z := .string ⟨#[]⟩) (by kernel_rfl) (key32_mk hr)]
  cases M.lk r <;> rfl
theorem MS.look_jn (h : MS W b m1 m2 m3 m4 m5 t0 t1 t2 t3 t4 t5 t6 t7 M) {p : Int × Int} (h1 : i32 p.1) (h2 : i32 p.2) : (Instr.lookup 63 (.map (some m3)) (.agg #[.int .i32 p.1, .int .i32 p.2]) true).run Tryz.prog W = .ok (.tuple #[.int .i32 ((M.jn p).getD 0), .bool (M.jn p).isSome]) W := by
  obtain ⟨n, hn⟩ := h.jn
  obtain ⟨kl, hkl⟩ := keyP_mk h1 h2
  have := hn.lookOk keyP Tryz.underlying63 (z := .int .i32 0) (by kernel_rfl) hkl
  unfold pairK at this
  rw [this]
  cases M.jn p <;> rfl
theorem MS.cells (h : MS W b m1 m2 m3 m4 m5 t0 t1 t2 t3 t4 t5 t6 t7 M) : W.cell? ⟨b, 8, none⟩ = some (.map (some m1)) ∧ W.cell? ⟨b, 9, none⟩ = some (.map (some m2)) ∧ W.cell? ⟨b, 10, none⟩ = some (.map (some m3)) ∧ W.cell? ⟨b, 11, none⟩ = some (.map (some m4)) ∧ W.cell? ⟨b, 12, none⟩ = some (.map (some m5)) :=
  ⟨h.book.cell 8, h.book.cell 9, h.book.cell 10, h.book.cell 11, h.book.cell 12⟩
end
/-- what the maps of a right table hold -/
def mapsOf (T : Tab) : MC where
  cls r := (T.marks.find? fun m => decide (m.r = r)).map (·.c)
  pr r := (T.pairs.find? fun p => decide (p.whole = r)).map fun p => (p.base, p.mark)
  jn x := (T.pairs.find? fun p => decide ((p.base, p.mark) = x)).map (·.whole)
  fl r := (T.folds.find? fun m => decide (m.frm = r)).map (·.to)
  lk r := (T.looks.find? fun m => decide (m.frm = r)).map (·.to)
theorem cls_mark {T : Tab} (h : scan markAt 3 0 T.marks = none) (r : Int) : markL T.marks r = (((mapsOf T).cls r).getD 0 != 0) := by
  unfold mapsOf markL
  dsimp only
  cases hf : T.marks.find? fun m => decide (m.r = r) with
  | none =>
    rw [List.find?_eq_none] at hf
    rw [List.any_eq_false.2 hf]; rfl
  | some m =>
    have hm := List.mem_of_find?_eq_some hf
    have hp := List.find?_some hf
    rw [List.any_eq_true.2 ⟨m, hm, hp⟩]
    obtain ⟨j, hj, rfl⟩ := List.mem_iff_getElem.1 hm
    have := scan_zero h j _ (List.getElem?_eq_getElem hj)
    unfold markAt at this
    have hc : (T.marks[j]).c ≠ 0 := by
      intro e
      rw [e] at this
      split at this
      · cases this
      · split at this
        · cases this
        · omega
    simp [hc]
theorem firstI_any {α : Type} (l : List α) (p : α → Bool) : decide (0 ≤ firstI l p) = l.any p := by
  unfold firstI
  cases h : l.findIdx? p with
  | none =>
    rw [List.findIdx?_eq_none_iff] at h
    rw [List.any_eq_false.2 (fun x hx => by simpa using h x hx)]; rfl
  | some i =>
    rw [List.findIdx?_eq_some_iff_getElem] at h
    obtain ⟨hi, hp, _⟩ := h
    rw [List.any_eq_true.2 ⟨_, List.getElem_mem hi, hp⟩]
    simp
theorem find_any {α β : Type} (l : List α) (p : α → Bool) (f : α → β) : ((l.find? p).map f).isSome = l.any p := by
  cases h : l.find? p with
  | none =>
    rw [List.find?_eq_none] at h
    rw [List.any_eq_false.2 h]; rfl
  | some x => rw [List.any_eq_true.2 ⟨x, List.mem_of_find?_eq_some h, List.find?_some h⟩]; rfl
theorem pr_whole {T : Tab} (r : Int) : ((mapsOf T).pr r).isSome = decide (0 ≤ wholeI T.pairs r) := by
  rw [show wholeI T.pairs r = firstI T.pairs _ from rfl, firstI_any]
  exact find_any _ _ _
theorem fl_from {T : Tab} (r : Int) : ((mapsOf T).fl r).isSome = decide (0 ≤ fromI T.folds r) := by
  rw [show fromI T.folds r = firstI T.folds _ from rfl, firstI_any]
  exact find_any _ _ _
theorem lk_from {T : Tab} (r : Int) : ((mapsOf T).lk r).isSome = decide (0 ≤ fromI T.looks r) := by
  rw [show fromI T.looks r = firstI T.looks _ from rfl, firstI_any]
  exact find_any _ _ _

end
end Go.Proofs.YtjmkdimbbacnfaaGreatDoor
