/- guiseref6: tos. (Printed by gen_tos.py.) -/
import Derived.Test.YtjmkdimbbacnfaaGreatDoorGRefL
namespace Go.Proofs.YtjmkdimbbacnfaaGreatDoor
open Go.RowKit
set_option linter.unusedVariables false
def tosM (T : Tab) (_ : Nat) (m : MapT) : Int := if markL T.marks m.frm = true ∨ 0 ≤ wholeI T.pairs m.frm then 31 else 0
def runesD (s : ByteArray) : List Int := (runesOf s).getD []
def tosF (T : Tab) (_ : Nat) (m : MapT) : Int := if (runesD m.to).any (fun r => !plainL T r) = true then 35 else 0
def tosL (T : Tab) (_ : Nat) (m : MapT) : Int := if (runesD m.to).any (fun r => !plainL T r || decide (0 ≤ fromI T.looks r)) = true then 36 else 0
def tosW (T : Tab) : Option (Int × Int × Int) := orW (scan (tosM T) 5 0 T.folds) (orW (scan (tosM T) 6 0 T.looks) (orW (scan (tosF T) 5 0 T.folds) (scan (tosL T) 6 0 T.looks)))
/-- what Runes answers, in one form -/
theorem runes_one {w : World} {s : ByteArray} {e : Ending} (h : RunesRes w s e) : ∃ (A : Option Addr) (c : Nat) (b : Bool), e = .returned (.tuple #[.slice A (runesD s).length c, .bool b]) ∧ RunesAtZ w A (runesD s) ∧ (runesD s).length ≤ s.size := by
  unfold RunesRes at h
  unfold runesD
  cases hr : runesOf s with
  | none =>
    rw [hr] at h
    exact ⟨none, 0, false, h, fun h => absurd h (by simp), Nat.zero_le _⟩
  | some rs =>
    rw [hr] at h
    obtain ⟨A, c, h1, h2, h3⟩ := h
    exact ⟨A, c, true, h1, h2, h3⟩

set_option maxRecDepth 100000 in
set_option maxHeartbeats 8000000 in
theorem ref_tos (HRU : RunesOK) {w : World} {v0 v1 v2 v3 v4 v5 v6 v7 : Value} (T : Tab) (h : TabAt w v0 v1 v2 v3 v4 v5 v6 v7 T) (hok : TabOk T) :
    Calls Tryz.prog 37 #[.agg #[v0, v1, v2, v3, v4, v5, v6, v7]] w fun e w' => e = .returned (wrongV (tosW T)) ∧ Below w.heap.size w w' := by
  have HO := Lib.hid hok
  obtain ⟨A4, c4, rfl, hn4⟩ := h.folds.form
  obtain ⟨A5, c5, rfl, hn5⟩ := h.looks.form
  have HT := Lib.hid h
  obtain ⟨n4, hln4⟩ : ∃ n, T.folds.length = n := ⟨_, rfl⟩
  rw [hln4] at HT hn4
  rw [hln4]
  have HLn4 := Lib.hid hln4
  clear hln4
  obtain ⟨n5, hln5⟩ : ∃ n, T.looks.length = n := ⟨_, rfl⟩
  rw [hln5] at HT hn5
  rw [hln5]
  have HLn5 := Lib.hid hln5
  clear hln5
  clear h hok
  go_enter Tryz.func37, Tryz.ntmps37
  go_wp2_with fail
  go_loopw [3] (fun i wr => ∃ k : Nat, k ≤ n4 ∧ i = .int .i64 (k : Int) ∧ NoneTo (tosM T) T.folds k ∧ RS w v0 v1 v2 v3 (.slice A4 n4 c4) (.slice A5 n5 c5) v6 v7 wr) (fun i _ => n4 - (intOf i).toNat)
  case atStart => exact ⟨0, Nat.zero_le _, rfl, NoneTo.zero _ _, RS.start _ _ _ _ _ _ _ _ _⟩
  case round =>
    obtain ⟨k, hk, rfl, hno, hrs⟩ := hrel
    have Hno := Lib.hid hno
    have Hr := Lib.hid hrs
    obtain ⟨b0, b1, b2, b3, b4, b5, b6, b7⟩ := hrs.boxF
    by_cases hlt : k < n4
    · obtain ⟨m, hm⟩ : ∃ m, T.folds[k]? = some m := ⟨_, List.getElem?_eq_getElem (by rw [HLn4.out]; exact hlt)⟩
      obtain ⟨a, rfl, e0, e1⟩ := el2 HT.out.folds hrs.below hm rfl
      have Hm := Lib.hid hm
      have k0 : (0 : Int) ≤ (k : Int) := by omega
      have k1 : (k : Int) < (n4 : Int) := by omega
      have qA0 := World.block_lt_of_cell? wr _ e0
      have qB := hrs.box.lt
      have hmk := fun w0 (hC : Below wr.heap.size wr w0) r b (hb : markL T.marks r = b) => (ref_mark (w := w0) (v2 := v2) (v0 := v0) (v1 := v1) (v3 := v3) (v4 := (.slice (some a) n4 c4)) (v5 := (.slice A5 n5 c5)) (v6 := v6) (v7 := v7) T.marks ((HT.out.marks.below Hr.out.below).below hC) r).mono (R' := fun e w' => e = .returned (.bool b) ∧ Below w0.heap.size w0 w') (fun e w' h => ⟨by rw [← hb]; exact h.1, h.2⟩)
      have hwh := fun w0 (hC : Below wr.heap.size wr w0) => ref_Whole (w := w0) (v3 := v3) (v0 := v0) (v1 := v1) (v2 := v2) (v4 := (.slice (some a) n4 c4)) (v5 := (.slice A5 n5 c5)) (v6 := v6) (v7 := v7) T.pairs ((HT.out.pairs.below Hr.out.below).below hC) m.frm
      change ∀ w0 (hC : Below wr.heap.size wr w0), Calls Tryz.prog 84 _ w0 fun e w' => e = .returned (.int .i64 (wholeI T.pairs m.frm)) ∧ Below w0.heap.size w0 w' at hwh
      have HM := Lib.hid hmk
      have HW := Lib.hid hwh
      clear hno hrs hm hmk hwh
      have Hx : Hid (tosM T k m = if markL T.marks m.frm = true ∨ 0 ≤ wholeI T.pairs m.frm then 31 else 0) := Lib.hid rfl
      generalize wholeI T.pairs m.frm = z at *
      cases hr0 : markL T.marks m.frm with
      | true =>
        have H0 : Hid (tosM T k m = 31) := Lib.hid (by rw [Hx.out, if_pos (.inl hr0)])
        go_wp2_with fail
        refine wp_region_below (by kernel_rfl) (by kernel_rfl) ?_
        repeat (first
          | go_big_quiet_skip
          | (go_big_quiet_want; go_big_quiet_op; first
              | go_big_quiet_on
              | (refine ⟨_, fun _ _ => rfl, ?_⟩; go_big_quiet_on)
              | (apply Exists.intro
                 refine ⟨fun w0 hC0 => ?_, ?_⟩
                 · (go_at_call 81
                    refine (HM.out w0 hC0 _ _ (by assumption)).mono ?_
                    rintro e w8 ⟨rfl, hb8⟩
                    exact ⟨rfl, hC0.trans (hb8.mono hC0.size)⟩)
                 go_big_quiet_on)
              | (apply Exists.intro
                 refine ⟨fun w0 hC0 => ?_, ?_⟩
                 · (go_at_call 84
                    refine (HW.out w0 hC0).mono ?_
                    rintro e w8 ⟨rfl, hb8⟩
                    exact ⟨rfl, hC0.trans (hb8.mono hC0.size)⟩)
                 go_big_quiet_on)
              | (apply Exists.intro
                 refine ⟨fun w0 hC0 => ?_, ?_⟩
                 · (have b0 := (hC0.cell (p := ⟨w.heap.size, 0, none⟩) qB).trans b0
                    have b1 := (hC0.cell (p := ⟨w.heap.size, 1, none⟩) qB).trans b1
                    have b2 := (hC0.cell (p := ⟨w.heap.size, 2, none⟩) qB).trans b2
                    have b3 := (hC0.cell (p := ⟨w.heap.size, 3, none⟩) qB).trans b3
                    have b4 := (hC0.cell (p := ⟨w.heap.size, 4, none⟩) qB).trans b4
                    have b5 := (hC0.cell (p := ⟨w.heap.size, 5, none⟩) qB).trans b5
                    have b6 := (hC0.cell (p := ⟨w.heap.size, 6, none⟩) qB).trans b6
                    have b7 := (hC0.cell (p := ⟨w.heap.size, 7, none⟩) qB).trans b7
                    have e0 := (hC0.cell (p := a.add (k * 2)) qA0).trans e0
                    go_simp
                    rfl)
                 go_big_quiet_on)))
        refine wpQuiet_nil ?_
        intro w8 hb8
        obtain ⟨r1, r2, r3, f1, f2, f3⟩ := (Hr.out.step hb8).resF
        go_wp2_with fail
        obtain ⟨hB, hW⟩ := ((Hr.out.step hb8)).ret (.int .i64 31) (.int .i64 5) (.int .i64 (k : Int))
        obtain ⟨s1, s2, s3, -, -, -⟩ := wrong_facts hB
        refine bodyPost_ret (v := .agg #[.int .i64 31, .int .i64 5, .int .i64 (k : Int)]) ?_ rfl ⟨?_, hW⟩
        · simp [results, Tryz.results37, go_sem, s1, s2, s3]
        · rw [show tosW T = some (31, 5, (k : Int)) by unfold tosW; rw [Hno.out.found Hm.out (by rw [H0.out]; decide) 5, H0.out]; first | done | rfl]
          rfl
      | false =>
        by_cases hz : 0 ≤ z
        · skip
          have H0 : Hid (tosM T k m = 31) := Lib.hid (by rw [Hx.out, if_pos (.inr hz)])
          go_wp2_with fail
          refine wp_region_below (by kernel_rfl) (by kernel_rfl) ?_
          repeat (first
            | go_big_quiet_skip
            | (go_big_quiet_want; go_big_quiet_op; first
                | go_big_quiet_on
                | (refine ⟨_, fun _ _ => rfl, ?_⟩; go_big_quiet_on)
                | (apply Exists.intro
                   refine ⟨fun w0 hC0 => ?_, ?_⟩
                   · (go_at_call 81
                      refine (HM.out w0 hC0 _ _ (by assumption)).mono ?_
                      rintro e w8 ⟨rfl, hb8⟩
                      exact ⟨rfl, hC0.trans (hb8.mono hC0.size)⟩)
                   go_big_quiet_on)
                | (apply Exists.intro
                   refine ⟨fun w0 hC0 => ?_, ?_⟩
                   · (go_at_call 84
                      refine (HW.out w0 hC0).mono ?_
                      rintro e w8 ⟨rfl, hb8⟩
                      exact ⟨rfl, hC0.trans (hb8.mono hC0.size)⟩)
                   go_big_quiet_on)
                | (apply Exists.intro
                   refine ⟨fun w0 hC0 => ?_, ?_⟩
                   · (have b0 := (hC0.cell (p := ⟨w.heap.size, 0, none⟩) qB).trans b0
                      have b1 := (hC0.cell (p := ⟨w.heap.size, 1, none⟩) qB).trans b1
                      have b2 := (hC0.cell (p := ⟨w.heap.size, 2, none⟩) qB).trans b2
                      have b3 := (hC0.cell (p := ⟨w.heap.size, 3, none⟩) qB).trans b3
                      have b4 := (hC0.cell (p := ⟨w.heap.size, 4, none⟩) qB).trans b4
                      have b5 := (hC0.cell (p := ⟨w.heap.size, 5, none⟩) qB).trans b5
                      have b6 := (hC0.cell (p := ⟨w.heap.size, 6, none⟩) qB).trans b6
                      have b7 := (hC0.cell (p := ⟨w.heap.size, 7, none⟩) qB).trans b7
                      have e0 := (hC0.cell (p := a.add (k * 2)) qA0).trans e0
                      go_simp
                      rfl)
                   go_big_quiet_on)))
          refine wpQuiet_nil ?_
          intro w8 hb8
          obtain ⟨r1, r2, r3, f1, f2, f3⟩ := (Hr.out.step hb8).resF
          go_wp2_with fail
          obtain ⟨hB, hW⟩ := ((Hr.out.step hb8)).ret (.int .i64 31) (.int .i64 5) (.int .i64 (k : Int))
          obtain ⟨s1, s2, s3, -, -, -⟩ := wrong_facts hB
          refine bodyPost_ret (v := .agg #[.int .i64 31, .int .i64 5, .int .i64 (k : Int)]) ?_ rfl ⟨?_, hW⟩
          · simp [results, Tryz.results37, go_sem, s1, s2, s3]
          · rw [show tosW T = some (31, 5, (k : Int)) by unfold tosW; rw [Hno.out.found Hm.out (by rw [H0.out]; decide) 5, H0.out]; first | done | rfl]
            rfl
        · have H0 : Hid (tosM T k m = 0) := Lib.hid (by rw [Hx.out, if_neg (by rw [hr0]; rintro (h | h); cases h; exact hz h)])
          go_wp2_with fail
          refine wp_region_below (by kernel_rfl) (by kernel_rfl) ?_
          repeat (first
            | go_big_quiet_skip
            | (go_big_quiet_want; go_big_quiet_op; first
                | go_big_quiet_on
                | (refine ⟨_, fun _ _ => rfl, ?_⟩; go_big_quiet_on)
                | (apply Exists.intro
                   refine ⟨fun w0 hC0 => ?_, ?_⟩
                   · (go_at_call 81
                      refine (HM.out w0 hC0 _ _ (by assumption)).mono ?_
                      rintro e w8 ⟨rfl, hb8⟩
                      exact ⟨rfl, hC0.trans (hb8.mono hC0.size)⟩)
                   go_big_quiet_on)
                | (apply Exists.intro
                   refine ⟨fun w0 hC0 => ?_, ?_⟩
                   · (go_at_call 84
                      refine (HW.out w0 hC0).mono ?_
                      rintro e w8 ⟨rfl, hb8⟩
                      exact ⟨rfl, hC0.trans (hb8.mono hC0.size)⟩)
                   go_big_quiet_on)
                | (apply Exists.intro
                   refine ⟨fun w0 hC0 => ?_, ?_⟩
                   · (have b0 := (hC0.cell (p := ⟨w.heap.size, 0, none⟩) qB).trans b0
                      have b1 := (hC0.cell (p := ⟨w.heap.size, 1, none⟩) qB).trans b1
                      have b2 := (hC0.cell (p := ⟨w.heap.size, 2, none⟩) qB).trans b2
                      have b3 := (hC0.cell (p := ⟨w.heap.size, 3, none⟩) qB).trans b3
                      have b4 := (hC0.cell (p := ⟨w.heap.size, 4, none⟩) qB).trans b4
                      have b5 := (hC0.cell (p := ⟨w.heap.size, 5, none⟩) qB).trans b5
                      have b6 := (hC0.cell (p := ⟨w.heap.size, 6, none⟩) qB).trans b6
                      have b7 := (hC0.cell (p := ⟨w.heap.size, 7, none⟩) qB).trans b7
                      have e0 := (hC0.cell (p := a.add (k * 2)) qA0).trans e0
                      go_simp
                      rfl)
                   go_big_quiet_on)))
          refine wpQuiet_nil ?_
          intro w8 hb8
          go_wp2_with fail
          go_roundw
          case rel => exact ⟨k + 1, by omega, by go_num, Hno.out.succ Hm.out H0.out, Hr.out.step hb8⟩
          case measure => simp [intOf]; omega
    · have hkn : n4 = k := by omega
      subst hkn
      have HN0 : Hid (scan (tosM T) 5 0 T.folds = none) := Lib.hid (NoneTo.all (by rw [HLn4.out]; exact Hno.out) 5)
      clear Hno hno hrs
      go_wp2_with fail
      clear b0 b1 b2 b3 b4 b5 b6 b7
      go_loopw [4] (fun i wr => ∃ k : Nat, k ≤ n5 ∧ i = .int .i64 (k : Int) ∧ NoneTo (tosM T) T.looks k ∧ RS w v0 v1 v2 v3 (.slice A4 n4 c4) (.slice A5 n5 c5) v6 v7 wr) (fun i _ => n5 - (intOf i).toNat)
      case atStart => exact ⟨0, Nat.zero_le _, rfl, NoneTo.zero _ _, Hr.out⟩
      case round =>
        clear Hr
        obtain ⟨k, hk, rfl, hno, hrs⟩ := hrel
        have Hno := Lib.hid hno
        have Hr := Lib.hid hrs
        obtain ⟨b0, b1, b2, b3, b4, b5, b6, b7⟩ := hrs.boxF
        by_cases hlt : k < n5
        · obtain ⟨m, hm⟩ : ∃ m, T.looks[k]? = some m := ⟨_, List.getElem?_eq_getElem (by rw [HLn5.out]; exact hlt)⟩
          obtain ⟨a, rfl, e0, e1⟩ := el2 HT.out.looks hrs.below hm rfl
          have Hm := Lib.hid hm
          have k0 : (0 : Int) ≤ (k : Int) := by omega
          have k1 : (k : Int) < (n5 : Int) := by omega
          have qA0 := World.block_lt_of_cell? wr _ e0
          have qB := hrs.box.lt
          have hmk := fun w0 (hC : Below wr.heap.size wr w0) r b (hb : markL T.marks r = b) => (ref_mark (w := w0) (v2 := v2) (v0 := v0) (v1 := v1) (v3 := v3) (v4 := (.slice A4 n4 c4)) (v5 := (.slice (some a) n5 c5)) (v6 := v6) (v7 := v7) T.marks ((HT.out.marks.below Hr.out.below).below hC) r).mono (R' := fun e w' => e = .returned (.bool b) ∧ Below w0.heap.size w0 w') (fun e w' h => ⟨by rw [← hb]; exact h.1, h.2⟩)
          have hwh := fun w0 (hC : Below wr.heap.size wr w0) => ref_Whole (w := w0) (v3 := v3) (v0 := v0) (v1 := v1) (v2 := v2) (v4 := (.slice A4 n4 c4)) (v5 := (.slice (some a) n5 c5)) (v6 := v6) (v7 := v7) T.pairs ((HT.out.pairs.below Hr.out.below).below hC) m.frm
          change ∀ w0 (hC : Below wr.heap.size wr w0), Calls Tryz.prog 84 _ w0 fun e w' => e = .returned (.int .i64 (wholeI T.pairs m.frm)) ∧ Below w0.heap.size w0 w' at hwh
          have HM := Lib.hid hmk
          have HW := Lib.hid hwh
          clear hno hrs hm hmk hwh
          have Hx : Hid (tosM T k m = if markL T.marks m.frm = true ∨ 0 ≤ wholeI T.pairs m.frm then 31 else 0) := Lib.hid rfl
          generalize wholeI T.pairs m.frm = z at *
          cases hr0 : markL T.marks m.frm with
          | true =>
            have H0 : Hid (tosM T k m = 31) := Lib.hid (by rw [Hx.out, if_pos (.inl hr0)])
            go_wp2_with fail
            refine wp_region_below (by kernel_rfl) (by kernel_rfl) ?_
            repeat (first
              | go_big_quiet_skip
              | (go_big_quiet_want; go_big_quiet_op; first
                  | go_big_quiet_on
                  | (refine ⟨_, fun _ _ => rfl, ?_⟩; go_big_quiet_on)
                  | (apply Exists.intro
                     refine ⟨fun w0 hC0 => ?_, ?_⟩
                     · (go_at_call 81
                        refine (HM.out w0 hC0 _ _ (by assumption)).mono ?_
                        rintro e w8 ⟨rfl, hb8⟩
                        exact ⟨rfl, hC0.trans (hb8.mono hC0.size)⟩)
                     go_big_quiet_on)
                  | (apply Exists.intro
                     refine ⟨fun w0 hC0 => ?_, ?_⟩
                     · (go_at_call 84
                        refine (HW.out w0 hC0).mono ?_
                        rintro e w8 ⟨rfl, hb8⟩
                        exact ⟨rfl, hC0.trans (hb8.mono hC0.size)⟩)
                     go_big_quiet_on)
                  | (apply Exists.intro
                     refine ⟨fun w0 hC0 => ?_, ?_⟩
                     · (have b0 := (hC0.cell (p := ⟨w.heap.size, 0, none⟩) qB).trans b0
                        have b1 := (hC0.cell (p := ⟨w.heap.size, 1, none⟩) qB).trans b1
                        have b2 := (hC0.cell (p := ⟨w.heap.size, 2, none⟩) qB).trans b2
                        have b3 := (hC0.cell (p := ⟨w.heap.size, 3, none⟩) qB).trans b3
                        have b4 := (hC0.cell (p := ⟨w.heap.size, 4, none⟩) qB).trans b4
                        have b5 := (hC0.cell (p := ⟨w.heap.size, 5, none⟩) qB).trans b5
                        have b6 := (hC0.cell (p := ⟨w.heap.size, 6, none⟩) qB).trans b6
                        have b7 := (hC0.cell (p := ⟨w.heap.size, 7, none⟩) qB).trans b7
                        have e0 := (hC0.cell (p := a.add (k * 2)) qA0).trans e0
                        go_simp
                        rfl)
                     go_big_quiet_on)))
            refine wpQuiet_nil ?_
            intro w8 hb8
            obtain ⟨r1, r2, r3, f1, f2, f3⟩ := (Hr.out.step hb8).resF
            go_wp2_with fail
            obtain ⟨hB, hW⟩ := ((Hr.out.step hb8)).ret (.int .i64 31) (.int .i64 6) (.int .i64 (k : Int))
            obtain ⟨s1, s2, s3, -, -, -⟩ := wrong_facts hB
            refine bodyPost_ret (v := .agg #[.int .i64 31, .int .i64 6, .int .i64 (k : Int)]) ?_ rfl ⟨?_, hW⟩
            · simp [results, Tryz.results37, go_sem, s1, s2, s3]
            · rw [show tosW T = some (31, 6, (k : Int)) by unfold tosW; rw [HN0.out, Hno.out.found Hm.out (by rw [H0.out]; decide) 6, H0.out]; first | done | rfl]
              rfl
          | false =>
            by_cases hz : 0 ≤ z
            · skip
              have H0 : Hid (tosM T k m = 31) := Lib.hid (by rw [Hx.out, if_pos (.inr hz)])
              go_wp2_with fail
              refine wp_region_below (by kernel_rfl) (by kernel_rfl) ?_
              repeat (first
                | go_big_quiet_skip
                | (go_big_quiet_want; go_big_quiet_op; first
                    | go_big_quiet_on
                    | (refine ⟨_, fun _ _ => rfl, ?_⟩; go_big_quiet_on)
                    | (apply Exists.intro
                       refine ⟨fun w0 hC0 => ?_, ?_⟩
                       · (go_at_call 81
                          refine (HM.out w0 hC0 _ _ (by assumption)).mono ?_
                          rintro e w8 ⟨rfl, hb8⟩
                          exact ⟨rfl, hC0.trans (hb8.mono hC0.size)⟩)
                       go_big_quiet_on)
                    | (apply Exists.intro
                       refine ⟨fun w0 hC0 => ?_, ?_⟩
                       · (go_at_call 84
                          refine (HW.out w0 hC0).mono ?_
                          rintro e w8 ⟨rfl, hb8⟩
                          exact ⟨rfl, hC0.trans (hb8.mono hC0.size)⟩)
                       go_big_quiet_on)
                    | (apply Exists.intro
                       refine ⟨fun w0 hC0 => ?_, ?_⟩
                       · (have b0 := (hC0.cell (p := ⟨w.heap.size, 0, none⟩) qB).trans b0
                          have b1 := (hC0.cell (p := ⟨w.heap.size, 1, none⟩) qB).trans b1
                          have b2 := (hC0.cell (p := ⟨w.heap.size, 2, none⟩) qB).trans b2
                          have b3 := (hC0.cell (p := ⟨w.heap.size, 3, none⟩) qB).trans b3
                          have b4 := (hC0.cell (p := ⟨w.heap.size, 4, none⟩) qB).trans b4
                          have b5 := (hC0.cell (p := ⟨w.heap.size, 5, none⟩) qB).trans b5
                          have b6 := (hC0.cell (p := ⟨w.heap.size, 6, none⟩) qB).trans b6
                          have b7 := (hC0.cell (p := ⟨w.heap.size, 7, none⟩) qB).trans b7
                          have e0 := (hC0.cell (p := a.add (k * 2)) qA0).trans e0
                          go_simp
                          rfl)
                       go_big_quiet_on)))
              refine wpQuiet_nil ?_
              intro w8 hb8
              obtain ⟨r1, r2, r3, f1, f2, f3⟩ := (Hr.out.step hb8).resF
              go_wp2_with fail
              obtain ⟨hB, hW⟩ := ((Hr.out.step hb8)).ret (.int .i64 31) (.int .i64 6) (.int .i64 (k : Int))
              obtain ⟨s1, s2, s3, -, -, -⟩ := wrong_facts hB
              refine bodyPost_ret (v := .agg #[.int .i64 31, .int .i64 6, .int .i64 (k : Int)]) ?_ rfl ⟨?_, hW⟩
              · simp [results, Tryz.results37, go_sem, s1, s2, s3]
              · rw [show tosW T = some (31, 6, (k : Int)) by unfold tosW; rw [HN0.out, Hno.out.found Hm.out (by rw [H0.out]; decide) 6, H0.out]; first | done | rfl]
                rfl
            · have H0 : Hid (tosM T k m = 0) := Lib.hid (by rw [Hx.out, if_neg (by rw [hr0]; rintro (h | h); cases h; exact hz h)])
              go_wp2_with fail
              refine wp_region_below (by kernel_rfl) (by kernel_rfl) ?_
              repeat (first
                | go_big_quiet_skip
                | (go_big_quiet_want; go_big_quiet_op; first
                    | go_big_quiet_on
                    | (refine ⟨_, fun _ _ => rfl, ?_⟩; go_big_quiet_on)
                    | (apply Exists.intro
                       refine ⟨fun w0 hC0 => ?_, ?_⟩
                       · (go_at_call 81
                          refine (HM.out w0 hC0 _ _ (by assumption)).mono ?_
                          rintro e w8 ⟨rfl, hb8⟩
                          exact ⟨rfl, hC0.trans (hb8.mono hC0.size)⟩)
                       go_big_quiet_on)
                    | (apply Exists.intro
                       refine ⟨fun w0 hC0 => ?_, ?_⟩
                       · (go_at_call 84
                          refine (HW.out w0 hC0).mono ?_
                          rintro e w8 ⟨rfl, hb8⟩
                          exact ⟨rfl, hC0.trans (hb8.mono hC0.size)⟩)
                       go_big_quiet_on)
                    | (apply Exists.intro
                       refine ⟨fun w0 hC0 => ?_, ?_⟩
                       · (have b0 := (hC0.cell (p := ⟨w.heap.size, 0, none⟩) qB).trans b0
                          have b1 := (hC0.cell (p := ⟨w.heap.size, 1, none⟩) qB).trans b1
                          have b2 := (hC0.cell (p := ⟨w.heap.size, 2, none⟩) qB).trans b2
                          have b3 := (hC0.cell (p := ⟨w.heap.size, 3, none⟩) qB).trans b3
                          have b4 := (hC0.cell (p := ⟨w.heap.size, 4, none⟩) qB).trans b4
                          have b5 := (hC0.cell (p := ⟨w.heap.size, 5, none⟩) qB).trans b5
                          have b6 := (hC0.cell (p := ⟨w.heap.size, 6, none⟩) qB).trans b6
                          have b7 := (hC0.cell (p := ⟨w.heap.size, 7, none⟩) qB).trans b7
                          have e0 := (hC0.cell (p := a.add (k * 2)) qA0).trans e0
                          go_simp
                          rfl)
                       go_big_quiet_on)))
              refine wpQuiet_nil ?_
              intro w8 hb8
              go_wp2_with fail
              go_roundw
              case rel => exact ⟨k + 1, by omega, by go_num, Hno.out.succ Hm.out H0.out, Hr.out.step hb8⟩
              case measure => simp [intOf]; omega
        · have hkn : n5 = k := by omega
          subst hkn
          have HN1 : Hid (scan (tosM T) 6 0 T.looks = none) := Lib.hid (NoneTo.all (by rw [HLn5.out]; exact Hno.out) 6)
          clear Hno hno hrs
          go_wp2_with fail
          clear b0 b1 b2 b3 b4 b5 b6 b7
          go_loopw [5, 6, 7, 8] (fun i _ _ _ wr => ∃ k : Nat, k ≤ n4 ∧ i = .int .i64 (k : Int) ∧ NoneTo (tosF T) T.folds k ∧ RS w v0 v1 v2 v3 (.slice A4 n4 c4) (.slice A5 n5 c5) v6 v7 wr) (fun i _ _ _ _ => n4 - (intOf i).toNat)
          case atStart => exact ⟨0, Nat.zero_le _, rfl, NoneTo.zero _ _, Hr.out⟩
          case round =>
            clear Hr
            obtain ⟨k, hk, rfl, hno, hrs⟩ := hrel
            have Hno := Lib.hid hno
            have Hr := Lib.hid hrs
            obtain ⟨b0, b1, b2, b3, b4, b5, b6, b7⟩ := hrs.boxF
            by_cases hlt : k < n4
            · obtain ⟨m, hm⟩ : ∃ m, T.folds[k]? = some m := ⟨_, List.getElem?_eq_getElem (by rw [HLn4.out]; exact hlt)⟩
              obtain ⟨a, rfl, e0, e1⟩ := el2 HT.out.folds hrs.below hm rfl
              have Hm := Lib.hid hm
              have k0 : (0 : Int) ≤ (k : Int) := by omega
              have k1 : (k : Int) < (n4 : Int) := by omega
              have HU := Lib.hid (HRU m.to wr (HO.out.folds m (List.mem_of_getElem? hm)).2)
              clear hno hrs hm
              go_wp2_with fail
              refine HU.out.mono ?_
              rintro e w2 ⟨hr, hb2⟩
              obtain ⟨A9, c9, b9, rfl, hat, hlen⟩ := runes_one hr
              have Hrs : Hid (∃ rs, runesD m.to = rs) := Lib.hid ⟨_, rfl⟩
              have Hf : Hid (tosF T k m = if (runesD m.to).any (fun r => !plainL T r) = true then 35 else 0) := Lib.hid rfl
              generalize runesD m.to = rs at *
              obtain ⟨nr, hnr⟩ : ∃ n, rs.length = n := ⟨_, rfl⟩
              rw [hnr] at hlen
              rw [hnr]
              have Hnr := Lib.hid hnr
              have Hat := Lib.hid hat
              have Hr2 := Lib.hid (Hr.out.step hb2)
              have hmz := (HO.out.folds m (List.mem_of_getElem? Hm.out)).2
              clear hnr hat hr hb2 HU Hr b0 b1 b2 b3 b4 b5 b6 b7 e0 e1 k0 k1 Hrs
              obtain ⟨b0, b1, b2, b3, b4, b5, b6, b7⟩ := Hr2.out.boxF
              go_wp2_with fail
              clear b0 b1 b2 b3 b4 b5 b6 b7
              go_loopw [8] (fun j wr => ∃ q : Nat, q ≤ nr ∧ j = .int .i64 (q : Int) ∧ (rs.take q).any (fun r => !plainL T r) = false ∧ RS w v0 v1 v2 v3 (.slice (some a) n4 c4) (.slice A5 n5 c5) v6 v7 wr ∧ Below w2.heap.size w2 wr) (fun j _ => nr - (intOf j).toNat)
              case atStart => exact ⟨0, Nat.zero_le _, rfl, by simp, Hr2.out, Below.refl _ _⟩
              case round =>
                obtain ⟨q, hq, rfl, hany, hrs, hbw⟩ := hrel
                have Hany := Lib.hid hany
                have Hr := Lib.hid hrs
                have Hbw := Lib.hid hbw
                obtain ⟨b0, b1, b2, b3, b4, b5, b6, b7⟩ := hrs.boxF
                by_cases hql : q < nr
                · obtain ⟨a9, rfl, hg9, hc9⟩ := Hat.out (by rw [Hnr.out]; omega)
                  obtain ⟨r, hr⟩ : ∃ r, rs[q]? = some r := ⟨_, List.getElem?_eq_getElem (by rw [Hnr.out]; exact hql)⟩
                  have d0 := (hbw.cell (p := a9.add q) (by rw [addr_block']; exact hg9)).trans (hc9 q (by rw [Hnr.out]; exact hql))
                  rw [show rs.getD q 0 = r by rw [List.getD_eq_getElem?_getD, hr]; rfl] at d0
                  have Hs := Lib.hid (any_take_succ rs (fun r => !plainL T r) q r hr)
                  have Hy : Hid ((fun r => !plainL T r) r = true → tosF T k m = 35) := Lib.hid (fun h => by rw [Hf.out, if_pos (any_of_get hr h)])
                  have q0 : (0 : Int) ≤ (q : Int) := by omega
                  have q1 : (q : Int) < (nr : Int) := by omega
                  have qA0 := World.block_lt_of_cell? wr _ d0
                  have qB := hrs.box.lt
                  have hpl := fun w0 (hC : Below wr.heap.size wr w0) b (hb : plainL T r = b) => (ref_Plain (w := w0) T ((HT.out.below Hr.out.below).below hC) r).mono (R' := fun e w' => e = .returned (.bool b) ∧ Below w0.heap.size w0 w') (fun e w' h => ⟨by rw [← hb]; exact h.1, h.2⟩)
                  have HPl := Lib.hid hpl
                  clear hpl hany hrs hbw hc9 hr hg9
                  cases hp : plainL T r with
                  | false =>
                    have H0 : Hid (tosF T k m = 35) := Lib.hid (Hy.out (by simp [hp]))
                    go_wp2_with fail
                    refine wp_region_below (by kernel_rfl) (by kernel_rfl) ?_
                    repeat (first
                      | go_big_quiet_skip
                      | (go_big_quiet_want; go_big_quiet_op; first
                          | go_big_quiet_on
                          | (refine ⟨_, fun _ _ => rfl, ?_⟩; go_big_quiet_on)
                          | (apply Exists.intro
                             refine ⟨fun w0 hC0 => ?_, ?_⟩
                             · (go_at_call 86
                                refine (HPl.out w0 hC0 _ (by assumption)).mono ?_
                                rintro e w8 ⟨rfl, hb8⟩
                                exact ⟨rfl, hC0.trans (hb8.mono hC0.size)⟩)
                             go_big_quiet_on)
                          | (apply Exists.intro
                             refine ⟨fun w0 hC0 => ?_, ?_⟩
                             · (have b0 := (hC0.cell (p := ⟨w.heap.size, 0, none⟩) qB).trans b0
                                have b1 := (hC0.cell (p := ⟨w.heap.size, 1, none⟩) qB).trans b1
                                have b2 := (hC0.cell (p := ⟨w.heap.size, 2, none⟩) qB).trans b2
                                have b3 := (hC0.cell (p := ⟨w.heap.size, 3, none⟩) qB).trans b3
                                have b4 := (hC0.cell (p := ⟨w.heap.size, 4, none⟩) qB).trans b4
                                have b5 := (hC0.cell (p := ⟨w.heap.size, 5, none⟩) qB).trans b5
                                have b6 := (hC0.cell (p := ⟨w.heap.size, 6, none⟩) qB).trans b6
                                have b7 := (hC0.cell (p := ⟨w.heap.size, 7, none⟩) qB).trans b7
                                have d0 := (hC0.cell (p := a9.add q) qA0).trans d0
                                go_simp
                                rfl)
                             go_big_quiet_on)))
                    refine wpQuiet_nil ?_
                    intro w8 hb8
                    obtain ⟨r1, r2, r3, f1, f2, f3⟩ := (Hr.out.step hb8).resF
                    go_wp2_with fail
                    obtain ⟨hB, hW⟩ := ((Hr.out.step hb8)).ret (.int .i64 35) (.int .i64 5) (.int .i64 (k : Int))
                    obtain ⟨s1, s2, s3, -, -, -⟩ := wrong_facts hB
                    refine bodyPost_ret (v := .agg #[.int .i64 35, .int .i64 5, .int .i64 (k : Int)]) ?_ rfl ⟨?_, hW⟩
                    · simp [results, Tryz.results37, go_sem, s1, s2, s3]
                    · rw [show tosW T = some (35, 5, (k : Int)) by unfold tosW; rw [HN0.out, HN1.out, Hno.out.found Hm.out (by rw [H0.out]; decide) 5, H0.out]; first | done | rfl]
                      rfl
                  | true =>
                    go_wp2_with fail
                    refine wp_region_below (by kernel_rfl) (by kernel_rfl) ?_
                    repeat (first
                      | go_big_quiet_skip
                      | (go_big_quiet_want; go_big_quiet_op; first
                          | go_big_quiet_on
                          | (refine ⟨_, fun _ _ => rfl, ?_⟩; go_big_quiet_on)
                          | (apply Exists.intro
                             refine ⟨fun w0 hC0 => ?_, ?_⟩
                             · (go_at_call 86
                                refine (HPl.out w0 hC0 _ (by assumption)).mono ?_
                                rintro e w8 ⟨rfl, hb8⟩
                                exact ⟨rfl, hC0.trans (hb8.mono hC0.size)⟩)
                             go_big_quiet_on)
                          | (apply Exists.intro
                             refine ⟨fun w0 hC0 => ?_, ?_⟩
                             · (have b0 := (hC0.cell (p := ⟨w.heap.size, 0, none⟩) qB).trans b0
                                have b1 := (hC0.cell (p := ⟨w.heap.size, 1, none⟩) qB).trans b1
                                have b2 := (hC0.cell (p := ⟨w.heap.size, 2, none⟩) qB).trans b2
                                have b3 := (hC0.cell (p := ⟨w.heap.size, 3, none⟩) qB).trans b3
                                have b4 := (hC0.cell (p := ⟨w.heap.size, 4, none⟩) qB).trans b4
                                have b5 := (hC0.cell (p := ⟨w.heap.size, 5, none⟩) qB).trans b5
                                have b6 := (hC0.cell (p := ⟨w.heap.size, 6, none⟩) qB).trans b6
                                have b7 := (hC0.cell (p := ⟨w.heap.size, 7, none⟩) qB).trans b7
                                have d0 := (hC0.cell (p := a9.add q) qA0).trans d0
                                go_simp
                                rfl)
                             go_big_quiet_on)))
                    refine wpQuiet_nil ?_
                    intro w8 hb8
                    go_wp2_with fail
                    go_roundw
                    case rel => exact ⟨q + 1, by omega, by go_num, by rw [Hs.out, Hany.out]; simp [hp], Hr.out.step hb8, below_trans Hbw.out hb8⟩
                    case measure => simp [intOf]; omega
                · have hqn : nr = q := by omega
                  subst hqn
                  have H0 : Hid (tosF T k m = 0) := Lib.hid (by rw [Hf.out, if_neg (by rw [take_all Hany.out Hnr.out]; simp)])
                  clear hany hrs hbw
                  go_wp2_with fail
                  go_roundw
                  case rel => exact ⟨k + 1, by omega, by go_num, Hno.out.succ Hm.out H0.out, Hr.out⟩
                  case measure => simp [intOf]; omega
            · have hkn : n4 = k := by omega
              subst hkn
              have HN2 : Hid (scan (tosF T) 5 0 T.folds = none) := Lib.hid (NoneTo.all (by rw [HLn4.out]; exact Hno.out) 5)
              clear Hno hno hrs
              go_wp2_with fail
              clear b0 b1 b2 b3 b4 b5 b6 b7
              go_loopw [9, 10, 11, 12] (fun i _ _ _ wr => ∃ k : Nat, k ≤ n5 ∧ i = .int .i64 (k : Int) ∧ NoneTo (tosL T) T.looks k ∧ RS w v0 v1 v2 v3 (.slice A4 n4 c4) (.slice A5 n5 c5) v6 v7 wr) (fun i _ _ _ _ => n5 - (intOf i).toNat)
              case atStart => exact ⟨0, Nat.zero_le _, rfl, NoneTo.zero _ _, Hr.out⟩
              case round =>
                clear Hr
                obtain ⟨k, hk, rfl, hno, hrs⟩ := hrel
                have Hno := Lib.hid hno
                have Hr := Lib.hid hrs
                obtain ⟨b0, b1, b2, b3, b4, b5, b6, b7⟩ := hrs.boxF
                by_cases hlt : k < n5
                · obtain ⟨m, hm⟩ : ∃ m, T.looks[k]? = some m := ⟨_, List.getElem?_eq_getElem (by rw [HLn5.out]; exact hlt)⟩
                  obtain ⟨a, rfl, e0, e1⟩ := el2 HT.out.looks hrs.below hm rfl
                  have Hm := Lib.hid hm
                  have k0 : (0 : Int) ≤ (k : Int) := by omega
                  have k1 : (k : Int) < (n5 : Int) := by omega
                  have HU := Lib.hid (HRU m.to wr (HO.out.looks m (List.mem_of_getElem? hm)).2)
                  clear hno hrs hm
                  go_wp2_with fail
                  refine HU.out.mono ?_
                  rintro e w2 ⟨hr, hb2⟩
                  obtain ⟨A9, c9, b9, rfl, hat, hlen⟩ := runes_one hr
                  have Hrs : Hid (∃ rs, runesD m.to = rs) := Lib.hid ⟨_, rfl⟩
                  have Hf : Hid (tosL T k m = if (runesD m.to).any (fun r => !plainL T r || decide (0 ≤ fromI T.looks r)) = true then 36 else 0) := Lib.hid rfl
                  generalize runesD m.to = rs at *
                  obtain ⟨nr, hnr⟩ : ∃ n, rs.length = n := ⟨_, rfl⟩
                  rw [hnr] at hlen
                  rw [hnr]
                  have Hnr := Lib.hid hnr
                  have Hat := Lib.hid hat
                  have Hr2 := Lib.hid (Hr.out.step hb2)
                  have hmz := (HO.out.looks m (List.mem_of_getElem? Hm.out)).2
                  clear hnr hat hr hb2 HU Hr b0 b1 b2 b3 b4 b5 b6 b7 e0 e1 k0 k1 Hrs
                  obtain ⟨b0, b1, b2, b3, b4, b5, b6, b7⟩ := Hr2.out.boxF
                  go_wp2_with fail
                  clear b0 b1 b2 b3 b4 b5 b6 b7
                  go_loopw [12] (fun j wr => ∃ q : Nat, q ≤ nr ∧ j = .int .i64 (q : Int) ∧ (rs.take q).any (fun r => !plainL T r || decide (0 ≤ fromI T.looks r)) = false ∧ RS w v0 v1 v2 v3 (.slice A4 n4 c4) (.slice (some a) n5 c5) v6 v7 wr ∧ Below w2.heap.size w2 wr) (fun j _ => nr - (intOf j).toNat)
                  case atStart => exact ⟨0, Nat.zero_le _, rfl, by simp, Hr2.out, Below.refl _ _⟩
                  case round =>
                    obtain ⟨q, hq, rfl, hany, hrs, hbw⟩ := hrel
                    have Hany := Lib.hid hany
                    have Hr := Lib.hid hrs
                    have Hbw := Lib.hid hbw
                    obtain ⟨b0, b1, b2, b3, b4, b5, b6, b7⟩ := hrs.boxF
                    by_cases hql : q < nr
                    · obtain ⟨a9, rfl, hg9, hc9⟩ := Hat.out (by rw [Hnr.out]; omega)
                      obtain ⟨r, hr⟩ : ∃ r, rs[q]? = some r := ⟨_, List.getElem?_eq_getElem (by rw [Hnr.out]; exact hql)⟩
                      have d0 := (hbw.cell (p := a9.add q) (by rw [addr_block']; exact hg9)).trans (hc9 q (by rw [Hnr.out]; exact hql))
                      rw [show rs.getD q 0 = r by rw [List.getD_eq_getElem?_getD, hr]; rfl] at d0
                      have Hs := Lib.hid (any_take_succ rs (fun r => !plainL T r || decide (0 ≤ fromI T.looks r)) q r hr)
                      have Hy : Hid ((fun r => !plainL T r || decide (0 ≤ fromI T.looks r)) r = true → tosL T k m = 36) := Lib.hid (fun h => by rw [Hf.out, if_pos (any_of_get hr h)])
                      have q0 : (0 : Int) ≤ (q : Int) := by omega
                      have q1 : (q : Int) < (nr : Int) := by omega
                      have qA0 := World.block_lt_of_cell? wr _ d0
                      have qB := hrs.box.lt
                      have hpl := fun w0 (hC : Below wr.heap.size wr w0) b (hb : plainL T r = b) => (ref_Plain (w := w0) T ((HT.out.below Hr.out.below).below hC) r).mono (R' := fun e w' => e = .returned (.bool b) ∧ Below w0.heap.size w0 w') (fun e w' h => ⟨by rw [← hb]; exact h.1, h.2⟩)
                      have HPl := Lib.hid hpl
                      have hfr := fun w0 (hC : Below wr.heap.size wr w0) => (ref_From (w := w0) T.looks ((HT.out.looks.below Hr.out.below).below hC) r).mono (R' := fun e w' => e = .returned (.int .i64 (fromI T.looks r)) ∧ Below w0.heap.size w0 w') (fun e w' h => ⟨h.1, by obtain ⟨q, rfl⟩ := h.2; exact below_dr w0 q⟩)
                      have HFr := Lib.hid hfr
                      clear hfr
                      clear hpl hany hrs hbw hc9 hr hg9
                      cases hp : plainL T r with
                      | false =>
                        have H0 : Hid (tosL T k m = 36) := Lib.hid (Hy.out (by simp [hp]))
                        go_wp2_with fail
                        refine wp_region_below (by kernel_rfl) (by kernel_rfl) ?_
                        repeat (first
                          | go_big_quiet_skip
                          | (go_big_quiet_want; go_big_quiet_op; first
                              | go_big_quiet_on
                              | (refine ⟨_, fun _ _ => rfl, ?_⟩; go_big_quiet_on)
                              | (apply Exists.intro
                                 refine ⟨fun w0 hC0 => ?_, ?_⟩
                                 · (go_at_call 86
                                    refine (HPl.out w0 hC0 _ (by assumption)).mono ?_
                                    rintro e w8 ⟨rfl, hb8⟩
                                    exact ⟨rfl, hC0.trans (hb8.mono hC0.size)⟩)
                                 go_big_quiet_on)
                              | (apply Exists.intro
                                 refine ⟨fun w0 hC0 => ?_, ?_⟩
                                 · (go_at_call 80
                                    refine (HFr.out w0 hC0).mono ?_
                                    rintro e w8 ⟨rfl, hb8⟩
                                    exact ⟨rfl, hC0.trans (hb8.mono hC0.size)⟩)
                                 go_big_quiet_on)
                              | (apply Exists.intro
                                 refine ⟨fun w0 hC0 => ?_, ?_⟩
                                 · (have b0 := (hC0.cell (p := ⟨w.heap.size, 0, none⟩) qB).trans b0
                                    have b1 := (hC0.cell (p := ⟨w.heap.size, 1, none⟩) qB).trans b1
                                    have b2 := (hC0.cell (p := ⟨w.heap.size, 2, none⟩) qB).trans b2
                                    have b3 := (hC0.cell (p := ⟨w.heap.size, 3, none⟩) qB).trans b3
                                    have b4 := (hC0.cell (p := ⟨w.heap.size, 4, none⟩) qB).trans b4
                                    have b5 := (hC0.cell (p := ⟨w.heap.size, 5, none⟩) qB).trans b5
                                    have b6 := (hC0.cell (p := ⟨w.heap.size, 6, none⟩) qB).trans b6
                                    have b7 := (hC0.cell (p := ⟨w.heap.size, 7, none⟩) qB).trans b7
                                    have d0 := (hC0.cell (p := a9.add q) qA0).trans d0
                                    go_simp
                                    rfl)
                                 go_big_quiet_on)))
                        refine wpQuiet_nil ?_
                        intro w8 hb8
                        obtain ⟨r1, r2, r3, f1, f2, f3⟩ := (Hr.out.step hb8).resF
                        go_wp2_with fail
                        obtain ⟨hB, hW⟩ := ((Hr.out.step hb8)).ret (.int .i64 36) (.int .i64 6) (.int .i64 (k : Int))
                        obtain ⟨s1, s2, s3, -, -, -⟩ := wrong_facts hB
                        refine bodyPost_ret (v := .agg #[.int .i64 36, .int .i64 6, .int .i64 (k : Int)]) ?_ rfl ⟨?_, hW⟩
                        · simp [results, Tryz.results37, go_sem, s1, s2, s3]
                        · rw [show tosW T = some (36, 6, (k : Int)) by unfold tosW; rw [HN0.out, HN1.out, HN2.out, Hno.out.found Hm.out (by rw [H0.out]; decide) 6, H0.out]; first | done | rfl]
                          rfl
                      | true =>
                        have Hp := Lib.hid hp
                        generalize hzz : fromI T.looks r = z at *
                        have Hz := Lib.hid hzz
                        clear hzz
                        by_cases hz : 0 ≤ z
                        · have Hz2 := Lib.hid hz
                          have H0 : Hid (tosL T k m = 36) := Lib.hid (Hy.out (by have := Hz2.out; have ez := Hz.out; simp [Hp.out]; omega))
                          go_wp2_with fail
                          refine wp_region_below (by kernel_rfl) (by kernel_rfl) ?_
                          repeat (first
                            | go_big_quiet_skip
                            | (go_big_quiet_want; go_big_quiet_op; first
                                | go_big_quiet_on
                                | (refine ⟨_, fun _ _ => rfl, ?_⟩; go_big_quiet_on)
                                | (apply Exists.intro
                                   refine ⟨fun w0 hC0 => ?_, ?_⟩
                                   · (go_at_call 86
                                      refine (HPl.out w0 hC0 _ (by assumption)).mono ?_
                                      rintro e w8 ⟨rfl, hb8⟩
                                      exact ⟨rfl, hC0.trans (hb8.mono hC0.size)⟩)
                                   go_big_quiet_on)
                                | (apply Exists.intro
                                   refine ⟨fun w0 hC0 => ?_, ?_⟩
                                   · (go_at_call 80
                                      refine (HFr.out w0 hC0).mono ?_
                                      rintro e w8 ⟨rfl, hb8⟩
                                      exact ⟨rfl, hC0.trans (hb8.mono hC0.size)⟩)
                                   go_big_quiet_on)
                                | (apply Exists.intro
                                   refine ⟨fun w0 hC0 => ?_, ?_⟩
                                   · (have b0 := (hC0.cell (p := ⟨w.heap.size, 0, none⟩) qB).trans b0
                                      have b1 := (hC0.cell (p := ⟨w.heap.size, 1, none⟩) qB).trans b1
                                      have b2 := (hC0.cell (p := ⟨w.heap.size, 2, none⟩) qB).trans b2
                                      have b3 := (hC0.cell (p := ⟨w.heap.size, 3, none⟩) qB).trans b3
                                      have b4 := (hC0.cell (p := ⟨w.heap.size, 4, none⟩) qB).trans b4
                                      have b5 := (hC0.cell (p := ⟨w.heap.size, 5, none⟩) qB).trans b5
                                      have b6 := (hC0.cell (p := ⟨w.heap.size, 6, none⟩) qB).trans b6
                                      have b7 := (hC0.cell (p := ⟨w.heap.size, 7, none⟩) qB).trans b7
                                      have d0 := (hC0.cell (p := a9.add q) qA0).trans d0
                                      go_simp
                                      rfl)
                                   go_big_quiet_on)))
                          refine wpQuiet_nil ?_
                          intro w8 hb8
                          obtain ⟨r1, r2, r3, f1, f2, f3⟩ := (Hr.out.step hb8).resF
                          go_wp2_with fail
                          obtain ⟨hB, hW⟩ := ((Hr.out.step hb8)).ret (.int .i64 36) (.int .i64 6) (.int .i64 (k : Int))
                          obtain ⟨s1, s2, s3, -, -, -⟩ := wrong_facts hB
                          refine bodyPost_ret (v := .agg #[.int .i64 36, .int .i64 6, .int .i64 (k : Int)]) ?_ rfl ⟨?_, hW⟩
                          · simp [results, Tryz.results37, go_sem, s1, s2, s3]
                          · rw [show tosW T = some (36, 6, (k : Int)) by unfold tosW; rw [HN0.out, HN1.out, HN2.out, Hno.out.found Hm.out (by rw [H0.out]; decide) 6, H0.out]; first | done | rfl]
                            rfl
                        · have Hz2 : Hid (¬ 0 ≤ z) := Lib.hid hz
                          go_wp2_with fail
                          refine wp_region_below (by kernel_rfl) (by kernel_rfl) ?_
                          repeat (first
                            | go_big_quiet_skip
                            | (go_big_quiet_want; go_big_quiet_op; first
                                | go_big_quiet_on
                                | (refine ⟨_, fun _ _ => rfl, ?_⟩; go_big_quiet_on)
                                | (apply Exists.intro
                                   refine ⟨fun w0 hC0 => ?_, ?_⟩
                                   · (go_at_call 86
                                      refine (HPl.out w0 hC0 _ (by assumption)).mono ?_
                                      rintro e w8 ⟨rfl, hb8⟩
                                      exact ⟨rfl, hC0.trans (hb8.mono hC0.size)⟩)
                                   go_big_quiet_on)
                                | (apply Exists.intro
                                   refine ⟨fun w0 hC0 => ?_, ?_⟩
                                   · (go_at_call 80
                                      refine (HFr.out w0 hC0).mono ?_
                                      rintro e w8 ⟨rfl, hb8⟩
                                      exact ⟨rfl, hC0.trans (hb8.mono hC0.size)⟩)
                                   go_big_quiet_on)
                                | (apply Exists.intro
                                   refine ⟨fun w0 hC0 => ?_, ?_⟩
                                   · (have b0 := (hC0.cell (p := ⟨w.heap.size, 0, none⟩) qB).trans b0
                                      have b1 := (hC0.cell (p := ⟨w.heap.size, 1, none⟩) qB).trans b1
                                      have b2 := (hC0.cell (p := ⟨w.heap.size, 2, none⟩) qB).trans b2
                                      have b3 := (hC0.cell (p := ⟨w.heap.size, 3, none⟩) qB).trans b3
                                      have b4 := (hC0.cell (p := ⟨w.heap.size, 4, none⟩) qB).trans b4
                                      have b5 := (hC0.cell (p := ⟨w.heap.size, 5, none⟩) qB).trans b5
                                      have b6 := (hC0.cell (p := ⟨w.heap.size, 6, none⟩) qB).trans b6
                                      have b7 := (hC0.cell (p := ⟨w.heap.size, 7, none⟩) qB).trans b7
                                      have d0 := (hC0.cell (p := a9.add q) qA0).trans d0
                                      go_simp
                                      rfl)
                                   go_big_quiet_on)))
                          refine wpQuiet_nil ?_
                          intro w8 hb8
                          go_wp2_with fail
                          go_roundw
                          case rel => exact ⟨q + 1, by omega, by go_num, by rw [Hs.out, Hany.out]; have := Hz2.out; have ez := Hz.out; simp [Hp.out]; omega, Hr.out.step hb8, below_trans Hbw.out hb8⟩
                          case measure => simp [intOf]; omega
                    · have hqn : nr = q := by omega
                      subst hqn
                      have H0 : Hid (tosL T k m = 0) := Lib.hid (by rw [Hf.out, if_neg (by rw [take_all Hany.out Hnr.out]; simp)])
                      clear hany hrs hbw
                      go_wp2_with fail
                      go_roundw
                      case rel => exact ⟨k + 1, by omega, by go_num, Hno.out.succ Hm.out H0.out, Hr.out⟩
                      case measure => simp [intOf]; omega
                · have hkn : n5 = k := by omega
                  subst hkn
                  have HN3 : Hid (scan (tosL T) 6 0 T.looks = none) := Lib.hid (NoneTo.all (by rw [HLn5.out]; exact Hno.out) 6)
                  obtain ⟨r1, r2, r3, f1, f2, f3⟩ := Hr.out.resF
                  clear Hno hno hrs
                  go_wp2_with fail
                  obtain ⟨hB, hW⟩ := (Hr.out).ret (.int .i64 0) (.int .i64 0) (.int .i64 0)
                  obtain ⟨s1, s2, s3, -, -, -⟩ := wrong_facts hB
                  refine bodyPost_ret (v := .agg #[.int .i64 0, .int .i64 0, .int .i64 0]) ?_ rfl ⟨?_, hW⟩
                  · simp [results, Tryz.results37, go_sem, s1, s2, s3]
                  · rw [show tosW T = none by unfold tosW; rw [HN0.out, HN1.out, HN2.out, HN3.out]; first | done | rfl]
                    rfl

end Go.Proofs.YtjmkdimbbacnfaaGreatDoor
