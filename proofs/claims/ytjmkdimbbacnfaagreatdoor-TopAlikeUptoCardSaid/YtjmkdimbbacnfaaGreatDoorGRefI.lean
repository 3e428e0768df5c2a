/- guiseref6: drops. (Printed by gen_drops.py.) guiseref6: chain. guiseref6: pairs. (Printed by gen_pairs.py.) -/
import Derived.Test.YtjmkdimbbacnfaaGreatDoorGRefF
import Derived.Test.YtjmkdimbbacnfaaGreatDoorGQuiet
namespace Go.Proofs.YtjmkdimbbacnfaaGreatDoor
section
open Go.RowKit
set_option linter.unusedVariables false
def dropM (T : Tab) (_ : Nat) (m : MarkT) : Int := if ofL m.r T.drops = true then 37 else 0
def dropP (T : Tab) (_ : Nat) (p : PairT) : Int := if ofL p.whole T.drops = true ∨ ofL p.base T.drops = true ∨ ofL p.mark T.drops = true then 37 else 0
def dropF (T : Tab) (_ : Nat) (m : MapT) : Int := if ofL m.frm T.drops = true then 37 else 0
def dropsW (T : Tab) : Option (Int × Int × Int) :=
  orW (scan (dropM T) 3 0 T.marks) (orW (scan (dropP T) 4 0 T.pairs) (orW (scan (dropF T) 5 0 T.folds) (scan (dropF T) 6 0 T.looks)))

set_option maxRecDepth 100000 in
set_option maxHeartbeats 8000000 in
theorem ref_drops {w : World} {v0 v1 v2 v3 v4 v5 v6 v7 : Value} (T : Tab) (h : TabAt w v0 v1 v2 v3 v4 v5 v6 v7 T) (hok : TabOk T) :
    Calls Tryz.prog 36 #[.agg #[v0, v1, v2, v3, v4, v5, v6, v7]] w fun e w' => e = .returned (wrongV (dropsW T)) ∧ Below w.heap.size w w' := by
  have HO := Lib.hid hok
  obtain ⟨A2, c2, rfl, hn2⟩ := h.marks.form
  obtain ⟨A3, c3, rfl, hn3⟩ := h.pairs.form
  obtain ⟨A4, c4, rfl, hn4⟩ := h.folds.form
  obtain ⟨A5, c5, rfl, hn5⟩ := h.looks.form
  have HT := Lib.hid h
  obtain ⟨n2, hln2⟩ : ∃ n, T.marks.length = n := ⟨_, rfl⟩
  rw [hln2] at HT hn2
  rw [hln2]
  have HLn2 := Lib.hid hln2
  clear hln2
  obtain ⟨n3, hln3⟩ : ∃ n, T.pairs.length = n := ⟨_, rfl⟩
  rw [hln3] at HT hn3
  rw [hln3]
  have HLn3 := Lib.hid hln3
  clear hln3
  obtain ⟨n4, hln4⟩ : ∃ n, T.folds.length = n := ⟨_, rfl⟩
  rw [hln4] at HT hn4
  rw [hln4]
  have HLn4 := Lib.hid hln4
  clear hln4
  obtain ⟨n5, hln5⟩ : ∃ n, T.looks.length = n := ⟨_, rfl⟩
  rw [hln5] at HT hn5
  rw [hln5]
  have HLn5 := Lib.hid hln5
  clear hln5
  clear h hok
  go_enter Tryz.func36, Tryz.ntmps36
  go_wp2_with fail
  go_loopw [3] (fun i wr => ∃ k : Nat, k ≤ n2 ∧ i = .int .i64 (k : Int) ∧ NoneTo (dropM T) T.marks k ∧ RS w v0 v1 (.slice A2 n2 c2) (.slice A3 n3 c3) (.slice A4 n4 c4) (.slice A5 n5 c5) v6 v7 wr) (fun i _ => n2 - (intOf i).toNat)
  case atStart => exact ⟨0, Nat.zero_le _, rfl, NoneTo.zero _ _, RS.start _ _ _ _ _ _ _ _ _⟩
  case round =>
    obtain ⟨k, hk, rfl, hno, hrs⟩ := hrel
    have Hno := Lib.hid hno
    have Hr := Lib.hid hrs
    obtain ⟨b0, b1, b2, b3, b4, b5, b6, b7⟩ := hrs.boxF
    by_cases hlt : k < n2
    · obtain ⟨m, hm⟩ : ∃ m, T.marks[k]? = some m := ⟨_, List.getElem?_eq_getElem (by rw [HLn2.out]; exact hlt)⟩
      obtain ⟨a, rfl, e0, e1⟩ := el2 HT.out.marks hrs.below hm rfl
      have Hm := Lib.hid hm
      have k0 : (0 : Int) ≤ (k : Int) := by omega
      have k1 : (k : Int) < (n2 : Int) := by omega
      have hfi := fun r q b (hb : ofL r T.drops = b) => (ref_Of T.drops ((HT.out.drops.below hrs.below).below (below_dr wr q)) r).mono (R' := fun e w' => e = .returned (.bool b) ∧ ∃ m, w' = (wr.drewN q).drewN m) (fun e w' h => ⟨by rw [← hb]; exact h.1, h.2.elim fun q h => ⟨q, h.symm⟩⟩)
      have HF := Lib.hid hfi
      clear hno hrs hm hfi
      cases hr : ofL m.r T.drops with
      | true =>
        have H0 : Hid (dropM T k m = 37) := Lib.hid (by unfold dropM; rw [if_pos hr])
        obtain ⟨r1, r2, r3, f1, f2, f3⟩ := Hr.out.resF
        go_wp2_with fail
        go_quiet ((go_at_call 83; refine Calls.quiet_of (HF.out _ _ _ (by assumption))))
        go_wp2_with fail
        obtain ⟨hB, hW⟩ := ((Hr.out.step (below_dr wr nq))).ret (.int .i64 37) (.int .i64 3) (.int .i64 (k : Int))
        obtain ⟨s1, s2, s3, -, -, -⟩ := wrong_facts hB
        refine bodyPost_ret (v := .agg #[.int .i64 37, .int .i64 3, .int .i64 (k : Int)]) ?_ rfl ⟨?_, hW⟩
        · simp [results, Tryz.results36, go_sem, s1, s2, s3]
        · rw [show dropsW T = some (37, 3, (k : Int)) by unfold dropsW; rw [Hno.out.found Hm.out (by rw [H0.out]; decide) 3, H0.out]; first | done | rfl]
          rfl
      | false =>
        have H0 : Hid (dropM T k m = 0) := Lib.hid (by unfold dropM; rw [if_neg (by rw [hr]; simp)])
        go_wp2_with fail
        go_quiet ((go_at_call 83; refine Calls.quiet_of (HF.out _ _ _ (by assumption))))
        go_wp2_with fail
        go_roundw
        case rel => exact ⟨k + 1, by omega, by go_num, Hno.out.succ Hm.out H0.out, Hr.out.step (below_dr wr nq)⟩
        case measure => simp [intOf]; omega
    · have hkn : n2 = k := by omega
      subst hkn
      have HN0 : Hid (scan (dropM T) 3 0 T.marks = none) := Lib.hid (NoneTo.all (by rw [HLn2.out]; exact Hno.out) 3)
      clear Hno hno hrs
      go_wp2_with fail
      clear b0 b1 b2 b3 b4 b5 b6 b7
      go_loopw [4] (fun i wr => ∃ k : Nat, k ≤ n3 ∧ i = .int .i64 (k : Int) ∧ NoneTo (dropP T) T.pairs k ∧ RS w v0 v1 (.slice A2 n2 c2) (.slice A3 n3 c3) (.slice A4 n4 c4) (.slice A5 n5 c5) v6 v7 wr) (fun i _ => n3 - (intOf i).toNat)
      case atStart => exact ⟨0, Nat.zero_le _, rfl, NoneTo.zero _ _, Hr.out⟩
      case round =>
        clear Hr
        obtain ⟨k, hk, rfl, hno, hrs⟩ := hrel
        have Hno := Lib.hid hno
        have Hr := Lib.hid hrs
        obtain ⟨b0, b1, b2, b3, b4, b5, b6, b7⟩ := hrs.boxF
        by_cases hlt : k < n3
        · obtain ⟨m, hm⟩ : ∃ m, T.pairs[k]? = some m := ⟨_, List.getElem?_eq_getElem (by rw [HLn3.out]; exact hlt)⟩
          obtain ⟨a, rfl, e0, e1, e2⟩ := el3 HT.out.pairs hrs.below hm rfl
          have Hm := Lib.hid hm
          have k0 : (0 : Int) ≤ (k : Int) := by omega
          have k1 : (k : Int) < (n3 : Int) := by omega
          have hfi := fun r q b (hb : ofL r T.drops = b) => (ref_Of T.drops ((HT.out.drops.below hrs.below).below (below_dr wr q)) r).mono (R' := fun e w' => e = .returned (.bool b) ∧ ∃ m, w' = (wr.drewN q).drewN m) (fun e w' h => ⟨by rw [← hb]; exact h.1, h.2.elim fun q h => ⟨q, h.symm⟩⟩)
          have HF := Lib.hid hfi
          clear hno hrs hm hfi
          cases hr0 : ofL m.whole T.drops with
          | true =>
            have H0 : Hid (dropP T k m = 37) := Lib.hid (by unfold dropP; rw [if_pos (.inl hr0)])
            obtain ⟨r1, r2, r3, f1, f2, f3⟩ := Hr.out.resF
            go_wp2_with fail
            go_quiet ((go_at_call 83; refine Calls.quiet_of (HF.out _ _ _ (by assumption))))
            go_wp2_with fail
            obtain ⟨hB, hW⟩ := ((Hr.out.step (below_dr wr nq))).ret (.int .i64 37) (.int .i64 4) (.int .i64 (k : Int))
            obtain ⟨s1, s2, s3, -, -, -⟩ := wrong_facts hB
            refine bodyPost_ret (v := .agg #[.int .i64 37, .int .i64 4, .int .i64 (k : Int)]) ?_ rfl ⟨?_, hW⟩
            · simp [results, Tryz.results36, go_sem, s1, s2, s3]
            · rw [show dropsW T = some (37, 4, (k : Int)) by unfold dropsW; rw [HN0.out, Hno.out.found Hm.out (by rw [H0.out]; decide) 4, H0.out]; first | done | rfl]
              rfl
          | false =>
            cases hr1 : ofL m.base T.drops with
            | true =>
              have H0 : Hid (dropP T k m = 37) := Lib.hid (by unfold dropP; rw [if_pos (.inr (.inl hr1))])
              obtain ⟨r1, r2, r3, f1, f2, f3⟩ := Hr.out.resF
              go_wp2_with fail
              go_quiet ((go_at_call 83; refine Calls.quiet_of (HF.out _ _ _ (by assumption))))
              go_wp2_with fail
              obtain ⟨hB, hW⟩ := ((Hr.out.step (below_dr wr nq))).ret (.int .i64 37) (.int .i64 4) (.int .i64 (k : Int))
              obtain ⟨s1, s2, s3, -, -, -⟩ := wrong_facts hB
              refine bodyPost_ret (v := .agg #[.int .i64 37, .int .i64 4, .int .i64 (k : Int)]) ?_ rfl ⟨?_, hW⟩
              · simp [results, Tryz.results36, go_sem, s1, s2, s3]
              · rw [show dropsW T = some (37, 4, (k : Int)) by unfold dropsW; rw [HN0.out, Hno.out.found Hm.out (by rw [H0.out]; decide) 4, H0.out]; first | done | rfl]
                rfl
            | false =>
              cases hr2 : ofL m.mark T.drops with
              | true =>
                have H0 : Hid (dropP T k m = 37) := Lib.hid (by unfold dropP; rw [if_pos (.inr (.inr hr2))])
                obtain ⟨r1, r2, r3, f1, f2, f3⟩ := Hr.out.resF
                go_wp2_with fail
                go_quiet ((go_at_call 83; refine Calls.quiet_of (HF.out _ _ _ (by assumption))))
                go_wp2_with fail
                obtain ⟨hB, hW⟩ := ((Hr.out.step (below_dr wr nq))).ret (.int .i64 37) (.int .i64 4) (.int .i64 (k : Int))
                obtain ⟨s1, s2, s3, -, -, -⟩ := wrong_facts hB
                refine bodyPost_ret (v := .agg #[.int .i64 37, .int .i64 4, .int .i64 (k : Int)]) ?_ rfl ⟨?_, hW⟩
                · simp [results, Tryz.results36, go_sem, s1, s2, s3]
                · rw [show dropsW T = some (37, 4, (k : Int)) by unfold dropsW; rw [HN0.out, Hno.out.found Hm.out (by rw [H0.out]; decide) 4, H0.out]; first | done | rfl]
                  rfl
              | false =>
                have H0 : Hid (dropP T k m = 0) := Lib.hid (by unfold dropP; rw [if_neg (by rw [hr0, hr1, hr2]; simp)])
                go_wp2_with fail
                go_quiet ((go_at_call 83; refine Calls.quiet_of (HF.out _ _ _ (by assumption))))
                go_wp2_with fail
                go_roundw
                case rel => exact ⟨k + 1, by omega, by go_num, Hno.out.succ Hm.out H0.out, Hr.out.step (below_dr wr nq)⟩
                case measure => simp [intOf]; omega
        · have hkn : n3 = k := by omega
          subst hkn
          have HN1 : Hid (scan (dropP T) 4 0 T.pairs = none) := Lib.hid (NoneTo.all (by rw [HLn3.out]; exact Hno.out) 4)
          clear Hno hno hrs
          go_wp2_with fail
          clear b0 b1 b2 b3 b4 b5 b6 b7
          go_loopw [5] (fun i wr => ∃ k : Nat, k ≤ n4 ∧ i = .int .i64 (k : Int) ∧ NoneTo (dropF T) T.folds k ∧ RS w v0 v1 (.slice A2 n2 c2) (.slice A3 n3 c3) (.slice A4 n4 c4) (.slice A5 n5 c5) v6 v7 wr) (fun i _ => n4 - (intOf i).toNat)
          case atStart => exact ⟨0, Nat.zero_le _, rfl, NoneTo.zero _ _, Hr.out⟩
          case round =>
            clear Hr
            obtain ⟨k, hk, rfl, hno, hrs⟩ := hrel
            have Hno := Lib.hid hno
            have Hr := Lib.hid hrs
            obtain ⟨b0, b1, b2, b3, b4, b5, b6, b7⟩ := hrs.boxF
            by_cases hlt : k < n4
            · obtain ⟨m, hm⟩ : ∃ m, T.folds[k]? = some m := ⟨_, List.getElem?_eq_getElem (by rw [HLn4.out]; exact hlt)⟩
              obtain ⟨a, rfl, e0, e1⟩ := el2 HT.out.folds hrs.below hm rfl
              have Hm := Lib.hid hm
              have k0 : (0 : Int) ≤ (k : Int) := by omega
              have k1 : (k : Int) < (n4 : Int) := by omega
              have hfi := fun r q b (hb : ofL r T.drops = b) => (ref_Of T.drops ((HT.out.drops.below hrs.below).below (below_dr wr q)) r).mono (R' := fun e w' => e = .returned (.bool b) ∧ ∃ m, w' = (wr.drewN q).drewN m) (fun e w' h => ⟨by rw [← hb]; exact h.1, h.2.elim fun q h => ⟨q, h.symm⟩⟩)
              have HF := Lib.hid hfi
              clear hno hrs hm hfi
              cases hr : ofL m.frm T.drops with
              | true =>
                have H0 : Hid (dropF T k m = 37) := Lib.hid (by unfold dropF; rw [if_pos hr])
                obtain ⟨r1, r2, r3, f1, f2, f3⟩ := Hr.out.resF
                go_wp2_with fail
                go_quiet ((go_at_call 83; refine Calls.quiet_of (HF.out _ _ _ (by assumption))))
                go_wp2_with fail
                obtain ⟨hB, hW⟩ := ((Hr.out.step (below_dr wr nq))).ret (.int .i64 37) (.int .i64 5) (.int .i64 (k : Int))
                obtain ⟨s1, s2, s3, -, -, -⟩ := wrong_facts hB
                refine bodyPost_ret (v := .agg #[.int .i64 37, .int .i64 5, .int .i64 (k : Int)]) ?_ rfl ⟨?_, hW⟩
                · simp [results, Tryz.results36, go_sem, s1, s2, s3]
                · rw [show dropsW T = some (37, 5, (k : Int)) by unfold dropsW; rw [HN0.out, HN1.out, Hno.out.found Hm.out (by rw [H0.out]; decide) 5, H0.out]; first | done | rfl]
                  rfl
              | false =>
                have H0 : Hid (dropF T k m = 0) := Lib.hid (by unfold dropF; rw [if_neg (by rw [hr]; simp)])
                go_wp2_with fail
                go_quiet ((go_at_call 83; refine Calls.quiet_of (HF.out _ _ _ (by assumption))))
                go_wp2_with fail
                go_roundw
                case rel => exact ⟨k + 1, by omega, by go_num, Hno.out.succ Hm.out H0.out, Hr.out.step (below_dr wr nq)⟩
                case measure => simp [intOf]; omega
            · have hkn : n4 = k := by omega
              subst hkn
              have HN2 : Hid (scan (dropF T) 5 0 T.folds = none) := Lib.hid (NoneTo.all (by rw [HLn4.out]; exact Hno.out) 5)
              clear Hno hno hrs
              go_wp2_with fail
              clear b0 b1 b2 b3 b4 b5 b6 b7
              go_loopw [6] (fun i wr => ∃ k : Nat, k ≤ n5 ∧ i = .int .i64 (k : Int) ∧ NoneTo (dropF T) T.looks k ∧ RS w v0 v1 (.slice A2 n2 c2) (.slice A3 n3 c3) (.slice A4 n4 c4) (.slice A5 n5 c5) v6 v7 wr) (fun i _ => n5 - (intOf i).toNat)
              case atStart => exact ⟨0, Nat.zero_le _, rfl, NoneTo.zero _ _, Hr.out⟩
              case round =>
                clear Hr
                obtain ⟨k, hk, rfl, hno, hrs⟩ := hrel
                have Hno := Lib.hid hno
                have Hr := Lib.hid hrs
                obtain ⟨b0, b1, b2, b3, b4, b5, b6, b7⟩ := hrs.boxF
                by_cases hlt : k < n5
                · obtain ⟨m, hm⟩ : ∃ m, T.looks[k]? = some m := ⟨_, List.getElem?_eq_getElem (by rw [HLn5.out]; exact hlt)⟩
                  obtain ⟨a, rfl, e0, e1⟩ := el2 HT.out.looks hrs.below hm rfl
                  have Hm := Lib.hid hm
                  have k0 : (0 : Int) ≤ (k : Int) := by omega
                  have k1 : (k : Int) < (n5 : Int) := by omega
                  have hfi := fun r q b (hb : ofL r T.drops = b) => (ref_Of T.drops ((HT.out.drops.below hrs.below).below (below_dr wr q)) r).mono (R' := fun e w' => e = .returned (.bool b) ∧ ∃ m, w' = (wr.drewN q).drewN m) (fun e w' h => ⟨by rw [← hb]; exact h.1, h.2.elim fun q h => ⟨q, h.symm⟩⟩)
                  have HF := Lib.hid hfi
                  clear hno hrs hm hfi
                  cases hr : ofL m.frm T.drops with
                  | true =>
                    have H0 : Hid (dropF T k m = 37) := Lib.hid (by unfold dropF; rw [if_pos hr])
                    obtain ⟨r1, r2, r3, f1, f2, f3⟩ := Hr.out.resF
                    go_wp2_with fail
                    go_quiet ((go_at_call 83; refine Calls.quiet_of (HF.out _ _ _ (by assumption))))
                    go_wp2_with fail
                    obtain ⟨hB, hW⟩ := ((Hr.out.step (below_dr wr nq))).ret (.int .i64 37) (.int .i64 6) (.int .i64 (k : Int))
                    obtain ⟨s1, s2, s3, -, -, -⟩ := wrong_facts hB
                    refine bodyPost_ret (v := .agg #[.int .i64 37, .int .i64 6, .int .i64 (k : Int)]) ?_ rfl ⟨?_, hW⟩
                    · simp [results, Tryz.results36, go_sem, s1, s2, s3]
                    · rw [show dropsW T = some (37, 6, (k : Int)) by unfold dropsW; rw [HN0.out, HN1.out, HN2.out, Hno.out.found Hm.out (by rw [H0.out]; decide) 6, H0.out]; first | done | rfl]
                      rfl
                  | false =>
                    have H0 : Hid (dropF T k m = 0) := Lib.hid (by unfold dropF; rw [if_neg (by rw [hr]; simp)])
                    go_wp2_with fail
                    go_quiet ((go_at_call 83; refine Calls.quiet_of (HF.out _ _ _ (by assumption))))
                    go_wp2_with fail
                    go_roundw
                    case rel => exact ⟨k + 1, by omega, by go_num, Hno.out.succ Hm.out H0.out, Hr.out.step (below_dr wr nq)⟩
                    case measure => simp [intOf]; omega
                · have hkn : n5 = k := by omega
                  subst hkn
                  have HN3 : Hid (scan (dropF T) 6 0 T.looks = none) := Lib.hid (NoneTo.all (by rw [HLn5.out]; exact Hno.out) 6)
                  obtain ⟨r1, r2, r3, f1, f2, f3⟩ := Hr.out.resF
                  clear Hno hno hrs
                  go_wp2_with fail
                  obtain ⟨hB, hW⟩ := (Hr.out).ret (.int .i64 0) (.int .i64 0) (.int .i64 0)
                  obtain ⟨s1, s2, s3, -, -, -⟩ := wrong_facts hB
                  refine bodyPost_ret (v := .agg #[.int .i64 0, .int .i64 0, .int .i64 0]) ?_ rfl ⟨?_, hW⟩
                  · simp [results, Tryz.results36, go_sem, s1, s2, s3]
                  · rw [show dropsW T = none by unfold dropsW; rw [HN0.out, HN1.out, HN2.out, HN3.out]; first | done | rfl]
                    rfl

end
section
open Go.RowKit
set_option linter.unusedVariables false
/-- the row of a whole, -1: none -/
def wholeI (l : List PairT) (r : Int) : Int := firstI l fun p => decide (p.whole = r)
theorem wholeI_lt {l : List PairT} {r : Int} : -1 ≤ wholeI l r ∧ wholeI l r < l.length := by
  unfold wholeI firstI
  cases h : l.findIdx? _ with
  | none => exact ⟨Int.le_refl _, by show (-1 : Int) < _; omega⟩
  | some j =>
    have := (List.findIdx?_eq_some_iff_getElem.1 h).1
    exact ⟨by show (-1 : Int) ≤ (j : Int); omega, by show (j : Int) < _; omega⟩
def chainGo (l : List PairT) : Nat → Nat → Nat → Int
  | 0, _, _ => -1
  | f + 1, n, i => if wholeI l ((l[i]?.map (·.base)).getD 0) < 0 then (n : Int) else chainGo l f (n + 1) (wholeI l ((l[i]?.map (·.base)).getD 0)).toNat
def chainOf (l : List PairT) (i : Nat) : Int := chainGo l l.length 1 i

set_option maxRecDepth 100000 in
set_option maxHeartbeats 4000000 in
theorem ref_chain {w : World} {v0 v1 v2 v3 v4 v5 v6 v7 : Value} (l : List PairT) (h : ListAt w v3 3 (l.map encPair)) (i : Nat) (hi : i < l.length) :
    Calls Tryz.prog 82 #[.agg #[v0, v1, v2, v3, v4, v5, v6, v7], .int .i64 (i : Int)] w fun e w' => e = .returned (.int .i64 (chainOf l i)) ∧ Below w.heap.size w w' := by
  have HL := Lib.hid h
  obtain ⟨A, c, rfl, hn⟩ := ListAt.form h
  obtain ⟨n, hln⟩ : ∃ n, l.length = n := ⟨_, rfl⟩
  rw [hln] at hn hi HL
  rw [hln]
  have Hl := Lib.hid hln
  have Hx : Hid (chainOf l i = chainGo l n 1 i) := Lib.hid (by unfold chainOf; rw [hln])
  clear hln h
  go_enter Tryz.func82, Tryz.ntmps82
  go_wp2_with fail
  go_loopw [1, 5] (fun iv nv wr => ∃ k m : Nat, k ≤ n ∧ m < n ∧ nv = .int .i64 ((k : Int) + 1) ∧ iv = .int .i64 (m : Int) ∧ chainOf l i = chainGo l (n - k) (k + 1) m ∧ Below w.heap.size w wr ∧ Blk wr w.heap.size 28 #[v0, v1, v2, .slice A n c, v4, v5, v6, v7]) (fun _ nv _ => n + 1 - (intOf nv).toNat)
  case atStart => exact ⟨0, i, Nat.zero_le _, hi, rfl, rfl, Hx.out, (Below.refl _ w).alloc (Nat.le_refl _) _, Blk.new w _ _⟩
  case round =>
    obtain ⟨k, m, hk, hm, rfl, rfl, hch, hb, hbx⟩ := hrel
    have Hch := Lib.hid hch
    have Hb := Lib.hid hb
    have Hbx := Lib.hid hbx
    have b0 := hbx.cell 0
    have b1 := hbx.cell 1
    have b2 := hbx.cell 2
    have b3 := hbx.cell 3
    have b4 := hbx.cell 4
    have b5 := hbx.cell 5
    have b6 := hbx.cell 6
    have b7 := hbx.cell 7
    have qB := hbx.lt
    simp only [List.getElem?_toArray, List.getElem?_cons_zero, List.getElem?_cons_succ] at b0 b1 b2 b3 b4 b5 b6 b7
    clear hch
    by_cases hlt : k < n
    · obtain ⟨p, hp⟩ : ∃ p, l[m]? = some p := ⟨_, List.getElem?_eq_getElem (by rw [Hl.out]; exact hm)⟩
      obtain ⟨a, rfl, e0, e1, e2⟩ := el3 HL.out hb hp rfl
      have qA := World.block_lt_of_cell? wr _ e1
      have HW := Lib.hid (fun w0 (hC : Below wr.heap.size wr w0) => ref_Whole (v0 := v0) (v1 := v1) (v2 := v2) (v4 := v4) (v5 := v5) (v6 := v6) (v7 := v7) l ((HL.out.below Hb.out).below hC) p.base)
      obtain ⟨z1, z2⟩ := wholeI_lt (l := l) (r := p.base)
      have hstep : chainGo l (n - k) (k + 1) m = if wholeI l p.base < 0 then ((k + 1 : Nat) : Int) else chainGo l (n - (k + 1)) (k + 1 + 1) (wholeI l p.base).toNat := by
        rw [show n - k = (n - (k + 1)) + 1 by omega]
        show (if wholeI l ((l[m]?.map (·.base)).getD 0) < 0 then _ else _) = _
        rw [hp]
        rfl
      have Hst := Lib.hid hstep
      change Hid (∀ w0 (hC : Below wr.heap.size wr w0), Calls Tryz.prog 84 #[.agg #[v0, v1, v2, .slice (some a) n c, v4, v5, v6, v7], .int .i32 p.base] w0 fun e w' => e = .returned (.int .i64 (wholeI l p.base)) ∧ Below w0.heap.size w0 w') at HW
      generalize wholeI l p.base = z at *
      rw [Hl.out] at z2
      have k1 : (k : Int) + 1 ≤ (n : Int) := by omega
      have m0 : (0 : Int) ≤ (m : Int) := by omega
      have m1 : (m : Int) < (n : Int) := by omega
      clear hb hbx hp hstep e0 e2
      go_wp2_with fail
      refine wp_region_below (by kernel_rfl) (by kernel_rfl) ?_
      repeat (first
        | go_big_quiet_skip
        | (go_big_quiet_want; go_big_quiet_op; first
            | go_big_quiet_on
            | (refine ⟨_, fun _ _ => rfl, ?_⟩; go_big_quiet_on)
            | (apply Exists.intro
               refine ⟨fun w0 hC0 => ?_, ?_⟩
               · (go_at_call 84
                  refine (HW.out w0 hC0).mono ?_
                  rintro e w8 ⟨rfl, hb8⟩
                  exact ⟨rfl, hC0.trans (hb8.mono hC0.size)⟩)
               go_big_quiet_on)
            | (apply Exists.intro
               refine ⟨fun w0 hC0 => ?_, ?_⟩
               · (have b0 := (hC0.cell (p := ⟨w.heap.size, 0, none⟩) qB).trans b0
                  have b1 := (hC0.cell (p := ⟨w.heap.size, 1, none⟩) qB).trans b1
                  have b2 := (hC0.cell (p := ⟨w.heap.size, 2, none⟩) qB).trans b2
                  have b3 := (hC0.cell (p := ⟨w.heap.size, 3, none⟩) qB).trans b3
                  have b4 := (hC0.cell (p := ⟨w.heap.size, 4, none⟩) qB).trans b4
                  have b5 := (hC0.cell (p := ⟨w.heap.size, 5, none⟩) qB).trans b5
                  have b6 := (hC0.cell (p := ⟨w.heap.size, 6, none⟩) qB).trans b6
                  have b7 := (hC0.cell (p := ⟨w.heap.size, 7, none⟩) qB).trans b7
                  have e1 := (hC0.cell (p := ⟨(a.add (m * 3)).block, (a.add (m * 3)).off + 1, none⟩) qA).trans e1
                  go_simp
                  rfl)
               go_big_quiet_on)))
      refine wpQuiet_nil ?_
      intro w8 hb8
      by_cases hz : z < 0
      · go_wp2_with fail
        go_ret
        exact ⟨by rw [Hch.out, Hst.out, if_pos hz]; rfl, below_trans Hb.out hb8⟩
      · go_wp2_with fail
        go_roundw
        case rel => exact ⟨k + 1, z.toNat, by omega, by omega, by go_num, by rw [Int.toNat_of_nonneg (by omega)], by rw [Hch.out, Hst.out, if_neg hz], below_trans Hb.out hb8, Hbx.out.below hb8⟩
        case measure => simp [intOf]; omega
    · have hkn : n = k := by omega
      subst hkn
      have k1 : ¬ (n : Int) + 1 ≤ (n : Int) := by omega
      go_wp2_with fail
      go_ret
      exact ⟨by rw [Hch.out, Nat.sub_self]; rfl, Hb.out⟩

end
section
open Go.RowKit
set_option linter.unusedVariables false
def pairM (T : Tab) (_ : Nat) (p : PairT) : Int := if markL T.marks p.whole = true ∨ markL T.marks p.base = true ∨ markL T.marks p.mark = false then 32 else 0
def chainAt (T : Tab) (i : Nat) (_ : PairT) : Int := if chainOf T.pairs i < 0 then 33 else if 4 < chainOf T.pairs i then 34 else 0
def pairsW (T : Tab) : Option (Int × Int × Int) := orW (scan (pairM T) 4 0 T.pairs) (scan (chainAt T) 4 0 T.pairs)

set_option maxRecDepth 100000 in
set_option maxHeartbeats 8000000 in
theorem ref_pairs {w : World} {v0 v1 v2 v3 v4 v5 v6 v7 : Value} (T : Tab) (h : TabAt w v0 v1 v2 v3 v4 v5 v6 v7 T) (hok : TabOk T) :
    Calls Tryz.prog 35 #[.agg #[v0, v1, v2, v3, v4, v5, v6, v7]] w fun e w' => e = .returned (wrongV (pairsW T)) ∧ Below w.heap.size w w' := by
  have HO := Lib.hid hok
  obtain ⟨A2, c2, rfl, hn2⟩ := h.marks.form
  obtain ⟨A3, c3, rfl, hn3⟩ := h.pairs.form
  have HT := Lib.hid h
  obtain ⟨n2, hln2⟩ : ∃ n, T.marks.length = n := ⟨_, rfl⟩
  rw [hln2] at HT hn2
  rw [hln2]
  have HLn2 := Lib.hid hln2
  clear hln2
  obtain ⟨n3, hln3⟩ : ∃ n, T.pairs.length = n := ⟨_, rfl⟩
  rw [hln3] at HT hn3
  rw [hln3]
  have HLn3 := Lib.hid hln3
  clear hln3
  clear h hok
  go_enter Tryz.func35, Tryz.ntmps35
  go_wp2_with fail
  go_loopw [3] (fun i wr => ∃ k : Nat, k ≤ n3 ∧ i = .int .i64 (k : Int) ∧ NoneTo (pairM T) T.pairs k ∧ RS w v0 v1 (.slice A2 n2 c2) (.slice A3 n3 c3) v4 v5 v6 v7 wr) (fun i _ => n3 - (intOf i).toNat)
  case atStart => exact ⟨0, Nat.zero_le _, rfl, NoneTo.zero _ _, RS.start _ _ _ _ _ _ _ _ _⟩
  case round =>
    obtain ⟨k, hk, rfl, hno, hrs⟩ := hrel
    have Hno := Lib.hid hno
    have Hr := Lib.hid hrs
    obtain ⟨b0, b1, b2, b3, b4, b5, b6, b7⟩ := hrs.boxF
    by_cases hlt : k < n3
    · obtain ⟨m, hm⟩ : ∃ m, T.pairs[k]? = some m := ⟨_, List.getElem?_eq_getElem (by rw [HLn3.out]; exact hlt)⟩
      obtain ⟨a, rfl, e0, e1, e2⟩ := el3 HT.out.pairs hrs.below hm rfl
      have Hm := Lib.hid hm
      have k0 : (0 : Int) ≤ (k : Int) := by omega
      have k1 : (k : Int) < (n3 : Int) := by omega
      have qA := World.block_lt_of_cell? wr _ e1
      have qA0 := World.block_lt_of_cell? wr _ e0
      have qB := hrs.box.lt
      have hmk := fun w0 (hC : Below wr.heap.size wr w0) r b (hb : markL T.marks r = b) => (ref_mark (v0 := v0) (v1 := v1) (v3 := .slice (some a) n3 c3) (v4 := v4) (v5 := v5) (v6 := v6) (v7 := v7) T.marks ((HT.out.marks.below Hr.out.below).below hC) r).mono (R' := fun e w' => e = .returned (.bool b) ∧ Below w0.heap.size w0 w') (fun e w' h => ⟨by rw [← hb]; exact h.1, h.2⟩)
      have HM := Lib.hid hmk
      clear hno hrs hm hmk
      cases hr0 : markL T.marks m.whole with
      | true =>
        have H0 : Hid (pairM T k m = 32) := Lib.hid (by unfold pairM; rw [if_pos (.inl hr0)])
        go_wp2_with fail
        refine wp_region_below (by kernel_rfl) (by kernel_rfl) ?_
        repeat (first
          | go_big_quiet_skip
          | (go_big_quiet_want; go_big_quiet_op; first
              | go_big_quiet_on
              | (refine ⟨_, fun _ _ => rfl, ?_⟩; go_big_quiet_on)
              | (apply Exists.intro
                 refine ⟨fun w0 hC0 => ?_, ?_⟩
                 · (go_at_call 81
                    refine (HM.out w0 hC0 _ _ (by assumption)).mono ?_
                    rintro e w8 ⟨rfl, hb8⟩
                    exact ⟨rfl, hC0.trans (hb8.mono hC0.size)⟩)
                 go_big_quiet_on)
              | (apply Exists.intro
                 refine ⟨fun w0 hC0 => ?_, ?_⟩
                 · (have b0 := (hC0.cell (p := ⟨w.heap.size, 0, none⟩) qB).trans b0
                    have b1 := (hC0.cell (p := ⟨w.heap.size, 1, none⟩) qB).trans b1
                    have b2 := (hC0.cell (p := ⟨w.heap.size, 2, none⟩) qB).trans b2
                    have b3 := (hC0.cell (p := ⟨w.heap.size, 3, none⟩) qB).trans b3
                    have b4 := (hC0.cell (p := ⟨w.heap.size, 4, none⟩) qB).trans b4
                    have b5 := (hC0.cell (p := ⟨w.heap.size, 5, none⟩) qB).trans b5
                    have b6 := (hC0.cell (p := ⟨w.heap.size, 6, none⟩) qB).trans b6
                    have b7 := (hC0.cell (p := ⟨w.heap.size, 7, none⟩) qB).trans b7
                    have e0 := (hC0.cell (p := a.add (k * 3)) qA0).trans e0
                    have e1 := (hC0.cell (p := ⟨(a.add (k * 3)).block, (a.add (k * 3)).off + 1, none⟩) qA).trans e1
                    have e2 := (hC0.cell (p := ⟨(a.add (k * 3)).block, (a.add (k * 3)).off + 2, none⟩) qA).trans e2
                    go_simp
                    rfl)
                 go_big_quiet_on)))
        refine wpQuiet_nil ?_
        intro w8 hb8
        obtain ⟨r1, r2, r3, f1, f2, f3⟩ := (Hr.out.step hb8).resF
        go_wp2_with fail
        obtain ⟨hB, hW⟩ := ((Hr.out.step hb8)).ret (.int .i64 32) (.int .i64 4) (.int .i64 (k : Int))
        obtain ⟨s1, s2, s3, -, -, -⟩ := wrong_facts hB
        refine bodyPost_ret (v := .agg #[.int .i64 32, .int .i64 4, .int .i64 (k : Int)]) ?_ rfl ⟨?_, hW⟩
        · simp [results, Tryz.results35, go_sem, s1, s2, s3]
        · rw [show pairsW T = some (32, 4, (k : Int)) by unfold pairsW; rw [Hno.out.found Hm.out (by rw [H0.out]; decide) 4, H0.out]; first | done | rfl]
          rfl
      | false =>
        cases hr1 : markL T.marks m.base with
        | true =>
          have H0 : Hid (pairM T k m = 32) := Lib.hid (by unfold pairM; rw [if_pos (.inr (.inl hr1))])
          go_wp2_with fail
          refine wp_region_below (by kernel_rfl) (by kernel_rfl) ?_
          repeat (first
            | go_big_quiet_skip
            | (go_big_quiet_want; go_big_quiet_op; first
                | go_big_quiet_on
                | (refine ⟨_, fun _ _ => rfl, ?_⟩; go_big_quiet_on)
                | (apply Exists.intro
                   refine ⟨fun w0 hC0 => ?_, ?_⟩
                   · (go_at_call 81
                      refine (HM.out w0 hC0 _ _ (by assumption)).mono ?_
                      rintro e w8 ⟨rfl, hb8⟩
                      exact ⟨rfl, hC0.trans (hb8.mono hC0.size)⟩)
                   go_big_quiet_on)
                | (apply Exists.intro
                   refine ⟨fun w0 hC0 => ?_, ?_⟩
                   · (have b0 := (hC0.cell (p := ⟨w.heap.size, 0, none⟩) qB).trans b0
                      have b1 := (hC0.cell (p := ⟨w.heap.size, 1, none⟩) qB).trans b1
                      have b2 := (hC0.cell (p := ⟨w.heap.size, 2, none⟩) qB).trans b2
                      have b3 := (hC0.cell (p := ⟨w.heap.size, 3, none⟩) qB).trans b3
                      have b4 := (hC0.cell (p := ⟨w.heap.size, 4, none⟩) qB).trans b4
                      have b5 := (hC0.cell (p := ⟨w.heap.size, 5, none⟩) qB).trans b5
                      have b6 := (hC0.cell (p := ⟨w.heap.size, 6, none⟩) qB).trans b6
                      have b7 := (hC0.cell (p := ⟨w.heap.size, 7, none⟩) qB).trans b7
                      have e0 := (hC0.cell (p := a.add (k * 3)) qA0).trans e0
                      have e1 := (hC0.cell (p := ⟨(a.add (k * 3)).block, (a.add (k * 3)).off + 1, none⟩) qA).trans e1
                      have e2 := (hC0.cell (p := ⟨(a.add (k * 3)).block, (a.add (k * 3)).off + 2, none⟩) qA).trans e2
                      go_simp
                      rfl)
                   go_big_quiet_on)))
          refine wpQuiet_nil ?_
          intro w8 hb8
          obtain ⟨r1, r2, r3, f1, f2, f3⟩ := (Hr.out.step hb8).resF
          go_wp2_with fail
          obtain ⟨hB, hW⟩ := ((Hr.out.step hb8)).ret (.int .i64 32) (.int .i64 4) (.int .i64 (k : Int))
          obtain ⟨s1, s2, s3, -, -, -⟩ := wrong_facts hB
          refine bodyPost_ret (v := .agg #[.int .i64 32, .int .i64 4, .int .i64 (k : Int)]) ?_ rfl ⟨?_, hW⟩
          · simp [results, Tryz.results35, go_sem, s1, s2, s3]
          · rw [show pairsW T = some (32, 4, (k : Int)) by unfold pairsW; rw [Hno.out.found Hm.out (by rw [H0.out]; decide) 4, H0.out]; first | done | rfl]
            rfl
        | false =>
          cases hr2 : markL T.marks m.mark with
          | false =>
            have H0 : Hid (pairM T k m = 32) := Lib.hid (by unfold pairM; rw [if_pos (.inr (.inr hr2))])
            go_wp2_with fail
            refine wp_region_below (by kernel_rfl) (by kernel_rfl) ?_
            repeat (first
              | go_big_quiet_skip
              | (go_big_quiet_want; go_big_quiet_op; first
                  | go_big_quiet_on
                  | (refine ⟨_, fun _ _ => rfl, ?_⟩; go_big_quiet_on)
                  | (apply Exists.intro
                     refine ⟨fun w0 hC0 => ?_, ?_⟩
                     · (go_at_call 81
                        refine (HM.out w0 hC0 _ _ (by assumption)).mono ?_
                        rintro e w8 ⟨rfl, hb8⟩
                        exact ⟨rfl, hC0.trans (hb8.mono hC0.size)⟩)
                     go_big_quiet_on)
                  | (apply Exists.intro
                     refine ⟨fun w0 hC0 => ?_, ?_⟩
                     · (have b0 := (hC0.cell (p := ⟨w.heap.size, 0, none⟩) qB).trans b0
                        have b1 := (hC0.cell (p := ⟨w.heap.size, 1, none⟩) qB).trans b1
                        have b2 := (hC0.cell (p := ⟨w.heap.size, 2, none⟩) qB).trans b2
                        have b3 := (hC0.cell (p := ⟨w.heap.size, 3, none⟩) qB).trans b3
                        have b4 := (hC0.cell (p := ⟨w.heap.size, 4, none⟩) qB).trans b4
                        have b5 := (hC0.cell (p := ⟨w.heap.size, 5, none⟩) qB).trans b5
                        have b6 := (hC0.cell (p := ⟨w.heap.size, 6, none⟩) qB).trans b6
                        have b7 := (hC0.cell (p := ⟨w.heap.size, 7, none⟩) qB).trans b7
                        have e0 := (hC0.cell (p := a.add (k * 3)) qA0).trans e0
                        have e1 := (hC0.cell (p := ⟨(a.add (k * 3)).block, (a.add (k * 3)).off + 1, none⟩) qA).trans e1
                        have e2 := (hC0.cell (p := ⟨(a.add (k * 3)).block, (a.add (k * 3)).off + 2, none⟩) qA).trans e2
                        go_simp
                        rfl)
                     go_big_quiet_on)))
            refine wpQuiet_nil ?_
            intro w8 hb8
            obtain ⟨r1, r2, r3, f1, f2, f3⟩ := (Hr.out.step hb8).resF
            go_wp2_with fail
            obtain ⟨hB, hW⟩ := ((Hr.out.step hb8)).ret (.int .i64 32) (.int .i64 4) (.int .i64 (k : Int))
            obtain ⟨s1, s2, s3, -, -, -⟩ := wrong_facts hB
            refine bodyPost_ret (v := .agg #[.int .i64 32, .int .i64 4, .int .i64 (k : Int)]) ?_ rfl ⟨?_, hW⟩
            · simp [results, Tryz.results35, go_sem, s1, s2, s3]
            · rw [show pairsW T = some (32, 4, (k : Int)) by unfold pairsW; rw [Hno.out.found Hm.out (by rw [H0.out]; decide) 4, H0.out]; first | done | rfl]
              rfl
          | true =>
            have H0 : Hid (pairM T k m = 0) := Lib.hid (by unfold pairM; rw [if_neg (by rw [hr0, hr1, hr2]; simp)])
            go_wp2_with fail
            refine wp_region_below (by kernel_rfl) (by kernel_rfl) ?_
            repeat (first
              | go_big_quiet_skip
              | (go_big_quiet_want; go_big_quiet_op; first
                  | go_big_quiet_on
                  | (refine ⟨_, fun _ _ => rfl, ?_⟩; go_big_quiet_on)
                  | (apply Exists.intro
                     refine ⟨fun w0 hC0 => ?_, ?_⟩
                     · (go_at_call 81
                        refine (HM.out w0 hC0 _ _ (by assumption)).mono ?_
                        rintro e w8 ⟨rfl, hb8⟩
                        exact ⟨rfl, hC0.trans (hb8.mono hC0.size)⟩)
                     go_big_quiet_on)
                  | (apply Exists.intro
                     refine ⟨fun w0 hC0 => ?_, ?_⟩
                     · (have b0 := (hC0.cell (p := ⟨w.heap.size, 0, none⟩) qB).trans b0
                        have b1 := (hC0.cell (p := ⟨w.heap.size, 1, none⟩) qB).trans b1
                        have b2 := (hC0.cell (p := ⟨w.heap.size, 2, none⟩) qB).trans b2
                        have b3 := (hC0.cell (p := ⟨w.heap.size, 3, none⟩) qB).trans b3
                        have b4 := (hC0.cell (p := ⟨w.heap.size, 4, none⟩) qB).trans b4
                        have b5 := (hC0.cell (p := ⟨w.heap.size, 5, none⟩) qB).trans b5
                        have b6 := (hC0.cell (p := ⟨w.heap.size, 6, none⟩) qB).trans b6
                        have b7 := (hC0.cell (p := ⟨w.heap.size, 7, none⟩) qB).trans b7
                        have e0 := (hC0.cell (p := a.add (k * 3)) qA0).trans e0
                        have e1 := (hC0.cell (p := ⟨(a.add (k * 3)).block, (a.add (k * 3)).off + 1, none⟩) qA).trans e1
                        have e2 := (hC0.cell (p := ⟨(a.add (k * 3)).block, (a.add (k * 3)).off + 2, none⟩) qA).trans e2
                        go_simp
                        rfl)
                     go_big_quiet_on)))
            refine wpQuiet_nil ?_
            intro w8 hb8
            go_wp2_with fail
            go_roundw
            case rel => exact ⟨k + 1, by omega, by go_num, Hno.out.succ Hm.out H0.out, Hr.out.step hb8⟩
            case measure => simp [intOf]; omega
    · have hkn : n3 = k := by omega
      subst hkn
      have HN0 : Hid (scan (pairM T) 4 0 T.pairs = none) := Lib.hid (NoneTo.all (by rw [HLn3.out]; exact Hno.out) 4)
      clear Hno hno hrs
      go_wp2_with fail
      clear b0 b1 b2 b3 b4 b5 b6 b7
      go_loopw [4, 5] (fun i _ wr => ∃ k : Nat, k ≤ n3 ∧ i = .int .i64 (k : Int) ∧ NoneTo (chainAt T) T.pairs k ∧ RS w v0 v1 (.slice A2 n2 c2) (.slice A3 n3 c3) v4 v5 v6 v7 wr) (fun i _ _ => n3 - (intOf i).toNat)
      case atStart => exact ⟨0, Nat.zero_le _, rfl, NoneTo.zero _ _, Hr.out⟩
      case round =>
        clear Hr
        obtain ⟨k, hk, rfl, hno, hrs⟩ := hrel
        have Hno := Lib.hid hno
        have Hr := Lib.hid hrs
        obtain ⟨b0, b1, b2, b3, b4, b5, b6, b7⟩ := hrs.boxF
        by_cases hlt : k < n3
        · obtain ⟨m, hm⟩ : ∃ m, T.pairs[k]? = some m := ⟨_, List.getElem?_eq_getElem (by rw [HLn3.out]; exact hlt)⟩
          obtain ⟨a, rfl, e0, e1, e2⟩ := el3 HT.out.pairs hrs.below hm rfl
          have Hm := Lib.hid hm
          have k0 : (0 : Int) ≤ (k : Int) := by omega
          have k1 : (k : Int) < (n3 : Int) := by omega
          have hch := ref_chain (v0 := v0) (v1 := v1) (v2 := .slice A2 n2 c2) (v4 := v4) (v5 := v5) (v6 := v6) (v7 := v7) T.pairs (HT.out.pairs.below hrs.below) k (by rw [HLn3.out]; exact hlt)
          have HC := Lib.hid hch
          clear hno hrs hm hch
          have Hx : Hid (chainAt T k m = if chainOf T.pairs k < 0 then 33 else if 4 < chainOf T.pairs k then 34 else 0) := Lib.hid rfl
          generalize chainOf T.pairs k = z at *
          by_cases h1 : z < 0
          · have h1' := h1
            have H0 : Hid (chainAt T k m = 33) := Lib.hid (by rw [Hx.out, if_pos h1'])
            go_wp2_with (go_at_call 82; refine HC.out.mono ?_; rintro e w2 ⟨rfl, hb2⟩; obtain ⟨r1, r2, r3, f1, f2, f3⟩ := (Hr.out.step hb2).resF)
            obtain ⟨hB, hW⟩ := ((Hr.out.step hb2)).ret (.int .i64 33) (.int .i64 4) (.int .i64 (k : Int))
            obtain ⟨s1, s2, s3, -, -, -⟩ := wrong_facts hB
            refine bodyPost_ret (v := .agg #[.int .i64 33, .int .i64 4, .int .i64 (k : Int)]) ?_ rfl ⟨?_, hW⟩
            · simp [results, Tryz.results35, go_sem, s1, s2, s3]
            · rw [show pairsW T = some (33, 4, (k : Int)) by unfold pairsW; rw [HN0.out, Hno.out.found Hm.out (by rw [H0.out]; decide) 4, H0.out]; first | done | rfl]
              rfl
          · by_cases h2 : 4 < z
            · have h2' := h2
              have H0 : Hid (chainAt T k m = 34) := Lib.hid (by rw [Hx.out, if_neg h1, if_pos h2'])
              go_wp2_with (go_at_call 82; refine HC.out.mono ?_; rintro e w2 ⟨rfl, hb2⟩; obtain ⟨r1, r2, r3, f1, f2, f3⟩ := (Hr.out.step hb2).resF)
              obtain ⟨hB, hW⟩ := ((Hr.out.step hb2)).ret (.int .i64 34) (.int .i64 4) (.int .i64 (k : Int))
              obtain ⟨s1, s2, s3, -, -, -⟩ := wrong_facts hB
              refine bodyPost_ret (v := .agg #[.int .i64 34, .int .i64 4, .int .i64 (k : Int)]) ?_ rfl ⟨?_, hW⟩
              · simp [results, Tryz.results35, go_sem, s1, s2, s3]
              · rw [show pairsW T = some (34, 4, (k : Int)) by unfold pairsW; rw [HN0.out, Hno.out.found Hm.out (by rw [H0.out]; decide) 4, H0.out]; first | done | rfl]
                rfl
            · have H0 : Hid (chainAt T k m = 0) := Lib.hid (by rw [Hx.out, if_neg h1, if_neg h2])
              go_wp2_with (go_at_call 82; refine HC.out.mono ?_; rintro e w2 ⟨rfl, hb2⟩)
              go_roundw
              case rel => exact ⟨k + 1, by omega, by go_num, Hno.out.succ Hm.out H0.out, Hr.out.step hb2⟩
              case measure => simp [intOf]; omega
        · have hkn : n3 = k := by omega
          subst hkn
          have HN1 : Hid (scan (chainAt T) 4 0 T.pairs = none) := Lib.hid (NoneTo.all (by rw [HLn3.out]; exact Hno.out) 4)
          obtain ⟨r1, r2, r3, f1, f2, f3⟩ := Hr.out.resF
          clear Hno hno hrs
          go_wp2_with fail
          obtain ⟨hB, hW⟩ := (Hr.out).ret (.int .i64 0) (.int .i64 0) (.int .i64 0)
          obtain ⟨s1, s2, s3, -, -, -⟩ := wrong_facts hB
          refine bodyPost_ret (v := .agg #[.int .i64 0, .int .i64 0, .int .i64 0]) ?_ rfl ⟨?_, hW⟩
          · simp [results, Tryz.results35, go_sem, s1, s2, s3]
          · rw [show pairsW T = none by unfold pairsW; rw [HN0.out, HN1.out]; first | done | rfl]
            rfl

end
end Go.Proofs.YtjmkdimbbacnfaaGreatDoor
