/- guiseref6: house. (Printed by gen_house.py.) -/
import Derived.Test.YtjmkdimbbacnfaaGreatDoorGRefM
namespace Go.Proofs.YtjmkdimbbacnfaaGreatDoor
open Go.RowKit
set_option linter.unusedVariables false
def dropH (_ : Nat) (m : SpanT) : Int := if m.lo < 128 ∨ (m.lo ≤ 65533 ∧ 65533 ≤ m.hi) then 5 else 0
/-- an ASCII rune that may be allowed -/
def letR (r : Int) : Bool := decide (r = 45 ∨ (48 ≤ r ∧ r ≤ 57) ∨ (97 ≤ r ∧ r ≤ 122))
/-- does a span hold an ASCII rune that may not be allowed -/
def spanBad (m : SpanT) : Bool := (List.range (128 - m.lo).toNat).any fun j => decide (m.lo + (j : Int) ≤ m.hi) && !letR (m.lo + (j : Int))
def allowH (_ : Nat) (m : SpanT) : Int := if spanBad m = true then 5 else 0
def allB (T : Tab) (j : Nat) : Bool := !letR (45 + (j : Int)) || ofL (45 + (j : Int)) T.allowed
def allW (T : Tab) : Option (Int × Int × Int) := if (List.range 78).all (allB T) = true then none else some (5, 8, 0)
def houseW (T : Tab) : Option (Int × Int × Int) := orW (rowsW T) (orW (scan dropH 7 0 T.drops) (orW (scan allowH 8 0 T.allowed) (allW T)))
theorem allW_bad {T : Tab} {k : Nat} (hk : k < 78) (h : allB T k = false) : allW T = some (5, 8, 0) := by
  unfold allW
  rw [if_neg]
  intro hall
  have := List.all_eq_true.1 hall k (List.mem_range.2 hk)
  rw [h] at this; cases this
theorem allW_good {T : Tab} (h : ∀ j, j < 78 → allB T j = true) : allW T = none := by
  unfold allW
  rw [if_pos]
  exact List.all_eq_true.2 (fun j hj => h j (List.mem_range.1 hj))
theorem spanBad_yes {m : SpanT} {j : Nat} (h1 : m.lo + (j : Int) ≤ m.hi) (h2 : m.lo + (j : Int) < 128) (h3 : letR (m.lo + (j : Int)) = false) : spanBad m = true :=
  List.any_eq_true.2 ⟨j, List.mem_range.2 (by omega), by simp [h1, h3]⟩
theorem spanBad_no {m : SpanT} {k : Nat} (h : ∀ j, j < k → letR (m.lo + (j : Int)) = true) (hk : ¬ (m.lo + (k : Int) ≤ m.hi ∧ m.lo + (k : Int) < 128)) : spanBad m = false := by
  unfold spanBad
  rw [List.any_eq_false]
  intro j hj
  have hj2 := List.mem_range.1 hj
  by_cases h1 : m.lo + (j : Int) ≤ m.hi
  · rw [h j (by omega)]; simp
  · simp [h1]
theorem orW_ne {a b : Option (Int × Int × Int)} (ha : ∀ x y z, a = some (x, y, z) → x ≠ 0) (hb : ∀ x y z, b = some (x, y, z) → x ≠ 0) : ∀ x y z, orW a b = some (x, y, z) → x ≠ 0 := by
  intro x y z h
  cases a with
  | none => exact hb x y z h
  | some a => exact ha x y z h
theorem scan_ne' {α : Type} {f : Nat → α → Int} {list : Int} {l : List α} {s : Nat} : ∀ x y z, scan f list s l = some (x, y, z) → x ≠ 0 := fun _ _ _ h => scan_ne h
theorem comW_ne {T : Tab} : ∀ x y z, comW T = some (x, y, z) → x ≠ 0 := by
  intro x y z h
  unfold comW at h
  split at h
  · cases h
  · cases h; decide
theorem rowsW_ne {T : Tab} : ∀ x y z, rowsW T = some (x, y, z) → x ≠ 0 :=
  orW_ne comW_ne (orW_ne scan_ne' (orW_ne scan_ne' (orW_ne scan_ne' scan_ne')))

set_option maxRecDepth 100000 in
set_option maxHeartbeats 8000000 in
theorem ref_house (HRU : RunesOK) {w : World} {v0 v1 v2 v3 v4 v5 v6 v7 : Value} (T : Tab) (h : TabAt w v0 v1 v2 v3 v4 v5 v6 v7 T) (hok : TabOk T) :
    Calls Tryz.prog 38 #[.agg #[v0, v1, v2, v3, v4, v5, v6, v7]] w fun e w' => e = .returned (wrongV (houseW T)) ∧ Below w.heap.size w w' := by
  have HO := Lib.hid hok
  obtain ⟨A6, c6, rfl, hn6⟩ := h.drops.form
  obtain ⟨A7, c7, rfl, hn7⟩ := h.allowed.form
  have HT := Lib.hid h
  obtain ⟨n6, hln6⟩ : ∃ n, T.drops.length = n := ⟨_, rfl⟩
  rw [hln6] at HT hn6
  rw [hln6]
  have HLn6 := Lib.hid hln6
  clear hln6
  obtain ⟨n7, hln7⟩ : ∃ n, T.allowed.length = n := ⟨_, rfl⟩
  rw [hln7] at HT hn7
  rw [hln7]
  have HLn7 := Lib.hid hln7
  clear hln7
  clear h hok
  go_enter Tryz.func38, Tryz.ntmps38
  have hrw := ref_rows HRU (w := (w.alloc (.cells #[v0, v1, v2, v3, v4, v5, (.slice A6 n6 c6), (.slice A7 n7 c7)] 28)).alloc (.cells #[.int .i64 0, .int .i64 0, .int .i64 0] 40)) T (HT.out.below (RS.start w v0 v1 v2 v3 v4 v5 (.slice A6 n6 c6) (.slice A7 n7 c7)).below) HO.out
  have Hst := Lib.hid (RS.start w v0 v1 v2 v3 v4 v5 (.slice A6 n6 c6) (.slice A7 n7 c7))
  cases hcw : rowsW T with
  | some x =>
    obtain ⟨xa, xb, xc⟩ := x
    rw [hcw] at hrw
    have hne := rowsW_ne _ _ _ hcw
    have h1 : (xa != 0) = true := by simpa using hne
    have HCM := Lib.hid hrw
    have HCW := Lib.hid hcw
    clear hrw hcw hne
    unfold wrongV at HCM
    go_wp2_with (go_at_call 87; refine HCM.out.mono ?_; rintro e w2 ⟨rfl, hb2⟩; have hr3 := (Hst.out.step hb2).step ((Below.refl _ w2).alloc (Nat.le_refl _) (.cells #[.int .i64 xa, .int .i64 xb, .int .i64 xc] 40)); obtain ⟨r1, r2, r3, f1, f2, f3⟩ := hr3.resF; have Hr3 := Lib.hid hr3; clear hr3)
    obtain ⟨hB, hW⟩ := (Hr3.out).ret (.int .i64 xa) (.int .i64 xb) (.int .i64 xc)
    obtain ⟨s1, s2, s3, -, -, -⟩ := wrong_facts hB
    refine bodyPost_ret (v := .agg #[.int .i64 xa, .int .i64 xb, .int .i64 xc]) ?_ rfl ⟨?_, hW⟩
    · simp [results, Tryz.results38, go_sem, s1, s2, s3]
    · rw [show houseW T = some (xa, xb, xc) by unfold houseW; rw [HCW.out]; rfl]
      rfl
  | none =>
    rw [hcw] at hrw
    have HCM := Lib.hid hrw
    have HCW := Lib.hid hcw
    clear hrw hcw
    unfold wrongV at HCM
    go_wp2_with (go_at_call 87; refine HCM.out.mono ?_; rintro e w2 ⟨rfl, hb2⟩)
    have hs2 := (Hst.out.step hb2).step ((Below.refl _ w2).alloc (Nat.le_refl _) (.cells #[.int .i64 0, .int .i64 0, .int .i64 0] 40))
    obtain ⟨W2, hW2⟩ : ∃ W2, w2.alloc (.cells #[.int .i64 0, .int .i64 0, .int .i64 0] 40) = W2 := ⟨_, rfl⟩
    rw [hW2] at hs2 ⊢
    clear hW2 hb2 HCM
    have Hs2 := Lib.hid hs2
    clear hs2 Hst
    go_loopw [4] (fun i wr => ∃ k : Nat, k ≤ n6 ∧ i = .int .i64 (k : Int) ∧ NoneTo (dropH) T.drops k ∧ RS w v0 v1 v2 v3 v4 v5 (.slice A6 n6 c6) (.slice A7 n7 c7) wr) (fun i _ => n6 - (intOf i).toNat)
    case atStart => exact ⟨0, Nat.zero_le _, rfl, NoneTo.zero _ _, Hs2.out⟩
    case round =>
      obtain ⟨k, hk, rfl, hno, hrs⟩ := hrel
      have Hno := Lib.hid hno
      have Hr := Lib.hid hrs
      obtain ⟨b0, b1, b2, b3, b4, b5, b6, b7⟩ := hrs.boxF
      by_cases hlt : k < n6
      · obtain ⟨m, hm⟩ : ∃ m, T.drops[k]? = some m := ⟨_, List.getElem?_eq_getElem (by rw [HLn6.out]; exact hlt)⟩
        obtain ⟨a, rfl, e0, e1⟩ := el2 HT.out.drops hrs.below hm rfl
        have Hm := Lib.hid hm
        have k0 : (0 : Int) ≤ (k : Int) := by omega
        have k1 : (k : Int) < (n6 : Int) := by omega
        clear hno hrs hm
        by_cases h1 : m.lo < 128
        · skip
          have H0 : Hid (dropH k m = 5) := Lib.hid (by unfold dropH; rw [if_pos (.inl h1)])
          obtain ⟨r1, r2, r3, f1, f2, f3⟩ := Hr.out.resF
          go_wp2_with fail
          obtain ⟨hB, hW⟩ := (Hr.out).ret (.int .i64 5) (.int .i64 7) (.int .i64 (k : Int))
          obtain ⟨s1, s2, s3, -, -, -⟩ := wrong_facts hB
          refine bodyPost_ret (v := .agg #[.int .i64 5, .int .i64 7, .int .i64 (k : Int)]) ?_ rfl ⟨?_, hW⟩
          · simp [results, Tryz.results38, go_sem, s1, s2, s3]
          · rw [show houseW T = some (5, 7, (k : Int)) by unfold houseW; rw [HCW.out, Hno.out.found Hm.out (by rw [H0.out]; decide) 7, H0.out]; first | done | rfl]
            rfl
        · by_cases h2 : m.lo ≤ 65533
          · by_cases h3 : 65533 ≤ m.hi
            · skip
              have H0 : Hid (dropH k m = 5) := Lib.hid (by unfold dropH; rw [if_pos (.inr ⟨h2, h3⟩)])
              obtain ⟨r1, r2, r3, f1, f2, f3⟩ := Hr.out.resF
              go_wp2_with fail
              obtain ⟨hB, hW⟩ := (Hr.out).ret (.int .i64 5) (.int .i64 7) (.int .i64 (k : Int))
              obtain ⟨s1, s2, s3, -, -, -⟩ := wrong_facts hB
              refine bodyPost_ret (v := .agg #[.int .i64 5, .int .i64 7, .int .i64 (k : Int)]) ?_ rfl ⟨?_, hW⟩
              · simp [results, Tryz.results38, go_sem, s1, s2, s3]
              · rw [show houseW T = some (5, 7, (k : Int)) by unfold houseW; rw [HCW.out, Hno.out.found Hm.out (by rw [H0.out]; decide) 7, H0.out]; first | done | rfl]
                rfl
            · skip
              have H0 : Hid (dropH k m = 0) := Lib.hid (by unfold dropH; rw [if_neg (by omega)])
              go_wp2_with fail
              go_roundw
              case rel => exact ⟨k + 1, by omega, by go_num, Hno.out.succ Hm.out H0.out, Hr.out⟩
              case measure => simp [intOf]; omega
          · skip
            have H0 : Hid (dropH k m = 0) := Lib.hid (by unfold dropH; rw [if_neg (by omega)])
            go_wp2_with fail
            go_roundw
            case rel => exact ⟨k + 1, by omega, by go_num, Hno.out.succ Hm.out H0.out, Hr.out⟩
            case measure => simp [intOf]; omega
      · have hkn : n6 = k := by omega
        subst hkn
        have HN1 : Hid (scan (dropH) 7 0 T.drops = none) := Lib.hid (NoneTo.all (by rw [HLn6.out]; exact Hno.out) 7)
        clear Hno hno hrs
        go_wp2_with fail
        clear b0 b1 b2 b3 b4 b5 b6 b7
        go_loopw [5, 6] (fun i _ wr => ∃ k : Nat, k ≤ n7 ∧ i = .int .i64 (k : Int) ∧ NoneTo (allowH) T.allowed k ∧ RS w v0 v1 v2 v3 v4 v5 (.slice A6 n6 c6) (.slice A7 n7 c7) wr) (fun i _ _ => n7 - (intOf i).toNat)
        case atStart => exact ⟨0, Nat.zero_le _, rfl, NoneTo.zero _ _, Hr.out⟩
        case round =>
          clear Hr
          obtain ⟨k, hk, rfl, hno, hrs⟩ := hrel
          have Hno := Lib.hid hno
          have Hr := Lib.hid hrs
          obtain ⟨b0, b1, b2, b3, b4, b5, b6, b7⟩ := hrs.boxF
          by_cases hlt : k < n7
          · obtain ⟨m, hm⟩ : ∃ m, T.allowed[k]? = some m := ⟨_, List.getElem?_eq_getElem (by rw [HLn7.out]; exact hlt)⟩
            obtain ⟨a, rfl, e0, e1⟩ := el2 HT.out.allowed hrs.below hm rfl
            have Hm := Lib.hid hm
            have k0 : (0 : Int) ≤ (k : Int) := by omega
            have k1 : (k : Int) < (n7 : Int) := by omega
            have hi := HO.out.allowed m (List.mem_of_getElem? hm)
            obtain ⟨⟨i1, i2⟩, i3, i4⟩ := hi
            clear hno hrs hm
            go_wp2_with fail
            clear b0 b1 b2 b3 b4 b5 b6 b7 e0 e1
            go_loopw [6] (fun r wr => ∃ q : Nat, r = .int .i32 (m.lo + (q : Int)) ∧ (q = 0 ∨ (m.lo + ((q : Int) - 1) ≤ m.hi ∧ m.lo + ((q : Int) - 1) < 128)) ∧ Hid (∀ j, j < q → letR (m.lo + (j : Int)) = true) ∧ RS w v0 v1 v2 v3 v4 v5 (.slice A6 n6 c6) (.slice (some a) n7 c7) wr) (fun r _ => (129 - intOf r).toNat)
            case atStart => exact ⟨0, by simp, .inl rfl, Lib.hid (fun j h => absurd h (Nat.not_lt_zero _)), Hr.out⟩
            case round =>
              clear Hr
              obtain ⟨q, rfl, hqb, hlet, hrs⟩ := hrel
              have Hr := Lib.hid hrs
              obtain ⟨b0, b1, b2, b3, b4, b5, b6, b7⟩ := hrs.boxF
              obtain ⟨a', ea, e0, e1⟩ := el2 HT.out.allowed hrs.below Hm.out rfl
              cases ea
              obtain ⟨z, hz⟩ : ∃ z : Int, m.lo + (q : Int) = z := ⟨_, rfl⟩
              rw [hz]
              have Hz := Lib.hid hz
              have z0 : -2147483648 ≤ z := by omega
              have z1 : z ≤ 2147483647 := by rcases hqb with h | h <;> omega
              have Hqb := Lib.hid hqb
              clear hqb hz hrs
              by_cases h1 : z ≤ m.hi
              · by_cases h2 : z < 128
                · skip
                  by_cases t0 : z = 45
                  · have t1 : (z != 45) = false := by simpa using t0
                    have Ht := Lib.hid t0
                    clear t0
                    have Hl1 : Hid (letR z = true) := Lib.hid (by rw [Ht.out]; rfl)
                    go_wp2_with fail
                    go_roundw
                    case rel =>
                      have hz := Hz.out
                      refine ⟨q + 1, by go_num, .inr ⟨by omega, by omega⟩, Lib.hid (fun j hj => ?_), Hr.out⟩
                      by_cases e : j = q
                      · rw [e, Hz.out]; exact Hl1.out
                      · exact hlet.out j (by omega)
                    case measure => simp [intOf]; omega
                  · have t1 : (z != 45) = true := by rw [bne_iff_ne]; exact t0
                    by_cases t2 : z < 48
                    · have t3 : z < 97 := by omega
                      have H0 : Hid (allowH k m = 5) := Lib.hid (by unfold allowH; rw [if_pos (spanBad_yes (j := q) (by rw [Hz.out]; exact h1) (by rw [Hz.out]; exact h2) (by rw [Hz.out]; unfold letR; rw [decide_eq_false_iff_not]; omega))])
                      obtain ⟨r1, r2, r3, f1, f2, f3⟩ := Hr.out.resF
                      go_wp2_with fail
                      obtain ⟨hB, hW⟩ := (Hr.out).ret (.int .i64 5) (.int .i64 8) (.int .i64 (k : Int))
                      obtain ⟨s1, s2, s3, -, -, -⟩ := wrong_facts hB
                      refine bodyPost_ret (v := .agg #[.int .i64 5, .int .i64 8, .int .i64 (k : Int)]) ?_ rfl ⟨?_, hW⟩
                      · simp [results, Tryz.results38, go_sem, s1, s2, s3]
                      · rw [show houseW T = some (5, 8, (k : Int)) by unfold houseW; rw [HCW.out, HN1.out, Hno.out.found Hm.out (by rw [H0.out]; decide) 8, H0.out]; first | done | rfl]
                        rfl
                    · by_cases t3 : 57 < z
                      · by_cases t4 : z < 97
                        · skip
                          have H0 : Hid (allowH k m = 5) := Lib.hid (by unfold allowH; rw [if_pos (spanBad_yes (j := q) (by rw [Hz.out]; exact h1) (by rw [Hz.out]; exact h2) (by rw [Hz.out]; unfold letR; rw [decide_eq_false_iff_not]; omega))])
                          obtain ⟨r1, r2, r3, f1, f2, f3⟩ := Hr.out.resF
                          go_wp2_with fail
                          obtain ⟨hB, hW⟩ := (Hr.out).ret (.int .i64 5) (.int .i64 8) (.int .i64 (k : Int))
                          obtain ⟨s1, s2, s3, -, -, -⟩ := wrong_facts hB
                          refine bodyPost_ret (v := .agg #[.int .i64 5, .int .i64 8, .int .i64 (k : Int)]) ?_ rfl ⟨?_, hW⟩
                          · simp [results, Tryz.results38, go_sem, s1, s2, s3]
                          · rw [show houseW T = some (5, 8, (k : Int)) by unfold houseW; rw [HCW.out, HN1.out, Hno.out.found Hm.out (by rw [H0.out]; decide) 8, H0.out]; first | done | rfl]
                            rfl
                        · by_cases t5 : 122 < z
                          · skip
                            have H0 : Hid (allowH k m = 5) := Lib.hid (by unfold allowH; rw [if_pos (spanBad_yes (j := q) (by rw [Hz.out]; exact h1) (by rw [Hz.out]; exact h2) (by rw [Hz.out]; unfold letR; rw [decide_eq_false_iff_not]; omega))])
                            obtain ⟨r1, r2, r3, f1, f2, f3⟩ := Hr.out.resF
                            go_wp2_with fail
                            obtain ⟨hB, hW⟩ := (Hr.out).ret (.int .i64 5) (.int .i64 8) (.int .i64 (k : Int))
                            obtain ⟨s1, s2, s3, -, -, -⟩ := wrong_facts hB
                            refine bodyPost_ret (v := .agg #[.int .i64 5, .int .i64 8, .int .i64 (k : Int)]) ?_ rfl ⟨?_, hW⟩
                            · simp [results, Tryz.results38, go_sem, s1, s2, s3]
                            · rw [show houseW T = some (5, 8, (k : Int)) by unfold houseW; rw [HCW.out, HN1.out, Hno.out.found Hm.out (by rw [H0.out]; decide) 8, H0.out]; first | done | rfl]
                              rfl
                          · skip
                            have Hl1 : Hid (letR z = true) := Lib.hid (by unfold letR; rw [decide_eq_true_iff]; omega)
                            go_wp2_with fail
                            go_roundw
                            case rel =>
                              have hz := Hz.out
                              refine ⟨q + 1, by go_num, .inr ⟨by omega, by omega⟩, Lib.hid (fun j hj => ?_), Hr.out⟩
                              by_cases e : j = q
                              · rw [e, Hz.out]; exact Hl1.out
                              · exact hlet.out j (by omega)
                            case measure => simp [intOf]; omega
                      · have t4 : z < 97 := by omega
                        have Hl1 : Hid (letR z = true) := Lib.hid (by unfold letR; rw [decide_eq_true_iff]; omega)
                        go_wp2_with fail
                        go_roundw
                        case rel =>
                          have hz := Hz.out
                          refine ⟨q + 1, by go_num, .inr ⟨by omega, by omega⟩, Lib.hid (fun j hj => ?_), Hr.out⟩
                          by_cases e : j = q
                          · rw [e, Hz.out]; exact Hl1.out
                          · exact hlet.out j (by omega)
                        case measure => simp [intOf]; omega
                · skip
                  have H0 : Hid (allowH k m = 0) := Lib.hid (by unfold allowH; rw [if_neg (by rw [spanBad_no hlet.out (by rw [Hz.out]; omega)]; decide)])
                  go_wp2_with fail
                  go_roundw
                  case rel => exact ⟨k + 1, by omega, by go_num, Hno.out.succ Hm.out H0.out, Hr.out⟩
                  case measure => simp [intOf]; omega
              · skip
                have H0 : Hid (allowH k m = 0) := Lib.hid (by unfold allowH; rw [if_neg (by rw [spanBad_no hlet.out (by rw [Hz.out]; omega)]; decide)])
                go_wp2_with fail
                go_roundw
                case rel => exact ⟨k + 1, by omega, by go_num, Hno.out.succ Hm.out H0.out, Hr.out⟩
                case measure => simp [intOf]; omega
          · have hkn : n7 = k := by omega
            subst hkn
            have HN2 : Hid (scan (allowH) 8 0 T.allowed = none) := Lib.hid (NoneTo.all (by rw [HLn7.out]; exact Hno.out) 8)
            clear Hno hno hrs
            go_wp2_with fail
            clear b0 b1 b2 b3 b4 b5 b6 b7
            have Hr0 := Hr
            clear Hr
            go_loopw [7] (fun i wr => ∃ k : Nat, k ≤ 78 ∧ i = .int .i32 (45 + (k : Int)) ∧ (∀ j, j < k → allB T j = true) ∧ RS w v0 v1 v2 v3 v4 v5 (.slice A6 n6 c6) (.slice A7 n7 c7) wr) (fun i _ => 78 - ((intOf i).toNat - 45))
            case atStart => exact ⟨0, Nat.zero_le _, rfl, fun j h => absurd h (Nat.not_lt_zero _), Hr0.out⟩
            case round =>
              clear Hr0
              obtain ⟨k, hk, rfl, hno, hrs⟩ := hrel
              have Hno := Lib.hid hno
              have Hr := Lib.hid hrs
              obtain ⟨b0, b1, b2, b3, b4, b5, b6, b7⟩ := hrs.boxF
              by_cases hlt : k < 78
              · have hof := ref_Of T.allowed (HT.out.allowed.below hrs.below) (45 + (k : Int))
                have Hs : Hid (allB T k = true → ∀ j, j < k + 1 → allB T j = true) := Lib.hid (fun h j hj => by
                  by_cases e : j = k
                  · rw [e]; exact h
                  · exact Hno.out j (by omega))
                have HA : Hid (allB T k = (!letR (45 + (k : Int)) || ofL (45 + (k : Int)) T.allowed)) := Lib.hid rfl
                obtain ⟨z, hz⟩ : ∃ z : Int, (45 : Int) + (k : Int) = z := ⟨_, rfl⟩
                rw [hz] at hof HA ⊢
                have Hz := Lib.hid hz
                have z0 : (45 : Int) ≤ z := by omega
                have z1 : z ≤ 122 := by omega
                have HO1 := Lib.hid (fun b (hb : ofL z T.allowed = b) => hof.mono (R' := fun e w' => e = .returned (.bool b) ∧ ∃ q, wr.drewN q = w') (fun e w' h => ⟨by rw [← hb]; exact h.1, h.2⟩))
                clear hof hno hrs hz
                by_cases t0 : z = 45
                · have t1 : (z == 45) = true := by simpa using t0
                  have Ht := Lib.hid t0
                  have t2 : ¬ (97 : Int) ≤ z := by omega
                  clear t0
                  cases hof : ofL z T.allowed with
                  | false =>
                    have Hl1 : Hid (letR z = true) := Lib.hid (by rw [Ht.out]; rfl)
                    obtain ⟨r1, r2, r3, f1, f2, f3⟩ := Hr.out.resF
                    go_wp2_with (go_at_call 83; refine (HO1.out _ (by assumption)).mono ?_; rintro e w2 ⟨rfl, nq, rfl⟩)
                    obtain ⟨hB, hW⟩ := ((Hr.out.step (below_dr wr nq))).ret (.int .i64 5) (.int .i64 8) (.int .i64 0)
                    obtain ⟨s1, s2, s3, -, -, -⟩ := wrong_facts hB
                    refine bodyPost_ret (v := .agg #[.int .i64 5, .int .i64 8, .int .i64 0]) ?_ rfl ⟨?_, hW⟩
                    · simp [results, Tryz.results38, go_sem, s1, s2, s3]
                    · rw [show houseW T = some (5, 8, 0) by unfold houseW; rw [HCW.out, HN1.out, HN2.out, allW_bad hlt (by rw [HA.out, Hl1.out, hof]; rfl)]; first | done | rfl]
                      rfl
                  | true =>
                    go_wp2_with (go_at_call 83; refine (HO1.out _ (by assumption)).mono ?_; rintro e w2 ⟨rfl, nq, rfl⟩)
                    go_roundw
                    case rel => exact ⟨k + 1, by omega, by have := Hz.out; go_num, Hs.out (by rw [HA.out]; rw [hof]; simp), Hr.out.step (below_dr wr nq)⟩
                    case measure => have := Hz.out; simp [intOf]; omega
                · have t1 : (z == 45) = false := by simpa using t0
                  by_cases t2 : 48 ≤ z
                  · by_cases t3 : z ≤ 57
                    · skip
                      cases hof : ofL z T.allowed with
                      | false =>
                        have Hl1 : Hid (letR z = true) := Lib.hid (by unfold letR; rw [decide_eq_true_iff]; omega)
                        obtain ⟨r1, r2, r3, f1, f2, f3⟩ := Hr.out.resF
                        go_wp2_with (go_at_call 83; refine (HO1.out _ (by assumption)).mono ?_; rintro e w2 ⟨rfl, nq, rfl⟩)
                        obtain ⟨hB, hW⟩ := ((Hr.out.step (below_dr wr nq))).ret (.int .i64 5) (.int .i64 8) (.int .i64 0)
                        obtain ⟨s1, s2, s3, -, -, -⟩ := wrong_facts hB
                        refine bodyPost_ret (v := .agg #[.int .i64 5, .int .i64 8, .int .i64 0]) ?_ rfl ⟨?_, hW⟩
                        · simp [results, Tryz.results38, go_sem, s1, s2, s3]
                        · rw [show houseW T = some (5, 8, 0) by unfold houseW; rw [HCW.out, HN1.out, HN2.out, allW_bad hlt (by rw [HA.out, Hl1.out, hof]; rfl)]; first | done | rfl]
                          rfl
                      | true =>
                        go_wp2_with (go_at_call 83; refine (HO1.out _ (by assumption)).mono ?_; rintro e w2 ⟨rfl, nq, rfl⟩)
                        go_roundw
                        case rel => exact ⟨k + 1, by omega, by have := Hz.out; go_num, Hs.out (by rw [HA.out]; rw [hof]; simp), Hr.out.step (below_dr wr nq)⟩
                        case measure => have := Hz.out; simp [intOf]; omega
                    · by_cases t4 : 97 ≤ z
                      · skip
                        cases hof : ofL z T.allowed with
                        | false =>
                          have Hl1 : Hid (letR z = true) := Lib.hid (by unfold letR; rw [decide_eq_true_iff]; omega)
                          obtain ⟨r1, r2, r3, f1, f2, f3⟩ := Hr.out.resF
                          go_wp2_with (go_at_call 83; refine (HO1.out _ (by assumption)).mono ?_; rintro e w2 ⟨rfl, nq, rfl⟩)
                          obtain ⟨hB, hW⟩ := ((Hr.out.step (below_dr wr nq))).ret (.int .i64 5) (.int .i64 8) (.int .i64 0)
                          obtain ⟨s1, s2, s3, -, -, -⟩ := wrong_facts hB
                          refine bodyPost_ret (v := .agg #[.int .i64 5, .int .i64 8, .int .i64 0]) ?_ rfl ⟨?_, hW⟩
                          · simp [results, Tryz.results38, go_sem, s1, s2, s3]
                          · rw [show houseW T = some (5, 8, 0) by unfold houseW; rw [HCW.out, HN1.out, HN2.out, allW_bad hlt (by rw [HA.out, Hl1.out, hof]; rfl)]; first | done | rfl]
                            rfl
                        | true =>
                          go_wp2_with (go_at_call 83; refine (HO1.out _ (by assumption)).mono ?_; rintro e w2 ⟨rfl, nq, rfl⟩)
                          go_roundw
                          case rel => exact ⟨k + 1, by omega, by have := Hz.out; go_num, Hs.out (by rw [HA.out]; rw [hof]; simp), Hr.out.step (below_dr wr nq)⟩
                          case measure => have := Hz.out; simp [intOf]; omega
                      · skip
                        have Hl1 : Hid (letR z = false) := Lib.hid (by unfold letR; rw [decide_eq_false_iff_not]; omega)
                        go_wp2_with fail
                        go_roundw
                        case rel => exact ⟨k + 1, by omega, by have := Hz.out; go_num, Hs.out (by rw [HA.out]; rw [Hl1.out]; rfl), Hr.out⟩
                        case measure => have := Hz.out; simp [intOf]; omega
                  · have t4 : ¬ (97 : Int) ≤ z := by omega
                    have Hl1 : Hid (letR z = false) := Lib.hid (by unfold letR; rw [decide_eq_false_iff_not]; omega)
                    go_wp2_with fail
                    go_roundw
                    case rel => exact ⟨k + 1, by omega, by have := Hz.out; go_num, Hs.out (by rw [HA.out]; rw [Hl1.out]; rfl), Hr.out⟩
                    case measure => have := Hz.out; simp [intOf]; omega
              · have hkn : k = 78 := by omega
                have HA0 : Hid (allW T = none) := Lib.hid (allW_good (by rw [← hkn]; exact hno))
                have k1 : ¬ (45 : Int) + (k : Int) ≤ 122 := by omega
                obtain ⟨zz, hzz⟩ : ∃ z : Int, (45 : Int) + (k : Int) = z := ⟨_, rfl⟩
                rw [hzz] at k1 ⊢
                clear hno hrs Hno hkn hlt hk hzz
                obtain ⟨r1, r2, r3, f1, f2, f3⟩ := Hr.out.resF
                go_wp2_with fail
                obtain ⟨hB, hW⟩ := (Hr.out).ret (.int .i64 0) (.int .i64 0) (.int .i64 0)
                obtain ⟨s1, s2, s3, -, -, -⟩ := wrong_facts hB
                refine bodyPost_ret (v := .agg #[.int .i64 0, .int .i64 0, .int .i64 0]) ?_ rfl ⟨?_, hW⟩
                · simp [results, Tryz.results38, go_sem, s1, s2, s3]
                · rw [show houseW T = none by unfold houseW; rw [HCW.out, HN1.out, HN2.out, HA0.out]; first | done | rfl]
                  rfl

end Go.Proofs.YtjmkdimbbacnfaaGreatDoor
