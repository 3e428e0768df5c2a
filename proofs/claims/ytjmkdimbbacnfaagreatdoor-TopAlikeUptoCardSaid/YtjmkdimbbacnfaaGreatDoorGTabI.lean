/- tables.check: forms. (Printed by gen_cforms.py.) -/
import Derived.Test.YtjmkdimbbacnfaaGreatDoorGTabK
import Derived.BigRegion
namespace Go.Proofs.YtjmkdimbbacnfaaGreatDoor
open Go.RowKit
set_option linter.unusedVariables false
theorem valid_arm (w0 : World) (r : Int) (b : Bool) (hb : isRune r = b) : Calls Tryz.prog 56 #[.int .i32 r] w0 fun e w' => e = .returned (.bool b) ∧ w0 = w' :=
  (Tryz.utf8_ValidRune r w0).mono (R' := fun e w' => e = .returned (.bool b) ∧ w0 = w') (fun e w' h => ⟨by rw [← hb, ← valid_isRune]; exact h.1, h.2.symm⟩)
theorem formsW_ord {T : Tab} : formsW T = orW (scan (fun _ s => scriptW s) 1 0 T.scripts) (orW (spansW T.common 2) (orW (scan markAt 3 0 T.marks) (orW (scan pairAt 4 0 T.pairs) (orW (scan mapAt 5 0 T.folds) (orW (scan mapAt 6 0 T.looks) (orW (spansW T.drops 7) (spansW T.allowed 8))))))) := rfl
theorem count_arm (s : ByteArray) (w0 : World) (hs : s.size ≤ 2097152) : Calls Tryz.prog 57 #[.string s] w0 fun e w' => e = .returned (.int .i64 (Lib.runeCount s)) ∧ Below w0.heap.size w0 w' :=
  (Tryz.utf8_RuneCountInString s w0 (by omega)).mono fun e w' h => ⟨h.1, by obtain ⟨pos, rfl⟩ := h.2; exact (Below.refl _ w0).alloc (Nat.le_refl _) _⟩
theorem valid_str (s : ByteArray) (w0 : World) (hs : s.size ≤ 2097152) (hT : Lib.Utf8Tabs 0 1 w0) (b : Bool) (hb : Lib.validD s.data.toList = b) : Calls Tryz.prog 58 #[.string s] w0 fun e w' => e = .returned (.bool b) ∧ Below w0.heap.size w0 w' :=
  (Tryz.utf8_ValidString s w0 (by omega) hT).mono fun e w' h => ⟨by rw [← hb]; exact h.1, h.2⟩
/-- the parts of a map's form -/
theorem mapAt_from {k : Nat} {m : MapT} (h : isRune m.frm = false) : mapAt k m = 12 := by unfold mapAt; rw [if_pos h]
theorem mapAt_to {k : Nat} {m : MapT} (h : isRune m.frm = true) : mapAt k m = if Lib.validD m.to.data.toList = true ∧ 1 ≤ Lib.runeCount m.to ∧ Lib.runeCount m.to ≤ 4 then 0 else 35 := by
  unfold mapAt
  rw [if_neg (by rw [h]; simp), valid_runes]
  cases hr : runesOf m.to with
  | none => rfl
  | some rs => rw [count_of hr]; simp
set_option maxRecDepth 100000 in
set_option maxHeartbeats 8000000 in
theorem chk_forms {w : World} {v0 v1 v2 v3 v4 v5 v6 v7 : Value} (T : Tab) (h : TabAt w v0 v1 v2 v3 v4 v5 v6 v7 T) (hok : TabOk T) (c b : Nat) (hc : Blk w c 68 #[v0, v1, v2, v3, v4, v5, v6, v7, .pointer (some ⟨b, 0, none⟩)]) (hT : Lib.Utf8Tabs 0 1 w) :
    Calls Tryz.prog 23 #[.pointer (some ⟨c, 0, none⟩)] w fun e w' => e = .returned (wrongV (formsW T)) ∧ Below w.heap.size w w' := by
  have HU := Lib.hid hT
  clear hT
  have HO := Lib.hid hok
  obtain ⟨A0, c0, rfl, hn0⟩ := h.formS
  obtain ⟨A1, c1, rfl, hn1⟩ := h.common.form
  obtain ⟨A2, c2, rfl, hn2⟩ := h.marks.form
  obtain ⟨A3, c3, rfl, hn3⟩ := h.pairs.form
  obtain ⟨A4, c4, rfl, hn4⟩ := h.folds.form
  obtain ⟨A5, c5, rfl, hn5⟩ := h.looks.form
  obtain ⟨A6, c6, rfl, hn6⟩ := h.drops.form
  obtain ⟨A7, c7, rfl, hn7⟩ := h.allowed.form
  have HT := Lib.hid h
  obtain ⟨n0, hln0⟩ : ∃ n, T.scripts.length = n := ⟨_, rfl⟩
  rw [hln0] at HT hc hn0
  have HLn0 := Lib.hid hln0
  clear hln0
  obtain ⟨n1, hln1⟩ : ∃ n, T.common.length = n := ⟨_, rfl⟩
  rw [hln1] at HT hc hn1
  have HLn1 := Lib.hid hln1
  clear hln1
  obtain ⟨n2, hln2⟩ : ∃ n, T.marks.length = n := ⟨_, rfl⟩
  rw [hln2] at HT hc hn2
  have HLn2 := Lib.hid hln2
  clear hln2
  obtain ⟨n3, hln3⟩ : ∃ n, T.pairs.length = n := ⟨_, rfl⟩
  rw [hln3] at HT hc hn3
  have HLn3 := Lib.hid hln3
  clear hln3
  obtain ⟨n4, hln4⟩ : ∃ n, T.folds.length = n := ⟨_, rfl⟩
  rw [hln4] at HT hc hn4
  have HLn4 := Lib.hid hln4
  clear hln4
  obtain ⟨n5, hln5⟩ : ∃ n, T.looks.length = n := ⟨_, rfl⟩
  rw [hln5] at HT hc hn5
  have HLn5 := Lib.hid hln5
  clear hln5
  obtain ⟨n6, hln6⟩ : ∃ n, T.drops.length = n := ⟨_, rfl⟩
  rw [hln6] at HT hc hn6
  have HLn6 := Lib.hid hln6
  clear hln6
  obtain ⟨n7, hln7⟩ : ∃ n, T.allowed.length = n := ⟨_, rfl⟩
  rw [hln7] at HT hc hn7
  have HLn7 := Lib.hid hln7
  clear hln7
  have HC := Lib.hid hc
  have HS0 := Lib.hid (CS.start w)
  obtain ⟨d0, d1, d2, d3, d4, d5, d6, d7, d8⟩ := chk_facts (hc.below HS0.out.below)
  clear h hok hc
  go_enter Tryz.func23, Tryz.ntmps23
  go_wp2_with fail
  go_loopw [28] (fun i wr => ∃ k : Nat, k ≤ n0 ∧ i = .int .i64 (k : Int) ∧ NoneTo (fun _ s => scriptW s) T.scripts k ∧ CS w wr) (fun i _ => n0 - (intOf i).toNat)
  case atStart => exact ⟨0, Nat.zero_le _, rfl, NoneTo.zero _ _, HS0.out⟩
  case round =>
    obtain ⟨k, hk, rfl, hno, hrs⟩ := hrel
    have Hno := Lib.hid hno
    have Hr := Lib.hid hrs
    by_cases hlt : k < n0
    · obtain ⟨m, hm⟩ : ∃ m, T.scripts[k]? = some m := ⟨_, List.getElem?_eq_getElem (by rw [HLn0.out]; exact hlt)⟩
      obtain ⟨a, v, rfl, e0, e1, hsp⟩ := elS HT.out hrs.below hm
      obtain ⟨A9, c9, rfl, hn9⟩ := hsp.form
      obtain ⟨n9, hl9⟩ : ∃ n, m.spans.length = n := ⟨_, rfl⟩
      rw [hl9] at hn9 e1 hsp
      have Hl9 := Lib.hid hl9
      clear hl9
      have Hm := Lib.hid hm
      have k0 : (0 : Int) ≤ (k : Int) := by omega
      have k1 : (k : Int) < (n0 : Int) := by omega
      have HE := Lib.hid ((Below.refl _ wr).alloc (Nat.le_refl _) (.cells #[.string m.name, .slice A9 n9 c9] 59))
      have Hx := Lib.hid (Blk.new wr 59 #[.string m.name, .slice A9 n9 c9])
      have hnm := (HO.out.scripts m (List.mem_of_getElem? hm)).1
      have HNm := Lib.hid (fun b (hb : nameOk m.name = b) w0 => (tab_name m.name w0 hnm).mono (R' := fun e w' => e = .returned (.bool b) ∧ Below w0.heap.size w0 w') (fun e w' h => ⟨by rw [← hb]; exact h.1, h.2⟩))
      have HSp := Lib.hid hsp
      clear hno hrs hm hsp
      cases hn : nameOk m.name with
      | false =>
        have H0 : Hid (scriptW m = 38) := Lib.hid (by unfold scriptW; rw [if_pos hn])
        go_wp2_with (first | (go_at_call 54; refine (HNm.out _ (by assumption) _).mono ?_; rintro e w2 ⟨rfl, hb2⟩; have HB2 := Lib.hid (below_trans HE.out hb2); have x1 : w2.cell? ⟨wr.heap.size, 1, none⟩ = some (.slice A9 n9 c9) := (Hx.out.below hb2).cell 1) | (go_at_call 53; refine (tab_wrong _ _ _ _).mono ?_; rintro e w9 ⟨rfl, hb9⟩; have h9 := (Hr.out.step HB2.out).step hb9; obtain ⟨r1, r2, r3, f1, f2, f3⟩ := h9.resF; have H9 := Lib.hid h9; clear h9))
        obtain ⟨hB, hW⟩ := (H9.out).ret (.int .i64 38) (.int .i64 1) (.int .i64 (k : Int))
        obtain ⟨s1, s2, s3, -, -, -⟩ := wrong_facts hB
        refine bodyPost_ret (v := .agg #[.int .i64 38, .int .i64 1, .int .i64 (k : Int)]) ?_ rfl ⟨?_, hW⟩
        · simp [results, Tryz.results23, go_sem, s1, s2, s3]
        · rw [show formsW T = some (38, 1, (k : Int)) by rw [formsW_ord]; rw [Hno.out.found Hm.out (by rw [H0.out]; decide) 1, H0.out]; first | done | rfl]
          rfl
      | true =>
        have H1 : Hid (scriptW m = match spansW m.spans 1 with | none => 0 | some (a, _, _) => a) := Lib.hid (by unfold scriptW; rw [if_neg (by rw [hn]; simp)]; rfl)
        rw [spansW_list m.spans 1] at H1
        cases hs : spansW m.spans 0 with
        | none =>
          have H0 : Hid (scriptW m = 0) := Lib.hid (by rw [H1.out, hs]; rfl)
          have HR := Lib.hid (fun w0 (hB : Below wr.heap.size wr w0) => set_Right m.spans (v := .slice A9 n9 c9) (HSp.out.below hB))
          rw [rightP_none hs] at HR
          go_wp2_with (first | (go_at_call 54; refine (HNm.out _ (by assumption) _).mono ?_; rintro e w2 ⟨rfl, hb2⟩; have HB2 := Lib.hid (below_trans HE.out hb2); have x1 : w2.cell? ⟨wr.heap.size, 1, none⟩ = some (.slice A9 n9 c9) := (Hx.out.below hb2).cell 1) | (go_at_call 55; refine (HR.out _ HB2.out).mono ?_; rintro e w3 ⟨rfl, hb3⟩; have HB3 := Lib.hid (below_trans HB2.out hb3)))
          go_roundw
          case rel => exact ⟨k + 1, by omega, by go_num, Hno.out.succ Hm.out H0.out, Hr.out.step HB3.out⟩
          case measure => simp [intOf]; omega
        | some x =>
          obtain ⟨xa, xb, xc⟩ := x
          have H0 : Hid (scriptW m = xa) := Lib.hid (by rw [H1.out, hs]; rfl)
          have hne := spansW_ne hs
          have h1 : (xa != 0) = true := by simpa using hne
          have Hne := Lib.hid hne
          clear hne
          have HR := Lib.hid (fun w0 (hB : Below wr.heap.size wr w0) => set_Right m.spans (v := .slice A9 n9 c9) (HSp.out.below hB))
          rw [rightP_some hs] at HR
          go_wp2_with (first | (go_at_call 54; refine (HNm.out _ (by assumption) _).mono ?_; rintro e w2 ⟨rfl, hb2⟩; have HB2 := Lib.hid (below_trans HE.out hb2); have x1 : w2.cell? ⟨wr.heap.size, 1, none⟩ = some (.slice A9 n9 c9) := (Hx.out.below hb2).cell 1) | (go_at_call 55; refine (HR.out _ HB2.out).mono ?_; rintro e w3 ⟨rfl, hb3⟩; have HB3 := Lib.hid (below_trans HB2.out hb3)) | (go_at_call 53; refine (tab_wrong _ _ _ _).mono ?_; rintro e w9 ⟨rfl, hb9⟩; have h9 := (Hr.out.step HB3.out).step hb9; obtain ⟨r1, r2, r3, f1, f2, f3⟩ := h9.resF; have H9 := Lib.hid h9; clear h9))
          obtain ⟨hB, hW⟩ := (H9.out).ret (.int .i64 xa) (.int .i64 1) (.int .i64 (k : Int))
          obtain ⟨s1, s2, s3, -, -, -⟩ := wrong_facts hB
          refine bodyPost_ret (v := .agg #[.int .i64 xa, .int .i64 1, .int .i64 (k : Int)]) ?_ rfl ⟨?_, hW⟩
          · simp [results, Tryz.results23, go_sem, s1, s2, s3]
          · rw [show formsW T = some (xa, 1, (k : Int)) by rw [formsW_ord]; rw [Hno.out.found Hm.out (by rw [H0.out]; exact Hne.out) 1, H0.out]; first | done | rfl]
            rfl
    · have hkn : n0 = k := by omega
      subst hkn
      have HN0 : Hid (scan (fun _ s => scriptW s) 1 0 T.scripts = none) := Lib.hid (NoneTo.all (by rw [HLn0.out]; exact Hno.out) 1)
      obtain ⟨d0, d1, d2, d3, d4, d5, d6, d7, d8⟩ := chk_facts (HC.out.below Hr.out.below)
      clear Hno hno hrs
      skip
      have hri := set_Right T.common (HT.out.common.below Hr.out.below)
      cases hcw : spansW T.common 0 with
      | some x =>
        obtain ⟨xa, xb, xc⟩ := x
        have hne := spansW_ne hcw
        have h1 : (xa != 0) = true := by simpa using hne
        have HW : Hid (spansW T.common 2 = some (xa, 2, xc)) := Lib.hid (by rw [spansW_list, hcw]; rfl)
        rw [rightP_some hcw] at hri
        have HR := Lib.hid hri
        clear hri hcw hne
        go_wp2_with (first | (go_at_call 55; refine HR.out.mono ?_; rintro e w3 ⟨rfl, hb3⟩; have HB3 := Lib.hid hb3) | (go_at_call 53; refine (tab_wrong _ _ _ _).mono ?_; rintro e w9 ⟨rfl, hb9⟩; have h9 := (Hr.out.step HB3.out).step hb9; obtain ⟨r1, r2, r3, f1, f2, f3⟩ := h9.resF; have H9 := Lib.hid h9; clear h9))
        obtain ⟨hB, hW⟩ := (H9.out).ret (.int .i64 xa) (.int .i64 2) (.int .i64 xc)
        obtain ⟨s1, s2, s3, -, -, -⟩ := wrong_facts hB
        refine bodyPost_ret (v := .agg #[.int .i64 xa, .int .i64 2, .int .i64 xc]) ?_ rfl ⟨?_, hW⟩
        · simp [results, Tryz.results23, go_sem, s1, s2, s3]
        · rw [show formsW T = some (xa, 2, xc) by rw [formsW_ord]; rw [HN0.out, HW.out]; first | done | rfl]
          rfl
      | none =>
        have HWcommon : Hid (spansW T.common 2 = none) := Lib.hid (by rw [spansW_list, hcw]; rfl)
        rw [rightP_none hcw] at hri
        have HR := Lib.hid hri
        clear hri hcw
        go_wp2_with (first | go_at_call 55; refine HR.out.mono ?_; rintro e w3 ⟨rfl, hb3⟩; have HB3 := Lib.hid hb3; (have hr3 := Hr.out.step hb3; obtain ⟨d0, d1, d2, d3, d4, d5, d6, d7, d8⟩ := chk_facts (HC.out.below hr3.below); have Hr3 := Lib.hid hr3; clear hr3))
        go_loopw [71] (fun i wr => ∃ k : Nat, k ≤ n2 ∧ i = .int .i64 (k : Int) ∧ NoneTo (markAt) T.marks k ∧ CS w wr) (fun i _ => n2 - (intOf i).toNat)
        case atStart => exact ⟨0, Nat.zero_le _, rfl, NoneTo.zero _ _, Hr3.out⟩
        case round =>
          clear Hr
          obtain ⟨k, hk, rfl, hno, hrs⟩ := hrel
          have Hno := Lib.hid hno
          have Hr := Lib.hid hrs
          by_cases hlt : k < n2
          · obtain ⟨m, hm⟩ : ∃ m, T.marks[k]? = some m := ⟨_, List.getElem?_eq_getElem (by rw [HLn2.out]; exact hlt)⟩
            obtain ⟨a, rfl, e0, e1⟩ := el2 HT.out.marks hrs.below hm rfl
            have Hm := Lib.hid hm
            have k0 : (0 : Int) ≤ (k : Int) := by omega
            have k1 : (k : Int) < (n2 : Int) := by omega
            have HE := Lib.hid ((Below.refl _ wr).alloc (Nat.le_refl _) (.cells #[.int .i32 m.r, .int .i64 m.c] 75))
            have Hx := Lib.hid (Blk.new wr 75 #[.int .i32 m.r, .int .i64 m.c])
            clear hno hrs hm
            cases h1 : isRune m.r with
            | false =>
              have H0 : Hid (markAt k m = 12) := Lib.hid (by unfold markAt; rw [if_pos h1])
              go_wp2_with (first | (go_at_call 56; refine (valid_arm _ _ _ (by assumption)).mono ?_; rintro e w' ⟨rfl, rfl⟩) | (go_at_call 53; refine (tab_wrong _ _ _ _).mono ?_; rintro e w9 ⟨rfl, hb9⟩; have h9 := (Hr.out.step HE.out).step hb9; obtain ⟨r1, r2, r3, f1, f2, f3⟩ := h9.resF; have H9 := Lib.hid h9; clear h9))
              obtain ⟨hB, hW⟩ := (H9.out).ret (.int .i64 12) (.int .i64 3) (.int .i64 (k : Int))
              obtain ⟨s1, s2, s3, -, -, -⟩ := wrong_facts hB
              refine bodyPost_ret (v := .agg #[.int .i64 12, .int .i64 3, .int .i64 (k : Int)]) ?_ rfl ⟨?_, hW⟩
              · simp [results, Tryz.results23, go_sem, s1, s2, s3]
              · rw [show formsW T = some (12, 3, (k : Int)) by rw [formsW_ord]; rw [HN0.out, HWcommon.out, Hno.out.found Hm.out (by rw [H0.out]; decide) 3, H0.out]; first | done | rfl]
                rfl
            | true =>
              by_cases h2 : m.c < 1
              · skip
                have H0 : Hid (markAt k m = 30) := Lib.hid (by unfold markAt; rw [if_neg (by rw [h1]; simp), if_pos (by omega)])
                go_wp2_with (first | (go_at_call 56; refine (valid_arm _ _ _ (by assumption)).mono ?_; rintro e w' ⟨rfl, rfl⟩) | (go_at_call 53; refine (tab_wrong _ _ _ _).mono ?_; rintro e w9 ⟨rfl, hb9⟩; have h9 := (Hr.out.step HE.out).step hb9; obtain ⟨r1, r2, r3, f1, f2, f3⟩ := h9.resF; have H9 := Lib.hid h9; clear h9))
                obtain ⟨hB, hW⟩ := (H9.out).ret (.int .i64 30) (.int .i64 3) (.int .i64 (k : Int))
                obtain ⟨s1, s2, s3, -, -, -⟩ := wrong_facts hB
                refine bodyPost_ret (v := .agg #[.int .i64 30, .int .i64 3, .int .i64 (k : Int)]) ?_ rfl ⟨?_, hW⟩
                · simp [results, Tryz.results23, go_sem, s1, s2, s3]
                · rw [show formsW T = some (30, 3, (k : Int)) by rw [formsW_ord]; rw [HN0.out, HWcommon.out, Hno.out.found Hm.out (by rw [H0.out]; decide) 3, H0.out]; first | done | rfl]
                  rfl
              · by_cases h3 : 254 < m.c
                · skip
                  have H0 : Hid (markAt k m = 30) := Lib.hid (by unfold markAt; rw [if_neg (by rw [h1]; simp), if_pos (by omega)])
                  go_wp2_with (first | (go_at_call 56; refine (valid_arm _ _ _ (by assumption)).mono ?_; rintro e w' ⟨rfl, rfl⟩) | (go_at_call 53; refine (tab_wrong _ _ _ _).mono ?_; rintro e w9 ⟨rfl, hb9⟩; have h9 := (Hr.out.step HE.out).step hb9; obtain ⟨r1, r2, r3, f1, f2, f3⟩ := h9.resF; have H9 := Lib.hid h9; clear h9))
                  obtain ⟨hB, hW⟩ := (H9.out).ret (.int .i64 30) (.int .i64 3) (.int .i64 (k : Int))
                  obtain ⟨s1, s2, s3, -, -, -⟩ := wrong_facts hB
                  refine bodyPost_ret (v := .agg #[.int .i64 30, .int .i64 3, .int .i64 (k : Int)]) ?_ rfl ⟨?_, hW⟩
                  · simp [results, Tryz.results23, go_sem, s1, s2, s3]
                  · rw [show formsW T = some (30, 3, (k : Int)) by rw [formsW_ord]; rw [HN0.out, HWcommon.out, Hno.out.found Hm.out (by rw [H0.out]; decide) 3, H0.out]; first | done | rfl]
                    rfl
                · have H0 : Hid (markAt k m = 0) := Lib.hid (by unfold markAt; rw [if_neg (by rw [h1]; simp), if_neg (by omega)])
                  go_wp2_with (go_at_call 56; refine (valid_arm _ _ _ (by assumption)).mono ?_; rintro e w' ⟨rfl, rfl⟩)
                  go_roundw
                  case rel => exact ⟨k + 1, by omega, by go_num, Hno.out.succ Hm.out H0.out, Hr.out.step HE.out⟩
                  case measure => simp [intOf]; omega
          · have hkn : n2 = k := by omega
            subst hkn
            have HN2 : Hid (scan (markAt) 3 0 T.marks = none) := Lib.hid (NoneTo.all (by rw [HLn2.out]; exact Hno.out) 3)
            obtain ⟨d0, d1, d2, d3, d4, d5, d6, d7, d8⟩ := chk_facts (HC.out.below Hr.out.below)
            clear Hno hno hrs
            go_wp2_with fail
            go_loopw [101] (fun i wr => ∃ k : Nat, k ≤ n3 ∧ i = .int .i64 (k : Int) ∧ NoneTo (pairAt) T.pairs k ∧ CS w wr) (fun i _ => n3 - (intOf i).toNat)
            case atStart => exact ⟨0, Nat.zero_le _, rfl, NoneTo.zero _ _, Hr.out⟩
            case round =>
              obtain ⟨k, hk, rfl, hno, hrs⟩ := hrel
              have Hno := Lib.hid hno
              have Hr := Lib.hid hrs
              by_cases hlt : k < n3
              · obtain ⟨m, hm⟩ : ∃ m, T.pairs[k]? = some m := ⟨_, List.getElem?_eq_getElem (by rw [HLn3.out]; exact hlt)⟩
                obtain ⟨a, rfl, e0, e1, e2⟩ := el3 HT.out.pairs hrs.below hm rfl
                have Hm := Lib.hid hm
                have k0 : (0 : Int) ≤ (k : Int) := by omega
                have k1 : (k : Int) < (n3 : Int) := by omega
                have HE := Lib.hid ((Below.refl _ wr).alloc (Nat.le_refl _) (.cells #[.int .i32 m.whole, .int .i32 m.base, .int .i32 m.mark] 77))
                have Hx := Lib.hid (Blk.new wr 77 #[.int .i32 m.whole, .int .i32 m.base, .int .i32 m.mark])
                clear hno hrs hm
                cases h1 : isRune m.whole with
                | false =>
                  have H0 : Hid (pairAt k m = 12) := Lib.hid (by unfold pairAt; rw [if_pos (.inl h1)])
                  go_wp2_with (first | (go_at_call 56; refine (valid_arm _ _ _ (by assumption)).mono ?_; rintro e w' ⟨rfl, rfl⟩) | (go_at_call 53; refine (tab_wrong _ _ _ _).mono ?_; rintro e w9 ⟨rfl, hb9⟩; have h9 := (Hr.out.step HE.out).step hb9; obtain ⟨r1, r2, r3, f1, f2, f3⟩ := h9.resF; have H9 := Lib.hid h9; clear h9))
                  obtain ⟨hB, hW⟩ := (H9.out).ret (.int .i64 12) (.int .i64 4) (.int .i64 (k : Int))
                  obtain ⟨s1, s2, s3, -, -, -⟩ := wrong_facts hB
                  refine bodyPost_ret (v := .agg #[.int .i64 12, .int .i64 4, .int .i64 (k : Int)]) ?_ rfl ⟨?_, hW⟩
                  · simp [results, Tryz.results23, go_sem, s1, s2, s3]
                  · rw [show formsW T = some (12, 4, (k : Int)) by rw [formsW_ord]; rw [HN0.out, HWcommon.out, HN2.out, Hno.out.found Hm.out (by rw [H0.out]; decide) 4, H0.out]; first | done | rfl]
                    rfl
                | true =>
                  cases h2 : isRune m.base with
                  | false =>
                    have H0 : Hid (pairAt k m = 12) := Lib.hid (by unfold pairAt; rw [if_pos (.inr (.inl h2))])
                    go_wp2_with (first | (go_at_call 56; refine (valid_arm _ _ _ (by assumption)).mono ?_; rintro e w' ⟨rfl, rfl⟩) | (go_at_call 53; refine (tab_wrong _ _ _ _).mono ?_; rintro e w9 ⟨rfl, hb9⟩; have h9 := (Hr.out.step HE.out).step hb9; obtain ⟨r1, r2, r3, f1, f2, f3⟩ := h9.resF; have H9 := Lib.hid h9; clear h9))
                    obtain ⟨hB, hW⟩ := (H9.out).ret (.int .i64 12) (.int .i64 4) (.int .i64 (k : Int))
                    obtain ⟨s1, s2, s3, -, -, -⟩ := wrong_facts hB
                    refine bodyPost_ret (v := .agg #[.int .i64 12, .int .i64 4, .int .i64 (k : Int)]) ?_ rfl ⟨?_, hW⟩
                    · simp [results, Tryz.results23, go_sem, s1, s2, s3]
                    · rw [show formsW T = some (12, 4, (k : Int)) by rw [formsW_ord]; rw [HN0.out, HWcommon.out, HN2.out, Hno.out.found Hm.out (by rw [H0.out]; decide) 4, H0.out]; first | done | rfl]
                      rfl
                  | true =>
                    cases h3 : isRune m.mark with
                    | false =>
                      have H0 : Hid (pairAt k m = 12) := Lib.hid (by unfold pairAt; rw [if_pos (.inr (.inr h3))])
                      go_wp2_with (first | (go_at_call 56; refine (valid_arm _ _ _ (by assumption)).mono ?_; rintro e w' ⟨rfl, rfl⟩) | (go_at_call 53; refine (tab_wrong _ _ _ _).mono ?_; rintro e w9 ⟨rfl, hb9⟩; have h9 := (Hr.out.step HE.out).step hb9; obtain ⟨r1, r2, r3, f1, f2, f3⟩ := h9.resF; have H9 := Lib.hid h9; clear h9))
                      obtain ⟨hB, hW⟩ := (H9.out).ret (.int .i64 12) (.int .i64 4) (.int .i64 (k : Int))
                      obtain ⟨s1, s2, s3, -, -, -⟩ := wrong_facts hB
                      refine bodyPost_ret (v := .agg #[.int .i64 12, .int .i64 4, .int .i64 (k : Int)]) ?_ rfl ⟨?_, hW⟩
                      · simp [results, Tryz.results23, go_sem, s1, s2, s3]
                      · rw [show formsW T = some (12, 4, (k : Int)) by rw [formsW_ord]; rw [HN0.out, HWcommon.out, HN2.out, Hno.out.found Hm.out (by rw [H0.out]; decide) 4, H0.out]; first | done | rfl]
                        rfl
                    | true =>
                      have H0 : Hid (pairAt k m = 0) := Lib.hid (by unfold pairAt; rw [if_neg (by rw [h1, h2, h3]; simp)])
                      go_wp2_with (go_at_call 56; refine (valid_arm _ _ _ (by assumption)).mono ?_; rintro e w' ⟨rfl, rfl⟩)
                      go_roundw
                      case rel => exact ⟨k + 1, by omega, by go_num, Hno.out.succ Hm.out H0.out, Hr.out.step HE.out⟩
                      case measure => simp [intOf]; omega
              · have hkn : n3 = k := by omega
                subst hkn
                have HN3 : Hid (scan (pairAt) 4 0 T.pairs = none) := Lib.hid (NoneTo.all (by rw [HLn3.out]; exact Hno.out) 4)
                obtain ⟨d0, d1, d2, d3, d4, d5, d6, d7, d8⟩ := chk_facts (HC.out.below Hr.out.below)
                clear Hno hno hrs
                go_wp2_with fail
                go_region
                have hBd : Below wr.heap.size wr ((wr.alloc (.cells #[(.slice A4 n4 c4), (.slice A5 n5 c5)] 26)).drew) := ((Below.refl _ wr).alloc (Nat.le_refl _) _).drew
                have hg2 : Blk ((wr.alloc (.cells #[(.slice A4 n4 c4), (.slice A5 n5 c5)] 26)).drew) wr.heap.size 26 #[(.slice A4 n4 c4), (.slice A5 n5 c5)] := (Blk.new wr _ _).of rfl
                have hr2 := Hr.out.step hBd
                obtain ⟨g9, hge⟩ : ∃ g, wr.heap.size = g := ⟨_, rfl⟩
                rw [hge] at hg2
                simp only [hge]
                obtain ⟨W2, hW2⟩ : ∃ W2, (wr.alloc (.cells #[(.slice A4 n4 c4), (.slice A5 n5 c5)] 26)).drew = W2 := ⟨_, rfl⟩
                rw [hW2] at hr2 hg2 ⊢
                have Hr2 := Lib.hid hr2
                have Hg2 := Lib.hid hg2
                clear hW2 hge hBd hr2 hg2 Hr d0 d1 d2 d3 d4 d5 d6 d7 d8
                go_wp2_with fail
                go_loopw [137] (fun i wr => ∃ k : Int, (k = 0 ∨ k = 1 ∨ k = 2) ∧ i = .int .i64 k ∧ Hid ((1 ≤ k → scan mapAt 5 0 T.folds = none) ∧ (2 ≤ k → scan mapAt 6 0 T.looks = none)) ∧ CS w wr ∧ Blk wr g9 26 #[(.slice A4 n4 c4), (.slice A5 n5 c5)]) (fun i _ => 2 - (intOf i).toNat)
                case atStart => exact ⟨0, by omega, rfl, Lib.hid ⟨by omega, by omega⟩, Hr2.out, Hg2.out⟩
                case round =>
                  clear Hr2 Hg2
                  obtain ⟨kk, hkc, rfl, hinv, hrs, hgb⟩ := hrel
                  have Hr := Lib.hid hrs
                  have Hg := Lib.hid hgb
                  rcases hkc with rfl | rfl | rfl
                  · have u0 : wr.cell? ⟨g9, 0, none⟩ = some (.slice A4 n4 c4) := hgb.cell 0
                    clear hrs hgb
                    go_wp2_with fail
                    go_loopw [144] (fun i wr => ∃ k : Nat, k ≤ n4 ∧ i = .int .i64 (k : Int) ∧ NoneTo (mapAt) T.folds k ∧ CS w wr ∧ Blk wr g9 26 #[(.slice A4 n4 c4), (.slice A5 n5 c5)]) (fun i _ => n4 - (intOf i).toNat)
                    case atStart => exact ⟨0, Nat.zero_le _, rfl, NoneTo.zero _ _, Hr.out, Hg.out⟩
                    case round =>
                      clear Hr Hg
                      obtain ⟨k, hk, rfl, hno, hrs, hgb⟩ := hrel
                      have Hno := Lib.hid hno
                      have Hr := Lib.hid hrs
                      by_cases hlt : k < n4
                      · obtain ⟨m, hm⟩ : ∃ m, T.folds[k]? = some m := ⟨_, List.getElem?_eq_getElem (by rw [HLn4.out]; exact hlt)⟩
                        obtain ⟨a, rfl, e0, e1⟩ := el2 HT.out.folds hrs.below hm rfl
                        have Hm := Lib.hid hm
                        have k0 : (0 : Int) ≤ (k : Int) := by omega
                        have k1 : (k : Int) < (n4 : Int) := by omega
                        have HE := Lib.hid ((Below.refl _ wr).alloc (Nat.le_refl _) (.cells #[.int .i32 m.frm, .string m.to] 79))
                        have Hx := Lib.hid (Blk.new wr 79 #[.int .i32 m.frm, .string m.to])
                        have hsz := (HO.out.folds m (List.mem_of_getElem? hm)).2
                        have HCt := Lib.hid (fun w0 => count_arm m.to w0 hsz)
                        have HVs := Lib.hid (fun b (hb : Lib.validD m.to.data.toList = b) w0 hT => valid_str m.to w0 hsz hT b hb)
                        have H1 := Lib.hid (fun h => mapAt_to (k := k) (m := m) h)
                        have hcl := count_le m.to
                        generalize Lib.runeCount m.to = nn at *
                        have HG2 := Lib.hid hgb
                        clear hno hrs hm hgb
                        cases h1 : isRune m.frm with
                        | false =>
                          have H0 : Hid (mapAt k m = 12) := Lib.hid (mapAt_from h1)
                          go_wp2_with (first | (first | (go_at_call 57; refine (HCt.out _).mono ?_; rintro e w2 ⟨rfl, hb2⟩; have HB2 := Lib.hid (below_trans HE.out hb2); have x0 : w2.cell? ⟨wr.heap.size, 0, none⟩ = some (.int .i32 m.frm) := (Hx.out.below hb2).cell 0; have x1 : w2.cell? ⟨wr.heap.size, 1, none⟩ = some (.string m.to) := (Hx.out.below hb2).cell 1) | (go_at_call 56; refine (valid_arm _ _ _ (by assumption)).mono ?_; rintro e w' ⟨rfl, rfl⟩)) | (go_at_call 53; refine (tab_wrong _ _ _ _).mono ?_; rintro e w9 ⟨rfl, hb9⟩; have h9 := (Hr.out.step HB2.out).step hb9; obtain ⟨r1, r2, r3, f1, f2, f3⟩ := h9.resF; have H9 := Lib.hid h9; clear h9))
                          obtain ⟨hB, hW⟩ := (H9.out).ret (.int .i64 12) (.int .i64 5) (.int .i64 (k : Int))
                          obtain ⟨s1, s2, s3, -, -, -⟩ := wrong_facts hB
                          refine bodyPost_ret (v := .agg #[.int .i64 12, .int .i64 5, .int .i64 (k : Int)]) ?_ rfl ⟨?_, hW⟩
                          · simp [results, Tryz.results23, go_sem, s1, s2, s3]
                          · rw [show formsW T = some (12, 5, (k : Int)) by rw [formsW_ord]; rw [HN0.out, HWcommon.out, HN2.out, HN3.out, Hno.out.found Hm.out (by rw [H0.out]; decide) 5, H0.out]; first | done | rfl]
                            rfl
                        | true =>
                          have H2 := H1.out h1
                          have H2 := Lib.hid H2
                          cases h2 : Lib.validD m.to.data.toList with
                          | false =>
                            have H0 : Hid (mapAt k m = 35) := Lib.hid (by rw [H2.out, if_neg (by rw [h2]; rintro ⟨h, _⟩; cases h)])
                            go_wp2_with (first | (first | (go_at_call 57; refine (HCt.out _).mono ?_; rintro e w2 ⟨rfl, hb2⟩; have HB2 := Lib.hid (below_trans HE.out hb2); have x0 : w2.cell? ⟨wr.heap.size, 0, none⟩ = some (.int .i32 m.frm) := (Hx.out.below hb2).cell 0; have x1 : w2.cell? ⟨wr.heap.size, 1, none⟩ = some (.string m.to) := (Hx.out.below hb2).cell 1) | (go_at_call 56; refine (valid_arm _ _ _ (by assumption)).mono ?_; rintro e w' ⟨rfl, rfl⟩) | (go_at_call 58; refine (HVs.out _ (by assumption) _ (Utf8Tabs_below HU.out (Hr.out.step HB2.out).below)).mono ?_; rintro e w3 ⟨rfl, hb3⟩; have HB3 := Lib.hid (below_trans HB2.out hb3))) | (go_at_call 53; refine (tab_wrong _ _ _ _).mono ?_; rintro e w9 ⟨rfl, hb9⟩; have h9 := (Hr.out.step HB3.out).step hb9; obtain ⟨r1, r2, r3, f1, f2, f3⟩ := h9.resF; have H9 := Lib.hid h9; clear h9))
                            obtain ⟨hB, hW⟩ := (H9.out).ret (.int .i64 35) (.int .i64 5) (.int .i64 (k : Int))
                            obtain ⟨s1, s2, s3, -, -, -⟩ := wrong_facts hB
                            refine bodyPost_ret (v := .agg #[.int .i64 35, .int .i64 5, .int .i64 (k : Int)]) ?_ rfl ⟨?_, hW⟩
                            · simp [results, Tryz.results23, go_sem, s1, s2, s3]
                            · rw [show formsW T = some (35, 5, (k : Int)) by rw [formsW_ord]; rw [HN0.out, HWcommon.out, HN2.out, HN3.out, Hno.out.found Hm.out (by rw [H0.out]; decide) 5, H0.out]; first | done | rfl]
                              rfl
                          | true =>
                            by_cases h3 : (nn : Int) < 1
                            · skip
                              have H0 : Hid (mapAt k m = 35) := Lib.hid (by rw [H2.out, if_neg (by omega)])
                              go_wp2_with (first | (first | (go_at_call 57; refine (HCt.out _).mono ?_; rintro e w2 ⟨rfl, hb2⟩; have HB2 := Lib.hid (below_trans HE.out hb2); have x0 : w2.cell? ⟨wr.heap.size, 0, none⟩ = some (.int .i32 m.frm) := (Hx.out.below hb2).cell 0; have x1 : w2.cell? ⟨wr.heap.size, 1, none⟩ = some (.string m.to) := (Hx.out.below hb2).cell 1) | (go_at_call 56; refine (valid_arm _ _ _ (by assumption)).mono ?_; rintro e w' ⟨rfl, rfl⟩) | (go_at_call 58; refine (HVs.out _ (by assumption) _ (Utf8Tabs_below HU.out (Hr.out.step HB2.out).below)).mono ?_; rintro e w3 ⟨rfl, hb3⟩; have HB3 := Lib.hid (below_trans HB2.out hb3))) | (go_at_call 53; refine (tab_wrong _ _ _ _).mono ?_; rintro e w9 ⟨rfl, hb9⟩; have h9 := (Hr.out.step HB3.out).step hb9; obtain ⟨r1, r2, r3, f1, f2, f3⟩ := h9.resF; have H9 := Lib.hid h9; clear h9))
                              obtain ⟨hB, hW⟩ := (H9.out).ret (.int .i64 35) (.int .i64 5) (.int .i64 (k : Int))
                              obtain ⟨s1, s2, s3, -, -, -⟩ := wrong_facts hB
                              refine bodyPost_ret (v := .agg #[.int .i64 35, .int .i64 5, .int .i64 (k : Int)]) ?_ rfl ⟨?_, hW⟩
                              · simp [results, Tryz.results23, go_sem, s1, s2, s3]
                              · rw [show formsW T = some (35, 5, (k : Int)) by rw [formsW_ord]; rw [HN0.out, HWcommon.out, HN2.out, HN3.out, Hno.out.found Hm.out (by rw [H0.out]; decide) 5, H0.out]; first | done | rfl]
                                rfl
                            · by_cases h4 : (4 : Int) < (nn : Int)
                              · skip
                                have H0 : Hid (mapAt k m = 35) := Lib.hid (by rw [H2.out, if_neg (by omega)])
                                go_wp2_with (first | (first | (go_at_call 57; refine (HCt.out _).mono ?_; rintro e w2 ⟨rfl, hb2⟩; have HB2 := Lib.hid (below_trans HE.out hb2); have x0 : w2.cell? ⟨wr.heap.size, 0, none⟩ = some (.int .i32 m.frm) := (Hx.out.below hb2).cell 0; have x1 : w2.cell? ⟨wr.heap.size, 1, none⟩ = some (.string m.to) := (Hx.out.below hb2).cell 1) | (go_at_call 56; refine (valid_arm _ _ _ (by assumption)).mono ?_; rintro e w' ⟨rfl, rfl⟩) | (go_at_call 58; refine (HVs.out _ (by assumption) _ (Utf8Tabs_below HU.out (Hr.out.step HB2.out).below)).mono ?_; rintro e w3 ⟨rfl, hb3⟩; have HB3 := Lib.hid (below_trans HB2.out hb3))) | (go_at_call 53; refine (tab_wrong _ _ _ _).mono ?_; rintro e w9 ⟨rfl, hb9⟩; have h9 := (Hr.out.step HB3.out).step hb9; obtain ⟨r1, r2, r3, f1, f2, f3⟩ := h9.resF; have H9 := Lib.hid h9; clear h9))
                                obtain ⟨hB, hW⟩ := (H9.out).ret (.int .i64 35) (.int .i64 5) (.int .i64 (k : Int))
                                obtain ⟨s1, s2, s3, -, -, -⟩ := wrong_facts hB
                                refine bodyPost_ret (v := .agg #[.int .i64 35, .int .i64 5, .int .i64 (k : Int)]) ?_ rfl ⟨?_, hW⟩
                                · simp [results, Tryz.results23, go_sem, s1, s2, s3]
                                · rw [show formsW T = some (35, 5, (k : Int)) by rw [formsW_ord]; rw [HN0.out, HWcommon.out, HN2.out, HN3.out, Hno.out.found Hm.out (by rw [H0.out]; decide) 5, H0.out]; first | done | rfl]
                                  rfl
                              · have H0 : Hid (mapAt k m = 0) := Lib.hid (by rw [H2.out, if_pos ⟨h2, by omega, by omega⟩])
                                go_wp2_with (first | (go_at_call 57; refine (HCt.out _).mono ?_; rintro e w2 ⟨rfl, hb2⟩; have HB2 := Lib.hid (below_trans HE.out hb2); have x0 : w2.cell? ⟨wr.heap.size, 0, none⟩ = some (.int .i32 m.frm) := (Hx.out.below hb2).cell 0; have x1 : w2.cell? ⟨wr.heap.size, 1, none⟩ = some (.string m.to) := (Hx.out.below hb2).cell 1) | (go_at_call 56; refine (valid_arm _ _ _ (by assumption)).mono ?_; rintro e w' ⟨rfl, rfl⟩) | (go_at_call 58; refine (HVs.out _ (by assumption) _ (Utf8Tabs_below HU.out (Hr.out.step HB2.out).below)).mono ?_; rintro e w3 ⟨rfl, hb3⟩; have HB3 := Lib.hid (below_trans HB2.out hb3)))
                                go_roundw
                                case rel => exact ⟨k + 1, by omega, by go_num, Hno.out.succ Hm.out H0.out, Hr.out.step HB3.out, HG2.out.below HB3.out⟩
                                case measure => simp [intOf]; omega
                      · have hkn : n4 = k := by omega
                        subst hkn
                        have HN4 : Hid (scan (mapAt) 5 0 T.folds = none) := Lib.hid (NoneTo.all (by rw [HLn4.out]; exact Hno.out) 5)
                        obtain ⟨d0, d1, d2, d3, d4, d5, d6, d7, d8⟩ := chk_facts (HC.out.below Hr.out.below)
                        clear Hno hno hrs
                        have Hg := Lib.hid hgb
                        clear hgb
                        go_wp2_with fail
                        go_roundw
                        case rel => exact ⟨1, by omega, by go_num, Lib.hid ⟨fun _ => HN4.out, fun h => by omega⟩, Hr.out, Hg.out⟩
                        case measure => simp [intOf]
                  · have u0 : wr.cell? ⟨g9, 1, none⟩ = some (.slice A5 n5 c5) := hgb.cell 1
                    clear hrs hgb
                    go_wp2_with fail
                    go_loopw [144] (fun i wr => ∃ k : Nat, k ≤ n5 ∧ i = .int .i64 (k : Int) ∧ NoneTo (mapAt) T.looks k ∧ CS w wr ∧ Blk wr g9 26 #[(.slice A4 n4 c4), (.slice A5 n5 c5)]) (fun i _ => n5 - (intOf i).toNat)
                    case atStart => exact ⟨0, Nat.zero_le _, rfl, NoneTo.zero _ _, Hr.out, Hg.out⟩
                    case round =>
                      clear Hr Hg
                      obtain ⟨k, hk, rfl, hno, hrs, hgb⟩ := hrel
                      have Hno := Lib.hid hno
                      have Hr := Lib.hid hrs
                      by_cases hlt : k < n5
                      · obtain ⟨m, hm⟩ : ∃ m, T.looks[k]? = some m := ⟨_, List.getElem?_eq_getElem (by rw [HLn5.out]; exact hlt)⟩
                        obtain ⟨a, rfl, e0, e1⟩ := el2 HT.out.looks hrs.below hm rfl
                        have Hm := Lib.hid hm
                        have k0 : (0 : Int) ≤ (k : Int) := by omega
                        have k1 : (k : Int) < (n5 : Int) := by omega
                        have HE := Lib.hid ((Below.refl _ wr).alloc (Nat.le_refl _) (.cells #[.int .i32 m.frm, .string m.to] 79))
                        have Hx := Lib.hid (Blk.new wr 79 #[.int .i32 m.frm, .string m.to])
                        have hsz := (HO.out.looks m (List.mem_of_getElem? hm)).2
                        have HCt := Lib.hid (fun w0 => count_arm m.to w0 hsz)
                        have HVs := Lib.hid (fun b (hb : Lib.validD m.to.data.toList = b) w0 hT => valid_str m.to w0 hsz hT b hb)
                        have H1 := Lib.hid (fun h => mapAt_to (k := k) (m := m) h)
                        have hcl := count_le m.to
                        generalize Lib.runeCount m.to = nn at *
                        have HG2 := Lib.hid hgb
                        clear hno hrs hm hgb
                        cases h1 : isRune m.frm with
                        | false =>
                          have H0 : Hid (mapAt k m = 12) := Lib.hid (mapAt_from h1)
                          go_wp2_with (first | (first | (go_at_call 57; refine (HCt.out _).mono ?_; rintro e w2 ⟨rfl, hb2⟩; have HB2 := Lib.hid (below_trans HE.out hb2); have x0 : w2.cell? ⟨wr.heap.size, 0, none⟩ = some (.int .i32 m.frm) := (Hx.out.below hb2).cell 0; have x1 : w2.cell? ⟨wr.heap.size, 1, none⟩ = some (.string m.to) := (Hx.out.below hb2).cell 1) | (go_at_call 56; refine (valid_arm _ _ _ (by assumption)).mono ?_; rintro e w' ⟨rfl, rfl⟩)) | (go_at_call 53; refine (tab_wrong _ _ _ _).mono ?_; rintro e w9 ⟨rfl, hb9⟩; have h9 := (Hr.out.step HB2.out).step hb9; obtain ⟨r1, r2, r3, f1, f2, f3⟩ := h9.resF; have H9 := Lib.hid h9; clear h9))
                          obtain ⟨hB, hW⟩ := (H9.out).ret (.int .i64 12) (.int .i64 6) (.int .i64 (k : Int))
                          obtain ⟨s1, s2, s3, -, -, -⟩ := wrong_facts hB
                          refine bodyPost_ret (v := .agg #[.int .i64 12, .int .i64 6, .int .i64 (k : Int)]) ?_ rfl ⟨?_, hW⟩
                          · simp [results, Tryz.results23, go_sem, s1, s2, s3]
                          · rw [show formsW T = some (12, 6, (k : Int)) by rw [formsW_ord]; rw [HN0.out, HWcommon.out, HN2.out, HN3.out, show scan mapAt 5 0 T.folds = none from hinv.out.1 (by omega), Hno.out.found Hm.out (by rw [H0.out]; decide) 6, H0.out]; first | done | rfl]
                            rfl
                        | true =>
                          have H2 := H1.out h1
                          have H2 := Lib.hid H2
                          cases h2 : Lib.validD m.to.data.toList with
                          | false =>
                            have H0 : Hid (mapAt k m = 35) := Lib.hid (by rw [H2.out, if_neg (by rw [h2]; rintro ⟨h, _⟩; cases h)])
                            go_wp2_with (first | (first | (go_at_call 57; refine (HCt.out _).mono ?_; rintro e w2 ⟨rfl, hb2⟩; have HB2 := Lib.hid (below_trans HE.out hb2); have x0 : w2.cell? ⟨wr.heap.size, 0, none⟩ = some (.int .i32 m.frm) := (Hx.out.below hb2).cell 0; have x1 : w2.cell? ⟨wr.heap.size, 1, none⟩ = some (.string m.to) := (Hx.out.below hb2).cell 1) | (go_at_call 56; refine (valid_arm _ _ _ (by assumption)).mono ?_; rintro e w' ⟨rfl, rfl⟩) | (go_at_call 58; refine (HVs.out _ (by assumption) _ (Utf8Tabs_below HU.out (Hr.out.step HB2.out).below)).mono ?_; rintro e w3 ⟨rfl, hb3⟩; have HB3 := Lib.hid (below_trans HB2.out hb3))) | (go_at_call 53; refine (tab_wrong _ _ _ _).mono ?_; rintro e w9 ⟨rfl, hb9⟩; have h9 := (Hr.out.step HB3.out).step hb9; obtain ⟨r1, r2, r3, f1, f2, f3⟩ := h9.resF; have H9 := Lib.hid h9; clear h9))
                            obtain ⟨hB, hW⟩ := (H9.out).ret (.int .i64 35) (.int .i64 6) (.int .i64 (k : Int))
                            obtain ⟨s1, s2, s3, -, -, -⟩ := wrong_facts hB
                            refine bodyPost_ret (v := .agg #[.int .i64 35, .int .i64 6, .int .i64 (k : Int)]) ?_ rfl ⟨?_, hW⟩
                            · simp [results, Tryz.results23, go_sem, s1, s2, s3]
                            · rw [show formsW T = some (35, 6, (k : Int)) by rw [formsW_ord]; rw [HN0.out, HWcommon.out, HN2.out, HN3.out, show scan mapAt 5 0 T.folds = none from hinv.out.1 (by omega), Hno.out.found Hm.out (by rw [H0.out]; decide) 6, H0.out]; first | done | rfl]
                              rfl
                          | true =>
                            by_cases h3 : (nn : Int) < 1
                            · skip
                              have H0 : Hid (mapAt k m = 35) := Lib.hid (by rw [H2.out, if_neg (by omega)])
                              go_wp2_with (first | (first | (go_at_call 57; refine (HCt.out _).mono ?_; rintro e w2 ⟨rfl, hb2⟩; have HB2 := Lib.hid (below_trans HE.out hb2); have x0 : w2.cell? ⟨wr.heap.size, 0, none⟩ = some (.int .i32 m.frm) := (Hx.out.below hb2).cell 0; have x1 : w2.cell? ⟨wr.heap.size, 1, none⟩ = some (.string m.to) := (Hx.out.below hb2).cell 1) | (go_at_call 56; refine (valid_arm _ _ _ (by assumption)).mono ?_; rintro e w' ⟨rfl, rfl⟩) | (go_at_call 58; refine (HVs.out _ (by assumption) _ (Utf8Tabs_below HU.out (Hr.out.step HB2.out).below)).mono ?_; rintro e w3 ⟨rfl, hb3⟩; have HB3 := Lib.hid (below_trans HB2.out hb3))) | (go_at_call 53; refine (tab_wrong _ _ _ _).mono ?_; rintro e w9 ⟨rfl, hb9⟩; have h9 := (Hr.out.step HB3.out).step hb9; obtain ⟨r1, r2, r3, f1, f2, f3⟩ := h9.resF; have H9 := Lib.hid h9; clear h9))
                              obtain ⟨hB, hW⟩ := (H9.out).ret (.int .i64 35) (.int .i64 6) (.int .i64 (k : Int))
                              obtain ⟨s1, s2, s3, -, -, -⟩ := wrong_facts hB
                              refine bodyPost_ret (v := .agg #[.int .i64 35, .int .i64 6, .int .i64 (k : Int)]) ?_ rfl ⟨?_, hW⟩
                              · simp [results, Tryz.results23, go_sem, s1, s2, s3]
                              · rw [show formsW T = some (35, 6, (k : Int)) by rw [formsW_ord]; rw [HN0.out, HWcommon.out, HN2.out, HN3.out, show scan mapAt 5 0 T.folds = none from hinv.out.1 (by omega), Hno.out.found Hm.out (by rw [H0.out]; decide) 6, H0.out]; first | done | rfl]
                                rfl
                            · by_cases h4 : (4 : Int) < (nn : Int)
                              · skip
                                have H0 : Hid (mapAt k m = 35) := Lib.hid (by rw [H2.out, if_neg (by omega)])
                                go_wp2_with (first | (first | (go_at_call 57; refine (HCt.out _).mono ?_; rintro e w2 ⟨rfl, hb2⟩; have HB2 := Lib.hid (below_trans HE.out hb2); have x0 : w2.cell? ⟨wr.heap.size, 0, none⟩ = some (.int .i32 m.frm) := (Hx.out.below hb2).cell 0; have x1 : w2.cell? ⟨wr.heap.size, 1, none⟩ = some (.string m.to) := (Hx.out.below hb2).cell 1) | (go_at_call 56; refine (valid_arm _ _ _ (by assumption)).mono ?_; rintro e w' ⟨rfl, rfl⟩) | (go_at_call 58; refine (HVs.out _ (by assumption) _ (Utf8Tabs_below HU.out (Hr.out.step HB2.out).below)).mono ?_; rintro e w3 ⟨rfl, hb3⟩; have HB3 := Lib.hid (below_trans HB2.out hb3))) | (go_at_call 53; refine (tab_wrong _ _ _ _).mono ?_; rintro e w9 ⟨rfl, hb9⟩; have h9 := (Hr.out.step HB3.out).step hb9; obtain ⟨r1, r2, r3, f1, f2, f3⟩ := h9.resF; have H9 := Lib.hid h9; clear h9))
                                obtain ⟨hB, hW⟩ := (H9.out).ret (.int .i64 35) (.int .i64 6) (.int .i64 (k : Int))
                                obtain ⟨s1, s2, s3, -, -, -⟩ := wrong_facts hB
                                refine bodyPost_ret (v := .agg #[.int .i64 35, .int .i64 6, .int .i64 (k : Int)]) ?_ rfl ⟨?_, hW⟩
                                · simp [results, Tryz.results23, go_sem, s1, s2, s3]
                                · rw [show formsW T = some (35, 6, (k : Int)) by rw [formsW_ord]; rw [HN0.out, HWcommon.out, HN2.out, HN3.out, show scan mapAt 5 0 T.folds = none from hinv.out.1 (by omega), Hno.out.found Hm.out (by rw [H0.out]; decide) 6, H0.out]; first | done | rfl]
                                  rfl
                              · have H0 : Hid (mapAt k m = 0) := Lib.hid (by rw [H2.out, if_pos ⟨h2, by omega, by omega⟩])
                                go_wp2_with (first | (go_at_call 57; refine (HCt.out _).mono ?_; rintro e w2 ⟨rfl, hb2⟩; have HB2 := Lib.hid (below_trans HE.out hb2); have x0 : w2.cell? ⟨wr.heap.size, 0, none⟩ = some (.int .i32 m.frm) := (Hx.out.below hb2).cell 0; have x1 : w2.cell? ⟨wr.heap.size, 1, none⟩ = some (.string m.to) := (Hx.out.below hb2).cell 1) | (go_at_call 56; refine (valid_arm _ _ _ (by assumption)).mono ?_; rintro e w' ⟨rfl, rfl⟩) | (go_at_call 58; refine (HVs.out _ (by assumption) _ (Utf8Tabs_below HU.out (Hr.out.step HB2.out).below)).mono ?_; rintro e w3 ⟨rfl, hb3⟩; have HB3 := Lib.hid (below_trans HB2.out hb3)))
                                go_roundw
                                case rel => exact ⟨k + 1, by omega, by go_num, Hno.out.succ Hm.out H0.out, Hr.out.step HB3.out, HG2.out.below HB3.out⟩
                                case measure => simp [intOf]; omega
                      · have hkn : n5 = k := by omega
                        subst hkn
                        have HN5 : Hid (scan (mapAt) 6 0 T.looks = none) := Lib.hid (NoneTo.all (by rw [HLn5.out]; exact Hno.out) 6)
                        obtain ⟨d0, d1, d2, d3, d4, d5, d6, d7, d8⟩ := chk_facts (HC.out.below Hr.out.below)
                        clear Hno hno hrs
                        have Hg := Lib.hid hgb
                        clear hgb
                        go_wp2_with fail
                        go_roundw
                        case rel => exact ⟨2, by omega, by go_num, Lib.hid ⟨fun _ => hinv.out.1 (by omega), fun h => HN5.out⟩, Hr.out, Hg.out⟩
                        case measure => simp [intOf]
                  · obtain ⟨d0, d1, d2, d3, d4, d5, d6, d7, d8⟩ := chk_facts (HC.out.below Hr.out.below)
                    clear hrs hgb
                    go_wp2_with fail
                    have hinvF := hinv
                    clear hinv Hg
                    go_region
                    have hBd : Below wr.heap.size wr ((wr.alloc (.cells #[(.slice A6 n6 c6), (.slice A7 n7 c7)] 23)).drew) := ((Below.refl _ wr).alloc (Nat.le_refl _) _).drew
                    have hg2 : Blk ((wr.alloc (.cells #[(.slice A6 n6 c6), (.slice A7 n7 c7)] 23)).drew) wr.heap.size 23 #[(.slice A6 n6 c6), (.slice A7 n7 c7)] := (Blk.new wr _ _).of rfl
                    have hr2 := Hr.out.step hBd
                    obtain ⟨g9, hge⟩ : ∃ g, wr.heap.size = g := ⟨_, rfl⟩
                    rw [hge] at hg2
                    simp only [hge]
                    obtain ⟨W2, hW2⟩ : ∃ W2, (wr.alloc (.cells #[(.slice A6 n6 c6), (.slice A7 n7 c7)] 23)).drew = W2 := ⟨_, rfl⟩
                    rw [hW2] at hr2 hg2 ⊢
                    have Hr2 := Lib.hid hr2
                    have Hg2 := Lib.hid hg2
                    clear hW2 hge hBd hr2 hg2 Hr d0 d1 d2 d3 d4 d5 d6 d7 d8
                    go_wp2_with fail
                    go_loopw [192] (fun i wr => ∃ k : Int, (k = 0 ∨ k = 1 ∨ k = 2) ∧ i = .int .i64 k ∧ Hid ((1 ≤ k → spansW T.drops 7 = none) ∧ (2 ≤ k → spansW T.allowed 8 = none)) ∧ CS w wr ∧ Blk wr g9 23 #[(.slice A6 n6 c6), (.slice A7 n7 c7)]) (fun i _ => 2 - (intOf i).toNat)
                    case atStart => exact ⟨0, by omega, rfl, Lib.hid ⟨by omega, by omega⟩, Hr2.out, Hg2.out⟩
                    case round =>
                      clear Hr2 Hg2
                      obtain ⟨kk, hkc, rfl, hinv, hrs, hgb⟩ := hrel
                      have Hr := Lib.hid hrs
                      have Hg := Lib.hid hgb
                      rcases hkc with rfl | rfl | rfl
                      · have u0 : wr.cell? ⟨g9, 0, none⟩ = some (.slice A6 n6 c6) := hgb.cell 0
                        clear hrs hgb
                        have hri := set_Right T.drops (HT.out.drops.below Hr.out.below)
                        cases hcw : spansW T.drops 0 with
                        | some x =>
                          obtain ⟨xa, xb, xc⟩ := x
                          have hne := spansW_ne hcw
                          have h1 : (xa != 0) = true := by simpa using hne
                          have HW : Hid (spansW T.drops 7 = some (xa, 7, xc)) := Lib.hid (by rw [spansW_list, hcw]; rfl)
                          rw [rightP_some hcw] at hri
                          have HR := Lib.hid hri
                          clear hri hcw hne
                          go_wp2_with (first | (go_at_call 55; refine HR.out.mono ?_; rintro e w3 ⟨rfl, hb3⟩; have HB3 := Lib.hid hb3) | (go_at_call 53; refine (tab_wrong _ _ _ _).mono ?_; rintro e w9 ⟨rfl, hb9⟩; have h9 := (Hr.out.step HB3.out).step hb9; obtain ⟨r1, r2, r3, f1, f2, f3⟩ := h9.resF; have H9 := Lib.hid h9; clear h9))
                          obtain ⟨hB, hW⟩ := (H9.out).ret (.int .i64 xa) (.int .i64 7) (.int .i64 xc)
                          obtain ⟨s1, s2, s3, -, -, -⟩ := wrong_facts hB
                          refine bodyPost_ret (v := .agg #[.int .i64 xa, .int .i64 7, .int .i64 xc]) ?_ rfl ⟨?_, hW⟩
                          · simp [results, Tryz.results23, go_sem, s1, s2, s3]
                          · rw [show formsW T = some (xa, 7, xc) by rw [formsW_ord]; rw [HN0.out, HWcommon.out, HN2.out, HN3.out, show scan mapAt 5 0 T.folds = none from hinvF.out.1 (by omega), show scan mapAt 6 0 T.looks = none from hinvF.out.2 (by omega), HW.out]; first | done | rfl]
                            rfl
                        | none =>
                          have HWdrops : Hid (spansW T.drops 7 = none) := Lib.hid (by rw [spansW_list, hcw]; rfl)
                          rw [rightP_none hcw] at hri
                          have HR := Lib.hid hri
                          clear hri hcw
                          go_wp2_with (go_at_call 55; refine HR.out.mono ?_; rintro e w3 ⟨rfl, hb3⟩; have HB3 := Lib.hid hb3)
                          go_roundw
                          case rel => exact ⟨1, by omega, by go_num, Lib.hid ⟨fun _ => HWdrops.out, fun h => by omega⟩, Hr.out.step HB3.out, Hg.out.below HB3.out⟩
                          case measure => simp [intOf]
                      · have u0 : wr.cell? ⟨g9, 1, none⟩ = some (.slice A7 n7 c7) := hgb.cell 1
                        clear hrs hgb
                        have hri := set_Right T.allowed (HT.out.allowed.below Hr.out.below)
                        cases hcw : spansW T.allowed 0 with
                        | some x =>
                          obtain ⟨xa, xb, xc⟩ := x
                          have hne := spansW_ne hcw
                          have h1 : (xa != 0) = true := by simpa using hne
                          have HW : Hid (spansW T.allowed 8 = some (xa, 8, xc)) := Lib.hid (by rw [spansW_list, hcw]; rfl)
                          rw [rightP_some hcw] at hri
                          have HR := Lib.hid hri
                          clear hri hcw hne
                          go_wp2_with (first | (go_at_call 55; refine HR.out.mono ?_; rintro e w3 ⟨rfl, hb3⟩; have HB3 := Lib.hid hb3) | (go_at_call 53; refine (tab_wrong _ _ _ _).mono ?_; rintro e w9 ⟨rfl, hb9⟩; have h9 := (Hr.out.step HB3.out).step hb9; obtain ⟨r1, r2, r3, f1, f2, f3⟩ := h9.resF; have H9 := Lib.hid h9; clear h9))
                          obtain ⟨hB, hW⟩ := (H9.out).ret (.int .i64 xa) (.int .i64 8) (.int .i64 xc)
                          obtain ⟨s1, s2, s3, -, -, -⟩ := wrong_facts hB
                          refine bodyPost_ret (v := .agg #[.int .i64 xa, .int .i64 8, .int .i64 xc]) ?_ rfl ⟨?_, hW⟩
                          · simp [results, Tryz.results23, go_sem, s1, s2, s3]
                          · rw [show formsW T = some (xa, 8, xc) by rw [formsW_ord]; rw [HN0.out, HWcommon.out, HN2.out, HN3.out, show scan mapAt 5 0 T.folds = none from hinvF.out.1 (by omega), show scan mapAt 6 0 T.looks = none from hinvF.out.2 (by omega), show spansW T.drops 7 = none from hinv.out.1 (by omega), HW.out]; first | done | rfl]
                            rfl
                        | none =>
                          have HWallowed : Hid (spansW T.allowed 8 = none) := Lib.hid (by rw [spansW_list, hcw]; rfl)
                          rw [rightP_none hcw] at hri
                          have HR := Lib.hid hri
                          clear hri hcw
                          go_wp2_with (go_at_call 55; refine HR.out.mono ?_; rintro e w3 ⟨rfl, hb3⟩; have HB3 := Lib.hid hb3)
                          go_roundw
                          case rel => exact ⟨2, by omega, by go_num, Lib.hid ⟨fun _ => hinv.out.1 (by omega), fun h => HWallowed.out⟩, Hr.out.step HB3.out, Hg.out.below HB3.out⟩
                          case measure => simp [intOf]
                      · obtain ⟨d0, d1, d2, d3, d4, d5, d6, d7, d8⟩ := chk_facts (HC.out.below Hr.out.below)
                        clear hrs hgb
                        obtain ⟨r1, r2, r3, f1, f2, f3⟩ := (Hr.out).resF
                        go_wp2_with fail
                        obtain ⟨hB, hW⟩ := (Hr.out).ret (.int .i64 0) (.int .i64 0) (.int .i64 0)
                        obtain ⟨s1, s2, s3, -, -, -⟩ := wrong_facts hB
                        refine bodyPost_ret (v := .agg #[.int .i64 0, .int .i64 0, .int .i64 0]) ?_ rfl ⟨?_, hW⟩
                        · simp [results, Tryz.results23, go_sem, s1, s2, s3]
                        · rw [show formsW T = none by rw [formsW_ord]; rw [HN0.out, HWcommon.out, HN2.out, HN3.out, show scan mapAt 5 0 T.folds = none from hinvF.out.1 (by omega), show scan mapAt 6 0 T.looks = none from hinvF.out.2 (by omega), show spansW T.drops 7 = none from hinv.out.1 (by omega), show spansW T.allowed 8 = none from hinv.out.2 (by omega)]; first | done | rfl]
                          rfl

end Go.Proofs.YtjmkdimbbacnfaaGreatDoor
