/- tables.check: froms. (Printed by gen_cfroms.py.) tables.check: long. (Printed by gen_clong.py.) -/
import Derived.Test.YtjmkdimbbacnfaaGreatDoorGTabN
import Derived.Test.YtjmkdimbbacnfaaGreatDoorGTabK
import Derived.Deep.RegionHeld3
namespace Go.Proofs.YtjmkdimbbacnfaaGreatDoor
section
open Go.RowKit
set_option linter.unusedVariables false
set_option maxRecDepth 100000 in
set_option maxHeartbeats 8000000 in
theorem chk_froms {w : World} {v0 v1 v2 v3 v4 v5 v6 v7 : Value} (T : Tab) (h : TabAt w v0 v1 v2 v3 v4 v5 v6 v7 T) (hok : TabOk T) (c b : Nat) (hc : Blk w c 68 #[v0, v1, v2, v3, v4, v5, v6, v7, .pointer (some ⟨b, 0, none⟩)]) {m1 m2 m3 m4 m5 : Nat} {t0 t1 t2 t3 t4 t5 t6 t7 : Value} (hM : MS w b m1 m2 m3 m4 m5 t0 t1 t2 t3 t4 t5 t6 t7 (mapsOf T)) (hmk : scan markAt 3 0 T.marks = none) :
    Calls Tryz.prog 28 #[.pointer (some ⟨c, 0, none⟩)] w fun e w' => e = .returned (wrongV (fromsM T)) ∧ Below w.heap.size w w' := by
  have HM := Lib.hid hM
  have HK := Lib.hid hmk
  clear hM hmk
  have HO := Lib.hid hok
  obtain ⟨A0, c0, rfl, hn0⟩ := h.formS
  obtain ⟨A1, c1, rfl, hn1⟩ := h.common.form
  obtain ⟨A2, c2, rfl, hn2⟩ := h.marks.form
  obtain ⟨A3, c3, rfl, hn3⟩ := h.pairs.form
  obtain ⟨A4, c4, rfl, hn4⟩ := h.folds.form
  obtain ⟨A5, c5, rfl, hn5⟩ := h.looks.form
  obtain ⟨A6, c6, rfl, hn6⟩ := h.drops.form
  obtain ⟨A7, c7, rfl, hn7⟩ := h.allowed.form
  have HT := Lib.hid h
  obtain ⟨n0, hln0⟩ : ∃ n, T.scripts.length = n := ⟨_, rfl⟩
  rw [hln0] at HT hc hn0
  have HLn0 := Lib.hid hln0
  clear hln0
  obtain ⟨n1, hln1⟩ : ∃ n, T.common.length = n := ⟨_, rfl⟩
  rw [hln1] at HT hc hn1
  have HLn1 := Lib.hid hln1
  clear hln1
  obtain ⟨n2, hln2⟩ : ∃ n, T.marks.length = n := ⟨_, rfl⟩
  rw [hln2] at HT hc hn2
  have HLn2 := Lib.hid hln2
  clear hln2
  obtain ⟨n3, hln3⟩ : ∃ n, T.pairs.length = n := ⟨_, rfl⟩
  rw [hln3] at HT hc hn3
  have HLn3 := Lib.hid hln3
  clear hln3
  obtain ⟨n4, hln4⟩ : ∃ n, T.folds.length = n := ⟨_, rfl⟩
  rw [hln4] at HT hc hn4
  have HLn4 := Lib.hid hln4
  clear hln4
  obtain ⟨n5, hln5⟩ : ∃ n, T.looks.length = n := ⟨_, rfl⟩
  rw [hln5] at HT hc hn5
  have HLn5 := Lib.hid hln5
  clear hln5
  obtain ⟨n6, hln6⟩ : ∃ n, T.drops.length = n := ⟨_, rfl⟩
  rw [hln6] at HT hc hn6
  have HLn6 := Lib.hid hln6
  clear hln6
  obtain ⟨n7, hln7⟩ : ∃ n, T.allowed.length = n := ⟨_, rfl⟩
  rw [hln7] at HT hc hn7
  have HLn7 := Lib.hid hln7
  clear hln7
  have HC := Lib.hid hc
  have HS0 := Lib.hid (CS.start w)
  obtain ⟨d0, d1, d2, d3, d4, d5, d6, d7, d8⟩ := chk_facts (hc.below HS0.out.below)
  clear h hok hc
  go_enter Tryz.func28, Tryz.ntmps28
  go_wp2_with fail
  obtain ⟨wr, hwr⟩ : ∃ wr, w.alloc (.cells #[.int .i64 0, .int .i64 0, .int .i64 0] 40) = wr := ⟨_, rfl⟩
  rw [hwr] at HS0 d0 d1 d2 d3 d4 d5 d6 d7 d8 ⊢
  have Hr := HS0
  clear hwr HS0
  go_region_held3 (fun w' => w'.cell? ⟨c, 4, none⟩ = some (.slice A4 n4 c4) ∧ w'.cell? ⟨c, 5, none⟩ = some (.slice A5 n5 c5)) (go_keep) (fail)
  have hBd : Below wr.heap.size wr ((wr.alloc (.cells #[(.slice A4 n4 c4), (.slice A5 n5 c5)] 26)).drew) := ((Below.refl _ wr).alloc (Nat.le_refl _) _).drew
  have hg2 : Blk ((wr.alloc (.cells #[(.slice A4 n4 c4), (.slice A5 n5 c5)] 26)).drew) wr.heap.size 26 #[(.slice A4 n4 c4), (.slice A5 n5 c5)] := (Blk.new wr _ _).of rfl
  have hr2 := Hr.out.step hBd
  obtain ⟨g9, hge⟩ : ∃ g, wr.heap.size = g := ⟨_, rfl⟩
  rw [hge] at hg2
  simp only [hge]
  obtain ⟨W2, hW2⟩ : ∃ W2, (wr.alloc (.cells #[(.slice A4 n4 c4), (.slice A5 n5 c5)] 26)).drew = W2 := ⟨_, rfl⟩
  rw [hW2] at hr2 hg2 ⊢
  have Hr2 := Lib.hid hr2
  have Hg2 := Lib.hid hg2
  clear hW2 hge hBd hr2 hg2 Hr d0 d1 d2 d3 d4 d5 d6 d7 d8
  go_wp2_with fail
  go_loopw [21] (fun i wr => ∃ k : Int, (k = 0 ∨ k = 1 ∨ k = 2) ∧ i = .int .i64 k ∧ Hid ((1 ≤ k → scan (tosM T) 5 0 T.folds = none) ∧ (2 ≤ k → scan (tosM T) 6 0 T.looks = none)) ∧ CS w wr ∧ Blk wr g9 26 #[(.slice A4 n4 c4), (.slice A5 n5 c5)]) (fun i _ => 2 - (intOf i).toNat)
  case atStart => exact ⟨0, by omega, rfl, Lib.hid ⟨by omega, by omega⟩, Hr2.out, Hg2.out⟩
  case round =>
    clear Hr2 Hg2
    obtain ⟨kk, hkc, rfl, hinv, hrs, hgb⟩ := hrel
    have Hr := Lib.hid hrs
    have Hg := Lib.hid hgb
    rcases hkc with rfl | rfl | rfl
    · have u0 : wr.cell? ⟨g9, 0, none⟩ = some (.slice A4 n4 c4) := hgb.cell 0
      clear hrs hgb
      go_wp2_with fail
      go_loopw [28] (fun i wr => ∃ k : Nat, k ≤ n4 ∧ i = .int .i64 (k : Int) ∧ NoneTo (tosM T) T.folds k ∧ CS w wr ∧ Blk wr g9 26 #[(.slice A4 n4 c4), (.slice A5 n5 c5)]) (fun i _ => n4 - (intOf i).toNat)
      case atStart => exact ⟨0, Nat.zero_le _, rfl, NoneTo.zero _ _, Hr.out, Hg.out⟩
      case round =>
        clear Hr Hg
        obtain ⟨k, hk, rfl, hno, hrs, hgb⟩ := hrel
        have Hno := Lib.hid hno
        have Hr := Lib.hid hrs
        by_cases hlt : k < n4
        · obtain ⟨m, hm⟩ : ∃ m, T.folds[k]? = some m := ⟨_, List.getElem?_eq_getElem (by rw [HLn4.out]; exact hlt)⟩
          obtain ⟨a, rfl, e0, e1⟩ := el2 HT.out.folds hrs.below hm rfl
          have Hm := Lib.hid hm
          have k0 : (0 : Int) ≤ (k : Int) := by omega
          have k1 : (k : Int) < (n4 : Int) := by omega
          have HE := Lib.hid ((Below.refl _ wr).alloc (Nat.le_refl _) (.cells #[.int .i32 m.frm, .string m.to] 79))
          have Hx := Lib.hid (Blk.new wr 79 #[.int .i32 m.frm, .string m.to])
          have i1 := (HO.out.folds m (List.mem_of_getElem? hm)).1
          have hW1 := below_trans Hr.out.below HE.out
          obtain ⟨-, -, -, -, -, -, -, -, d8⟩ := chk_facts (HC.out.below hW1)
          have hM1 := HM.out.below hW1
          obtain ⟨q8, q9, q10, q11, q12⟩ := hM1.cells
          have HL1 := Lib.hid (fun W (hB : Below w.heap.size w W) => (HM.out.below hB).look_pr i1)
          have Hf : Hid (tosM T k m = if ((mapsOf T).pr m.frm).isSome = true ∨ (((mapsOf T).cls m.frm).getD 0 != 0) = true then 31 else 0) := Lib.hid (tosM_eq HK.out)
          have HG2 := Lib.hid hgb
          have HW1 := Lib.hid hW1
          have HL2 := Lib.hid (fun W (hB : Below w.heap.size w W) => (HM.out.below hB).look_cls i1)
          generalize ((mapsOf T).pr m.frm).isSome = y1 at *
          generalize ((mapsOf T).pr m.frm).getD (0, 0) = y3 at *
          generalize ((mapsOf T).cls m.frm).getD 0 = y2 at *
          clear hno hrs hm hgb i1
          have HSf := Lib.hid (fun w' (hB : Below (wr.alloc (.cells #[.int .i32 m.frm, .string m.to] 79)).heap.size (wr.alloc (.cells #[.int .i32 m.frm, .string m.to] 79)) w') => (⟨hB, (chk_facts (HC.out.below (below_trans HW1.out hB))).2.2.2.2.2.2.2.2, (HM.out.below (below_trans HW1.out hB)).cells.2.1, (Hx.out.below hB).cell 0, HL1.out _ (below_trans HW1.out hB)⟩ : Below (wr.alloc (.cells #[.int .i32 m.frm, .string m.to] 79)).heap.size (wr.alloc (.cells #[.int .i32 m.frm, .string m.to] 79)) w' ∧ w'.cell? ⟨c, 8, none⟩ = some (.pointer (some ⟨b, 0, none⟩)) ∧ w'.cell? ⟨b, 9, none⟩ = some (.map (some m2)) ∧ w'.cell? ⟨wr.heap.size, 0, none⟩ = some (.int .i32 m.frm) ∧ (Instr.lookup 62 (.map (some m2)) (.int .i32 m.frm) true).run Tryz.prog w' = .ok (.tuple #[.agg #[.int .i32 y3.1, .int .i32 y3.2], .bool y1]) w'))
          go_wp2_with fail
          go_region_held3 (fun w' => Below (wr.alloc (.cells #[.int .i32 m.frm, .string m.to] 79)).heap.size (wr.alloc (.cells #[.int .i32 m.frm, .string m.to] 79)) w' ∧ w'.cell? ⟨c, 8, none⟩ = some (.pointer (some ⟨b, 0, none⟩)) ∧ w'.cell? ⟨b, 9, none⟩ = some (.map (some m2)) ∧ w'.cell? ⟨wr.heap.size, 0, none⟩ = some (.int .i32 m.frm) ∧ (Instr.lookup 62 (.map (some m2)) (.int .i32 m.frm) true).run Tryz.prog w' = .ok (.tuple #[.agg #[.int .i32 y3.1, .int .i32 y3.2], .bool y1]) w') (first | exact HSf.out _ (Below.refl _ _).drew | exact HSf.out _ ((Below.refl _ _).alloc (Nat.le_refl _) _).drew) (fail)
          all_goals (
            have hB3 : Below wr.heap.size wr (((wr.alloc (.cells #[.int .i32 m.frm, .string m.to] 79)).alloc (.cells #[.int .i32 y3.1, .int .i32 y3.2] 112)).drew) := (HE.out.alloc (by simp) _).drew
            have hs3 := HSf.out _ ((Below.refl _ _).alloc (Nat.le_refl _) (.cells #[.int .i32 y3.1, .int .i32 y3.2] 112)).drew
            obtain ⟨W3, hW3⟩ : ∃ W3, ((wr.alloc (.cells #[.int .i32 m.frm, .string m.to] 79)).alloc (.cells #[.int .i32 y3.1, .int .i32 y3.2] 112)).drew = W3 := ⟨_, rfl⟩
            rw [hW3] at hB3 hs3 ⊢
            obtain ⟨-, d8, -, x0, -⟩ := hs3
            have hW4 := below_trans Hr.out.below hB3
            have hM3 := HM.out.below hW4
            obtain ⟨q8, -, -, -, -⟩ := hM3.cells
            have l2 := fun q => HL2.out _ (Below.drwN hW4 q)
            have HB3 := Lib.hid hB3
            clear hW3 hB3 hM3 HSf HW1 hM1 hW1 hW4 q9 q10 q11 q12
            cases y1 with
            | true =>
              have H0 : Hid (tosM T k m = 31) := Lib.hid (by rw [Hf.out, if_pos (.inl rfl)])
              go_wp2_with fail
              go_quiet (fail)
              go_wp2_with (go_at_call 53; refine (tab_wrong _ _ _ _).mono ?_; rintro e w9 ⟨rfl, hb9⟩; have h9 := (Hr.out.step (Below.drwN HB3.out nq)).step hb9; obtain ⟨r1, r2, r3, f1, f2, f3⟩ := h9.resF; have H9 := Lib.hid h9; clear h9)
              obtain ⟨hB, hW⟩ := (H9.out).ret (.int .i64 31) (.int .i64 5) (.int .i64 (k : Int))
              obtain ⟨s1, s2, s3, -, -, -⟩ := wrong_facts hB
              refine bodyPost_ret (v := .agg #[.int .i64 31, .int .i64 5, .int .i64 (k : Int)]) ?_ rfl ⟨?_, hW⟩
              · simp [results, Tryz.results28, go_sem, s1, s2, s3]
              · rw [show fromsM T = some (31, 5, (k : Int)) by unfold fromsM; rw [Hno.out.found Hm.out (by rw [H0.out]; decide) 5, H0.out]; first | done | rfl]
                rfl
            | false =>
              cases h2 : (y2 != 0) with
              | true =>
                have H0 : Hid (tosM T k m = 31) := Lib.hid (by rw [Hf.out, if_pos (.inr h2)])
                go_wp2_with fail
                go_quiet (fail)
                go_wp2_with (go_at_call 53; refine (tab_wrong _ _ _ _).mono ?_; rintro e w9 ⟨rfl, hb9⟩; have h9 := (Hr.out.step (Below.drwN HB3.out nq)).step hb9; obtain ⟨r1, r2, r3, f1, f2, f3⟩ := h9.resF; have H9 := Lib.hid h9; clear h9)
                obtain ⟨hB, hW⟩ := (H9.out).ret (.int .i64 31) (.int .i64 5) (.int .i64 (k : Int))
                obtain ⟨s1, s2, s3, -, -, -⟩ := wrong_facts hB
                refine bodyPost_ret (v := .agg #[.int .i64 31, .int .i64 5, .int .i64 (k : Int)]) ?_ rfl ⟨?_, hW⟩
                · simp [results, Tryz.results28, go_sem, s1, s2, s3]
                · rw [show fromsM T = some (31, 5, (k : Int)) by unfold fromsM; rw [Hno.out.found Hm.out (by rw [H0.out]; decide) 5, H0.out]; first | done | rfl]
                  rfl
              | false =>
                have H0 : Hid (tosM T k m = 0) := Lib.hid (by rw [Hf.out, if_neg (by rw [h2]; simp)])
                go_wp2_with fail
                go_quiet (fail)
                go_wp2_with fail
                go_roundw
                case rel => exact ⟨k + 1, by omega, by go_num, Hno.out.succ Hm.out H0.out, Hr.out.step (Below.drwN HB3.out nq), HG2.out.below (Below.drwN HB3.out nq)⟩
                case measure => simp [intOf]; omega)
        · have hkn : n4 = k := by omega
          subst hkn
          have HN0 : Hid (scan (tosM T) 5 0 T.folds = none) := Lib.hid (NoneTo.all (by rw [HLn4.out]; exact Hno.out) 5)
          obtain ⟨d0, d1, d2, d3, d4, d5, d6, d7, d8⟩ := chk_facts (HC.out.below Hr.out.below)
          clear Hno hno hrs
          have Hg := Lib.hid hgb
          clear hgb
          go_wp2_with fail
          go_roundw
          case rel => exact ⟨1, by omega, by go_num, Lib.hid ⟨fun _ => HN0.out, fun h => by omega⟩, Hr.out, Hg.out⟩
          case measure => simp [intOf]
    · have u0 : wr.cell? ⟨g9, 1, none⟩ = some (.slice A5 n5 c5) := hgb.cell 1
      clear hrs hgb
      go_wp2_with fail
      go_loopw [28] (fun i wr => ∃ k : Nat, k ≤ n5 ∧ i = .int .i64 (k : Int) ∧ NoneTo (tosM T) T.looks k ∧ CS w wr ∧ Blk wr g9 26 #[(.slice A4 n4 c4), (.slice A5 n5 c5)]) (fun i _ => n5 - (intOf i).toNat)
      case atStart => exact ⟨0, Nat.zero_le _, rfl, NoneTo.zero _ _, Hr.out, Hg.out⟩
      case round =>
        clear Hr Hg
        obtain ⟨k, hk, rfl, hno, hrs, hgb⟩ := hrel
        have Hno := Lib.hid hno
        have Hr := Lib.hid hrs
        by_cases hlt : k < n5
        · obtain ⟨m, hm⟩ : ∃ m, T.looks[k]? = some m := ⟨_, List.getElem?_eq_getElem (by rw [HLn5.out]; exact hlt)⟩
          obtain ⟨a, rfl, e0, e1⟩ := el2 HT.out.looks hrs.below hm rfl
          have Hm := Lib.hid hm
          have k0 : (0 : Int) ≤ (k : Int) := by omega
          have k1 : (k : Int) < (n5 : Int) := by omega
          have HE := Lib.hid ((Below.refl _ wr).alloc (Nat.le_refl _) (.cells #[.int .i32 m.frm, .string m.to] 79))
          have Hx := Lib.hid (Blk.new wr 79 #[.int .i32 m.frm, .string m.to])
          have i1 := (HO.out.looks m (List.mem_of_getElem? hm)).1
          have hW1 := below_trans Hr.out.below HE.out
          obtain ⟨-, -, -, -, -, -, -, -, d8⟩ := chk_facts (HC.out.below hW1)
          have hM1 := HM.out.below hW1
          obtain ⟨q8, q9, q10, q11, q12⟩ := hM1.cells
          have HL1 := Lib.hid (fun W (hB : Below w.heap.size w W) => (HM.out.below hB).look_pr i1)
          have Hf : Hid (tosM T k m = if ((mapsOf T).pr m.frm).isSome = true ∨ (((mapsOf T).cls m.frm).getD 0 != 0) = true then 31 else 0) := Lib.hid (tosM_eq HK.out)
          have HG2 := Lib.hid hgb
          have HW1 := Lib.hid hW1
          have HL2 := Lib.hid (fun W (hB : Below w.heap.size w W) => (HM.out.below hB).look_cls i1)
          generalize ((mapsOf T).pr m.frm).isSome = y1 at *
          generalize ((mapsOf T).pr m.frm).getD (0, 0) = y3 at *
          generalize ((mapsOf T).cls m.frm).getD 0 = y2 at *
          clear hno hrs hm hgb i1
          have HSf := Lib.hid (fun w' (hB : Below (wr.alloc (.cells #[.int .i32 m.frm, .string m.to] 79)).heap.size (wr.alloc (.cells #[.int .i32 m.frm, .string m.to] 79)) w') => (⟨hB, (chk_facts (HC.out.below (below_trans HW1.out hB))).2.2.2.2.2.2.2.2, (HM.out.below (below_trans HW1.out hB)).cells.2.1, (Hx.out.below hB).cell 0, HL1.out _ (below_trans HW1.out hB)⟩ : Below (wr.alloc (.cells #[.int .i32 m.frm, .string m.to] 79)).heap.size (wr.alloc (.cells #[.int .i32 m.frm, .string m.to] 79)) w' ∧ w'.cell? ⟨c, 8, none⟩ = some (.pointer (some ⟨b, 0, none⟩)) ∧ w'.cell? ⟨b, 9, none⟩ = some (.map (some m2)) ∧ w'.cell? ⟨wr.heap.size, 0, none⟩ = some (.int .i32 m.frm) ∧ (Instr.lookup 62 (.map (some m2)) (.int .i32 m.frm) true).run Tryz.prog w' = .ok (.tuple #[.agg #[.int .i32 y3.1, .int .i32 y3.2], .bool y1]) w'))
          go_wp2_with fail
          go_region_held3 (fun w' => Below (wr.alloc (.cells #[.int .i32 m.frm, .string m.to] 79)).heap.size (wr.alloc (.cells #[.int .i32 m.frm, .string m.to] 79)) w' ∧ w'.cell? ⟨c, 8, none⟩ = some (.pointer (some ⟨b, 0, none⟩)) ∧ w'.cell? ⟨b, 9, none⟩ = some (.map (some m2)) ∧ w'.cell? ⟨wr.heap.size, 0, none⟩ = some (.int .i32 m.frm) ∧ (Instr.lookup 62 (.map (some m2)) (.int .i32 m.frm) true).run Tryz.prog w' = .ok (.tuple #[.agg #[.int .i32 y3.1, .int .i32 y3.2], .bool y1]) w') (first | exact HSf.out _ (Below.refl _ _).drew | exact HSf.out _ ((Below.refl _ _).alloc (Nat.le_refl _) _).drew) (fail)
          all_goals (
            have hB3 : Below wr.heap.size wr (((wr.alloc (.cells #[.int .i32 m.frm, .string m.to] 79)).alloc (.cells #[.int .i32 y3.1, .int .i32 y3.2] 112)).drew) := (HE.out.alloc (by simp) _).drew
            have hs3 := HSf.out _ ((Below.refl _ _).alloc (Nat.le_refl _) (.cells #[.int .i32 y3.1, .int .i32 y3.2] 112)).drew
            obtain ⟨W3, hW3⟩ : ∃ W3, ((wr.alloc (.cells #[.int .i32 m.frm, .string m.to] 79)).alloc (.cells #[.int .i32 y3.1, .int .i32 y3.2] 112)).drew = W3 := ⟨_, rfl⟩
            rw [hW3] at hB3 hs3 ⊢
            obtain ⟨-, d8, -, x0, -⟩ := hs3
            have hW4 := below_trans Hr.out.below hB3
            have hM3 := HM.out.below hW4
            obtain ⟨q8, -, -, -, -⟩ := hM3.cells
            have l2 := fun q => HL2.out _ (Below.drwN hW4 q)
            have HB3 := Lib.hid hB3
            clear hW3 hB3 hM3 HSf HW1 hM1 hW1 hW4 q9 q10 q11 q12
            cases y1 with
            | true =>
              have H0 : Hid (tosM T k m = 31) := Lib.hid (by rw [Hf.out, if_pos (.inl rfl)])
              go_wp2_with fail
              go_quiet (fail)
              go_wp2_with (go_at_call 53; refine (tab_wrong _ _ _ _).mono ?_; rintro e w9 ⟨rfl, hb9⟩; have h9 := (Hr.out.step (Below.drwN HB3.out nq)).step hb9; obtain ⟨r1, r2, r3, f1, f2, f3⟩ := h9.resF; have H9 := Lib.hid h9; clear h9)
              obtain ⟨hB, hW⟩ := (H9.out).ret (.int .i64 31) (.int .i64 6) (.int .i64 (k : Int))
              obtain ⟨s1, s2, s3, -, -, -⟩ := wrong_facts hB
              refine bodyPost_ret (v := .agg #[.int .i64 31, .int .i64 6, .int .i64 (k : Int)]) ?_ rfl ⟨?_, hW⟩
              · simp [results, Tryz.results28, go_sem, s1, s2, s3]
              · rw [show fromsM T = some (31, 6, (k : Int)) by unfold fromsM; rw [show scan (tosM T) 5 0 T.folds = none from hinv.out.1 (by omega), Hno.out.found Hm.out (by rw [H0.out]; decide) 6, H0.out]; first | done | rfl]
                rfl
            | false =>
              cases h2 : (y2 != 0) with
              | true =>
                have H0 : Hid (tosM T k m = 31) := Lib.hid (by rw [Hf.out, if_pos (.inr h2)])
                go_wp2_with fail
                go_quiet (fail)
                go_wp2_with (go_at_call 53; refine (tab_wrong _ _ _ _).mono ?_; rintro e w9 ⟨rfl, hb9⟩; have h9 := (Hr.out.step (Below.drwN HB3.out nq)).step hb9; obtain ⟨r1, r2, r3, f1, f2, f3⟩ := h9.resF; have H9 := Lib.hid h9; clear h9)
                obtain ⟨hB, hW⟩ := (H9.out).ret (.int .i64 31) (.int .i64 6) (.int .i64 (k : Int))
                obtain ⟨s1, s2, s3, -, -, -⟩ := wrong_facts hB
                refine bodyPost_ret (v := .agg #[.int .i64 31, .int .i64 6, .int .i64 (k : Int)]) ?_ rfl ⟨?_, hW⟩
                · simp [results, Tryz.results28, go_sem, s1, s2, s3]
                · rw [show fromsM T = some (31, 6, (k : Int)) by unfold fromsM; rw [show scan (tosM T) 5 0 T.folds = none from hinv.out.1 (by omega), Hno.out.found Hm.out (by rw [H0.out]; decide) 6, H0.out]; first | done | rfl]
                  rfl
              | false =>
                have H0 : Hid (tosM T k m = 0) := Lib.hid (by rw [Hf.out, if_neg (by rw [h2]; simp)])
                go_wp2_with fail
                go_quiet (fail)
                go_wp2_with fail
                go_roundw
                case rel => exact ⟨k + 1, by omega, by go_num, Hno.out.succ Hm.out H0.out, Hr.out.step (Below.drwN HB3.out nq), HG2.out.below (Below.drwN HB3.out nq)⟩
                case measure => simp [intOf]; omega)
        · have hkn : n5 = k := by omega
          subst hkn
          have HN1 : Hid (scan (tosM T) 6 0 T.looks = none) := Lib.hid (NoneTo.all (by rw [HLn5.out]; exact Hno.out) 6)
          obtain ⟨d0, d1, d2, d3, d4, d5, d6, d7, d8⟩ := chk_facts (HC.out.below Hr.out.below)
          clear Hno hno hrs
          have Hg := Lib.hid hgb
          clear hgb
          go_wp2_with fail
          go_roundw
          case rel => exact ⟨2, by omega, by go_num, Lib.hid ⟨fun _ => hinv.out.1 (by omega), fun h => HN1.out⟩, Hr.out, Hg.out⟩
          case measure => simp [intOf]
    · obtain ⟨d0, d1, d2, d3, d4, d5, d6, d7, d8⟩ := chk_facts (HC.out.below Hr.out.below)
      clear hrs hgb
      clear Hg
      obtain ⟨r1, r2, r3, f1, f2, f3⟩ := (Hr.out).resF
      go_wp2_with fail
      obtain ⟨hB, hW⟩ := (Hr.out).ret (.int .i64 0) (.int .i64 0) (.int .i64 0)
      obtain ⟨s1, s2, s3, -, -, -⟩ := wrong_facts hB
      refine bodyPost_ret (v := .agg #[.int .i64 0, .int .i64 0, .int .i64 0]) ?_ rfl ⟨?_, hW⟩
      · simp [results, Tryz.results28, go_sem, s1, s2, s3]
      · rw [show fromsM T = none by unfold fromsM; rw [show scan (tosM T) 5 0 T.folds = none from hinv.out.1 (by omega), show scan (tosM T) 6 0 T.looks = none from hinv.out.2 (by omega)]; first | done | rfl]
        rfl

end
section
open Go.RowKit
set_option linter.unusedVariables false
set_option maxRecDepth 100000 in
set_option maxHeartbeats 8000000 in
theorem chk_long {w : World} {v0 v1 v2 v3 v4 v5 v6 v7 : Value} (T : Tab) (h : TabAt w v0 v1 v2 v3 v4 v5 v6 v7 T) (hok : TabOk T) (c b : Nat) (hc : Blk w c 68 #[v0, v1, v2, v3, v4, v5, v6, v7, .pointer (some ⟨b, 0, none⟩)]) :
    Calls Tryz.prog 22 #[.pointer (some ⟨c, 0, none⟩)] w fun e w' => e = .returned (wrongV (longW T)) ∧ Below w.heap.size w w' := by
  have HO := Lib.hid hok
  obtain ⟨A0, c0, rfl, hn0⟩ := h.formS
  obtain ⟨A1, c1, rfl, hn1⟩ := h.common.form
  obtain ⟨A2, c2, rfl, hn2⟩ := h.marks.form
  obtain ⟨A3, c3, rfl, hn3⟩ := h.pairs.form
  obtain ⟨A4, c4, rfl, hn4⟩ := h.folds.form
  obtain ⟨A5, c5, rfl, hn5⟩ := h.looks.form
  obtain ⟨A6, c6, rfl, hn6⟩ := h.drops.form
  obtain ⟨A7, c7, rfl, hn7⟩ := h.allowed.form
  have HT := Lib.hid h
  obtain ⟨n0, hln0⟩ : ∃ n, T.scripts.length = n := ⟨_, rfl⟩
  rw [hln0] at HT hc hn0
  have HLn0 := Lib.hid hln0
  clear hln0
  obtain ⟨n1, hln1⟩ : ∃ n, T.common.length = n := ⟨_, rfl⟩
  rw [hln1] at HT hc hn1
  have HLn1 := Lib.hid hln1
  clear hln1
  obtain ⟨n2, hln2⟩ : ∃ n, T.marks.length = n := ⟨_, rfl⟩
  rw [hln2] at HT hc hn2
  have HLn2 := Lib.hid hln2
  clear hln2
  obtain ⟨n3, hln3⟩ : ∃ n, T.pairs.length = n := ⟨_, rfl⟩
  rw [hln3] at HT hc hn3
  have HLn3 := Lib.hid hln3
  clear hln3
  obtain ⟨n4, hln4⟩ : ∃ n, T.folds.length = n := ⟨_, rfl⟩
  rw [hln4] at HT hc hn4
  have HLn4 := Lib.hid hln4
  clear hln4
  obtain ⟨n5, hln5⟩ : ∃ n, T.looks.length = n := ⟨_, rfl⟩
  rw [hln5] at HT hc hn5
  have HLn5 := Lib.hid hln5
  clear hln5
  obtain ⟨n6, hln6⟩ : ∃ n, T.drops.length = n := ⟨_, rfl⟩
  rw [hln6] at HT hc hn6
  have HLn6 := Lib.hid hln6
  clear hln6
  obtain ⟨n7, hln7⟩ : ∃ n, T.allowed.length = n := ⟨_, rfl⟩
  rw [hln7] at HT hc hn7
  have HLn7 := Lib.hid hln7
  clear hln7
  have HC := Lib.hid hc
  have HS0 := Lib.hid (CS.start w)
  obtain ⟨d0, d1, d2, d3, d4, d5, d6, d7, d8⟩ := chk_facts (hc.below HS0.out.below)
  clear h hok hc
  go_enter Tryz.func22, Tryz.ntmps22
  by_cases h64 : 64 < n0
  · have t1 : (64 : Int) < (n0 : Int) := by omega
    have H64 := Lib.hid h64
    clear h64
    have HQ := Lib.hid (Below.refl (w.alloc (.cells #[.int .i64 0, .int .i64 0, .int .i64 0] 40)).heap.size (w.alloc (.cells #[.int .i64 0, .int .i64 0, .int .i64 0] 40)))
    go_wp2_with (go_at_call 53; refine (tab_wrong _ _ _ _).mono ?_; rintro e w9 ⟨rfl, hb9⟩; have h9 := (HS0.out.step HQ.out).step hb9; obtain ⟨r1, r2, r3, f1, f2, f3⟩ := h9.resF; have H9 := Lib.hid h9; clear h9)
    obtain ⟨hB, hW⟩ := (H9.out).ret (.int .i64 4) (.int .i64 1) (.int .i64 64)
    obtain ⟨s1, s2, s3, -, -, -⟩ := wrong_facts hB
    refine bodyPost_ret (v := .agg #[.int .i64 4, .int .i64 1, .int .i64 64]) ?_ rfl ⟨?_, hW⟩
    · simp [results, Tryz.results22, go_sem, s1, s2, s3]
    · rw [show longW T = some (4, 1, 64) by rw [longW_many (by rw [HLn0.out]; exact H64.out)]; skip]
      rfl
  have t1 : ¬ (64 : Int) < (n0 : Int) := by omega
  have HLW := Lib.hid (longW_few (T := T) (by rw [HLn0.out]; exact h64))
  clear h64
  go_wp2_with fail
  clear t1
  go_loopw [21] (fun i wr => ∃ k : Nat, k ≤ n0 ∧ i = .int .i64 (k : Int) ∧ NoneTo (longS) T.scripts k ∧ CS w wr) (fun i _ => n0 - (intOf i).toNat)
  case atStart => exact ⟨0, Nat.zero_le _, rfl, NoneTo.zero _ _, HS0.out⟩
  case round =>
    obtain ⟨k, hk, rfl, hno, hrs⟩ := hrel
    have Hno := Lib.hid hno
    have Hr := Lib.hid hrs
    by_cases hlt : k < n0
    · obtain ⟨m, hm⟩ : ∃ m, T.scripts[k]? = some m := ⟨_, List.getElem?_eq_getElem (by rw [HLn0.out]; exact hlt)⟩
      obtain ⟨a, v, rfl, e0, e1, hsp⟩ := elS HT.out hrs.below hm
      obtain ⟨A9, c9, rfl, hn9⟩ := hsp.form
      obtain ⟨n9, hl9⟩ : ∃ n, m.spans.length = n := ⟨_, rfl⟩
      rw [hl9] at hn9 e1 hsp
      have Hl9 := Lib.hid hl9
      clear hl9
      have Hm := Lib.hid hm
      have k0 : (0 : Int) ≤ (k : Int) := by omega
      have k1 : (k : Int) < (n0 : Int) := by omega
      have HE := Lib.hid ((Below.refl _ wr).alloc (Nat.le_refl _) (.cells #[.string m.name, .slice A9 n9 c9] 59))
      have Hx := Lib.hid (Blk.new wr 59 #[.string m.name, .slice A9 n9 c9])
      clear hno hrs hm hsp
      by_cases h1 : (1024 : Int) < (n9 : Int)
      · have H0 : Hid (longS k m = 4) := Lib.hid (by unfold longS; rw [if_pos (by rw [Hl9.out]; omega)])
        go_wp2_with (go_at_call 53; refine (tab_wrong _ _ _ _).mono ?_; rintro e w9 ⟨rfl, hb9⟩; have h9 := (Hr.out.step HE.out).step hb9; obtain ⟨r1, r2, r3, f1, f2, f3⟩ := h9.resF; have H9 := Lib.hid h9; clear h9)
        obtain ⟨hB, hW⟩ := (H9.out).ret (.int .i64 4) (.int .i64 1) (.int .i64 (k : Int))
        obtain ⟨s1, s2, s3, -, -, -⟩ := wrong_facts hB
        refine bodyPost_ret (v := .agg #[.int .i64 4, .int .i64 1, .int .i64 (k : Int)]) ?_ rfl ⟨?_, hW⟩
        · simp [results, Tryz.results22, go_sem, s1, s2, s3]
        · rw [show longW T = some (4, 1, (k : Int)) by rw [HLW.out]; rw [Hno.out.found Hm.out (by rw [H0.out]; decide) 1, H0.out]; first | done | rfl]
          rfl
      · have H0 : Hid (longS k m = 0) := Lib.hid (by unfold longS; rw [if_neg (by rw [Hl9.out]; omega)])
        go_wp2_with fail
        go_roundw
        case rel => exact ⟨k + 1, by omega, by go_num, Hno.out.succ Hm.out H0.out, Hr.out.step HE.out⟩
        case measure => simp [intOf]; omega
    · have hkn : n0 = k := by omega
      subst hkn
      have HN0 : Hid (scan (longS) 1 0 T.scripts = none) := Lib.hid (NoneTo.all (by rw [HLn0.out]; exact Hno.out) 1)
      obtain ⟨d0, d1, d2, d3, d4, d5, d6, d7, d8⟩ := chk_facts (HC.out.below Hr.out.below)
      clear Hno hno hrs
      go_wp2_with fail
      go_region_held3 (fun w' => w'.cell? ⟨c, 1, none⟩ = some (.slice A1 n1 c1) ∧ w'.cell? ⟨c, 2, none⟩ = some (.slice A2 n2 c2) ∧ w'.cell? ⟨c, 3, none⟩ = some (.slice A3 n3 c3) ∧ w'.cell? ⟨c, 4, none⟩ = some (.slice A4 n4 c4) ∧ w'.cell? ⟨c, 5, none⟩ = some (.slice A5 n5 c5) ∧ w'.cell? ⟨c, 6, none⟩ = some (.slice A6 n6 c6) ∧ w'.cell? ⟨c, 7, none⟩ = some (.slice A7 n7 c7)) (go_keep) (fail)
      have hBd : Below wr.heap.size wr ((wr.alloc (.cells #[.int .i64 2, .int .i64 (n1 : Int), .int .i64 1024, .int .i64 3, .int .i64 (n2 : Int), .int .i64 512, .int .i64 4, .int .i64 (n3 : Int), .int .i64 4096, .int .i64 5, .int .i64 (n4 : Int), .int .i64 4096, .int .i64 6, .int .i64 (n5 : Int), .int .i64 4096, .int .i64 7, .int .i64 (n6 : Int), .int .i64 1024, .int .i64 8, .int .i64 (n7 : Int), .int .i64 1024] 102)).drew) := ((Below.refl _ wr).alloc (Nat.le_refl _) _).drew
      have hg2 : Blk ((wr.alloc (.cells #[.int .i64 2, .int .i64 (n1 : Int), .int .i64 1024, .int .i64 3, .int .i64 (n2 : Int), .int .i64 512, .int .i64 4, .int .i64 (n3 : Int), .int .i64 4096, .int .i64 5, .int .i64 (n4 : Int), .int .i64 4096, .int .i64 6, .int .i64 (n5 : Int), .int .i64 4096, .int .i64 7, .int .i64 (n6 : Int), .int .i64 1024, .int .i64 8, .int .i64 (n7 : Int), .int .i64 1024] 102)).drew) wr.heap.size 102 #[.int .i64 2, .int .i64 (n1 : Int), .int .i64 1024, .int .i64 3, .int .i64 (n2 : Int), .int .i64 512, .int .i64 4, .int .i64 (n3 : Int), .int .i64 4096, .int .i64 5, .int .i64 (n4 : Int), .int .i64 4096, .int .i64 6, .int .i64 (n5 : Int), .int .i64 4096, .int .i64 7, .int .i64 (n6 : Int), .int .i64 1024, .int .i64 8, .int .i64 (n7 : Int), .int .i64 1024] := (Blk.new wr _ _).of rfl
      have hr2 := Hr.out.step hBd
      obtain ⟨g9, hge⟩ : ∃ g, wr.heap.size = g := ⟨_, rfl⟩
      rw [hge] at hg2
      simp only [hge]
      obtain ⟨W2, hW2⟩ : ∃ W2, (wr.alloc (.cells #[.int .i64 2, .int .i64 (n1 : Int), .int .i64 1024, .int .i64 3, .int .i64 (n2 : Int), .int .i64 512, .int .i64 4, .int .i64 (n3 : Int), .int .i64 4096, .int .i64 5, .int .i64 (n4 : Int), .int .i64 4096, .int .i64 6, .int .i64 (n5 : Int), .int .i64 4096, .int .i64 7, .int .i64 (n6 : Int), .int .i64 1024, .int .i64 8, .int .i64 (n7 : Int), .int .i64 1024] 102)).drew = W2 := ⟨_, rfl⟩
      rw [hW2] at hr2 hg2 ⊢
      have Hr2 := Lib.hid hr2
      have Hg2 := Lib.hid hg2
      clear hW2 hge hBd hr2 hg2 Hr d0 d1 d2 d3 d4 d5 d6 d7 d8
      go_wp2_with fail
      go_loopw [84] (fun i wr => ∃ k : Int, (k = 0 ∨ k = 1 ∨ k = 2 ∨ k = 3 ∨ k = 4 ∨ k = 5 ∨ k = 6 ∨ k = 7) ∧ i = .int .i64 k ∧ Hid ((1 ≤ k → (n1 : Int) ≤ 1024) ∧ (2 ≤ k → (n2 : Int) ≤ 512) ∧ (3 ≤ k → (n3 : Int) ≤ 4096) ∧ (4 ≤ k → (n4 : Int) ≤ 4096) ∧ (5 ≤ k → (n5 : Int) ≤ 4096) ∧ (6 ≤ k → (n6 : Int) ≤ 1024) ∧ (7 ≤ k → (n7 : Int) ≤ 1024)) ∧ CS w wr ∧ Blk wr g9 102 #[.int .i64 2, .int .i64 (n1 : Int), .int .i64 1024, .int .i64 3, .int .i64 (n2 : Int), .int .i64 512, .int .i64 4, .int .i64 (n3 : Int), .int .i64 4096, .int .i64 5, .int .i64 (n4 : Int), .int .i64 4096, .int .i64 6, .int .i64 (n5 : Int), .int .i64 4096, .int .i64 7, .int .i64 (n6 : Int), .int .i64 1024, .int .i64 8, .int .i64 (n7 : Int), .int .i64 1024]) (fun i _ => 7 - (intOf i).toNat)
      case atStart => exact ⟨0, by omega, rfl, Lib.hid (by omega), Hr2.out, Hg2.out⟩
      case round =>
        clear Hr2 Hg2
        obtain ⟨k, hkc, rfl, hinv, hrs, hgb⟩ := hrel
        have Hr := Lib.hid hrs
        have Hg := Lib.hid hgb
        rcases hkc with rfl | rfl | rfl | rfl | rfl | rfl | rfl | rfl
        · have u0 : wr.cell? ⟨g9, 0, none⟩ = some (.int .i64 2) := hgb.cell 0
          have u1 : wr.cell? ⟨g9, 1, none⟩ = some (.int .i64 (n1 : Int)) := hgb.cell 1
          have u2 : wr.cell? ⟨g9, 2, none⟩ = some (.int .i64 1024) := hgb.cell 2
          have HE := Lib.hid ((Below.refl _ wr).alloc (Nat.le_refl _) (.cells #[.int .i64 2, .int .i64 (n1 : Int), .int .i64 1024] 102))
          clear hrs hgb
          by_cases h1 : (1024 : Int) < (n1 : Int)
          · go_wp2_with (go_at_call 53; refine (tab_wrong _ _ _ _).mono ?_; rintro e w9 ⟨rfl, hb9⟩; have h9 := (Hr.out.step HE.out).step hb9; obtain ⟨r1, r2, r3, f1, f2, f3⟩ := h9.resF; have H9 := Lib.hid h9; clear h9)
            obtain ⟨hB, hW⟩ := (H9.out).ret (.int .i64 4) (.int .i64 2) (.int .i64 1024)
            obtain ⟨s1, s2, s3, -, -, -⟩ := wrong_facts hB
            refine bodyPost_ret (v := .agg #[.int .i64 4, .int .i64 2, .int .i64 1024]) ?_ rfl ⟨?_, hW⟩
            · simp [results, Tryz.results22, go_sem, s1, s2, s3]
            · rw [show longW T = some (4, 2, 1024) by rw [HLW.out]; have hi := hinv.out; rw [HN0.out]; unfold lensW; simp only [HLn1.out, HLn2.out, HLn3.out, HLn4.out, HLn5.out, HLn6.out, HLn7.out]; rw [tooL_yes (n := n1) h1]; rfl]
              rfl
          · go_wp2_with fail
            go_roundw
            case rel => exact ⟨1, by omega, by go_num, Lib.hid (by have hi := hinv.out; omega), Hr.out.step HE.out, Hg.out.below HE.out⟩
            case measure => simp [intOf]
        · have u0 : wr.cell? ⟨g9, 3, none⟩ = some (.int .i64 3) := hgb.cell 3
          have u1 : wr.cell? ⟨g9, 4, none⟩ = some (.int .i64 (n2 : Int)) := hgb.cell 4
          have u2 : wr.cell? ⟨g9, 5, none⟩ = some (.int .i64 512) := hgb.cell 5
          have HE := Lib.hid ((Below.refl _ wr).alloc (Nat.le_refl _) (.cells #[.int .i64 3, .int .i64 (n2 : Int), .int .i64 512] 102))
          clear hrs hgb
          by_cases h1 : (512 : Int) < (n2 : Int)
          · go_wp2_with (go_at_call 53; refine (tab_wrong _ _ _ _).mono ?_; rintro e w9 ⟨rfl, hb9⟩; have h9 := (Hr.out.step HE.out).step hb9; obtain ⟨r1, r2, r3, f1, f2, f3⟩ := h9.resF; have H9 := Lib.hid h9; clear h9)
            obtain ⟨hB, hW⟩ := (H9.out).ret (.int .i64 4) (.int .i64 3) (.int .i64 512)
            obtain ⟨s1, s2, s3, -, -, -⟩ := wrong_facts hB
            refine bodyPost_ret (v := .agg #[.int .i64 4, .int .i64 3, .int .i64 512]) ?_ rfl ⟨?_, hW⟩
            · simp [results, Tryz.results22, go_sem, s1, s2, s3]
            · rw [show longW T = some (4, 3, 512) by rw [HLW.out]; have hi := hinv.out; rw [HN0.out]; unfold lensW; simp only [HLn1.out, HLn2.out, HLn3.out, HLn4.out, HLn5.out, HLn6.out, HLn7.out]; rw [tooL_no (n := n1) (by omega), tooL_yes (n := n2) h1]; rfl]
              rfl
          · go_wp2_with fail
            go_roundw
            case rel => exact ⟨2, by omega, by go_num, Lib.hid (by have hi := hinv.out; omega), Hr.out.step HE.out, Hg.out.below HE.out⟩
            case measure => simp [intOf]
        · have u0 : wr.cell? ⟨g9, 6, none⟩ = some (.int .i64 4) := hgb.cell 6
          have u1 : wr.cell? ⟨g9, 7, none⟩ = some (.int .i64 (n3 : Int)) := hgb.cell 7
          have u2 : wr.cell? ⟨g9, 8, none⟩ = some (.int .i64 4096) := hgb.cell 8
          have HE := Lib.hid ((Below.refl _ wr).alloc (Nat.le_refl _) (.cells #[.int .i64 4, .int .i64 (n3 : Int), .int .i64 4096] 102))
          clear hrs hgb
          by_cases h1 : (4096 : Int) < (n3 : Int)
          · go_wp2_with (go_at_call 53; refine (tab_wrong _ _ _ _).mono ?_; rintro e w9 ⟨rfl, hb9⟩; have h9 := (Hr.out.step HE.out).step hb9; obtain ⟨r1, r2, r3, f1, f2, f3⟩ := h9.resF; have H9 := Lib.hid h9; clear h9)
            obtain ⟨hB, hW⟩ := (H9.out).ret (.int .i64 4) (.int .i64 4) (.int .i64 4096)
            obtain ⟨s1, s2, s3, -, -, -⟩ := wrong_facts hB
            refine bodyPost_ret (v := .agg #[.int .i64 4, .int .i64 4, .int .i64 4096]) ?_ rfl ⟨?_, hW⟩
            · simp [results, Tryz.results22, go_sem, s1, s2, s3]
            · rw [show longW T = some (4, 4, 4096) by rw [HLW.out]; have hi := hinv.out; rw [HN0.out]; unfold lensW; simp only [HLn1.out, HLn2.out, HLn3.out, HLn4.out, HLn5.out, HLn6.out, HLn7.out]; rw [tooL_no (n := n1) (by omega), tooL_no (n := n2) (by omega), tooL_yes (n := n3) h1]; rfl]
              rfl
          · go_wp2_with fail
            go_roundw
            case rel => exact ⟨3, by omega, by go_num, Lib.hid (by have hi := hinv.out; omega), Hr.out.step HE.out, Hg.out.below HE.out⟩
            case measure => simp [intOf]
        · have u0 : wr.cell? ⟨g9, 9, none⟩ = some (.int .i64 5) := hgb.cell 9
          have u1 : wr.cell? ⟨g9, 10, none⟩ = some (.int .i64 (n4 : Int)) := hgb.cell 10
          have u2 : wr.cell? ⟨g9, 11, none⟩ = some (.int .i64 4096) := hgb.cell 11
          have HE := Lib.hid ((Below.refl _ wr).alloc (Nat.le_refl _) (.cells #[.int .i64 5, .int .i64 (n4 : Int), .int .i64 4096] 102))
          clear hrs hgb
          by_cases h1 : (4096 : Int) < (n4 : Int)
          · go_wp2_with (go_at_call 53; refine (tab_wrong _ _ _ _).mono ?_; rintro e w9 ⟨rfl, hb9⟩; have h9 := (Hr.out.step HE.out).step hb9; obtain ⟨r1, r2, r3, f1, f2, f3⟩ := h9.resF; have H9 := Lib.hid h9; clear h9)
            obtain ⟨hB, hW⟩ := (H9.out).ret (.int .i64 4) (.int .i64 5) (.int .i64 4096)
            obtain ⟨s1, s2, s3, -, -, -⟩ := wrong_facts hB
            refine bodyPost_ret (v := .agg #[.int .i64 4, .int .i64 5, .int .i64 4096]) ?_ rfl ⟨?_, hW⟩
            · simp [results, Tryz.results22, go_sem, s1, s2, s3]
            · rw [show longW T = some (4, 5, 4096) by rw [HLW.out]; have hi := hinv.out; rw [HN0.out]; unfold lensW; simp only [HLn1.out, HLn2.out, HLn3.out, HLn4.out, HLn5.out, HLn6.out, HLn7.out]; rw [tooL_no (n := n1) (by omega), tooL_no (n := n2) (by omega), tooL_no (n := n3) (by omega), tooL_yes (n := n4) h1]; rfl]
              rfl
          · go_wp2_with fail
            go_roundw
            case rel => exact ⟨4, by omega, by go_num, Lib.hid (by have hi := hinv.out; omega), Hr.out.step HE.out, Hg.out.below HE.out⟩
            case measure => simp [intOf]
        · have u0 : wr.cell? ⟨g9, 12, none⟩ = some (.int .i64 6) := hgb.cell 12
          have u1 : wr.cell? ⟨g9, 13, none⟩ = some (.int .i64 (n5 : Int)) := hgb.cell 13
          have u2 : wr.cell? ⟨g9, 14, none⟩ = some (.int .i64 4096) := hgb.cell 14
          have HE := Lib.hid ((Below.refl _ wr).alloc (Nat.le_refl _) (.cells #[.int .i64 6, .int .i64 (n5 : Int), .int .i64 4096] 102))
          clear hrs hgb
          by_cases h1 : (4096 : Int) < (n5 : Int)
          · go_wp2_with (go_at_call 53; refine (tab_wrong _ _ _ _).mono ?_; rintro e w9 ⟨rfl, hb9⟩; have h9 := (Hr.out.step HE.out).step hb9; obtain ⟨r1, r2, r3, f1, f2, f3⟩ := h9.resF; have H9 := Lib.hid h9; clear h9)
            obtain ⟨hB, hW⟩ := (H9.out).ret (.int .i64 4) (.int .i64 6) (.int .i64 4096)
            obtain ⟨s1, s2, s3, -, -, -⟩ := wrong_facts hB
            refine bodyPost_ret (v := .agg #[.int .i64 4, .int .i64 6, .int .i64 4096]) ?_ rfl ⟨?_, hW⟩
            · simp [results, Tryz.results22, go_sem, s1, s2, s3]
            · rw [show longW T = some (4, 6, 4096) by rw [HLW.out]; have hi := hinv.out; rw [HN0.out]; unfold lensW; simp only [HLn1.out, HLn2.out, HLn3.out, HLn4.out, HLn5.out, HLn6.out, HLn7.out]; rw [tooL_no (n := n1) (by omega), tooL_no (n := n2) (by omega), tooL_no (n := n3) (by omega), tooL_no (n := n4) (by omega), tooL_yes (n := n5) h1]; rfl]
              rfl
          · go_wp2_with fail
            go_roundw
            case rel => exact ⟨5, by omega, by go_num, Lib.hid (by have hi := hinv.out; omega), Hr.out.step HE.out, Hg.out.below HE.out⟩
            case measure => simp [intOf]
        · have u0 : wr.cell? ⟨g9, 15, none⟩ = some (.int .i64 7) := hgb.cell 15
          have u1 : wr.cell? ⟨g9, 16, none⟩ = some (.int .i64 (n6 : Int)) := hgb.cell 16
          have u2 : wr.cell? ⟨g9, 17, none⟩ = some (.int .i64 1024) := hgb.cell 17
          have HE := Lib.hid ((Below.refl _ wr).alloc (Nat.le_refl _) (.cells #[.int .i64 7, .int .i64 (n6 : Int), .int .i64 1024] 102))
          clear hrs hgb
          by_cases h1 : (1024 : Int) < (n6 : Int)
          · go_wp2_with (go_at_call 53; refine (tab_wrong _ _ _ _).mono ?_; rintro e w9 ⟨rfl, hb9⟩; have h9 := (Hr.out.step HE.out).step hb9; obtain ⟨r1, r2, r3, f1, f2, f3⟩ := h9.resF; have H9 := Lib.hid h9; clear h9)
            obtain ⟨hB, hW⟩ := (H9.out).ret (.int .i64 4) (.int .i64 7) (.int .i64 1024)
            obtain ⟨s1, s2, s3, -, -, -⟩ := wrong_facts hB
            refine bodyPost_ret (v := .agg #[.int .i64 4, .int .i64 7, .int .i64 1024]) ?_ rfl ⟨?_, hW⟩
            · simp [results, Tryz.results22, go_sem, s1, s2, s3]
            · rw [show longW T = some (4, 7, 1024) by rw [HLW.out]; have hi := hinv.out; rw [HN0.out]; unfold lensW; simp only [HLn1.out, HLn2.out, HLn3.out, HLn4.out, HLn5.out, HLn6.out, HLn7.out]; rw [tooL_no (n := n1) (by omega), tooL_no (n := n2) (by omega), tooL_no (n := n3) (by omega), tooL_no (n := n4) (by omega), tooL_no (n := n5) (by omega), tooL_yes (n := n6) h1]; rfl]
              rfl
          · go_wp2_with fail
            go_roundw
            case rel => exact ⟨6, by omega, by go_num, Lib.hid (by have hi := hinv.out; omega), Hr.out.step HE.out, Hg.out.below HE.out⟩
            case measure => simp [intOf]
        · have u0 : wr.cell? ⟨g9, 18, none⟩ = some (.int .i64 8) := hgb.cell 18
          have u1 : wr.cell? ⟨g9, 19, none⟩ = some (.int .i64 (n7 : Int)) := hgb.cell 19
          have u2 : wr.cell? ⟨g9, 20, none⟩ = some (.int .i64 1024) := hgb.cell 20
          have HE := Lib.hid ((Below.refl _ wr).alloc (Nat.le_refl _) (.cells #[.int .i64 8, .int .i64 (n7 : Int), .int .i64 1024] 102))
          clear hrs hgb
          by_cases h1 : (1024 : Int) < (n7 : Int)
          · go_wp2_with (go_at_call 53; refine (tab_wrong _ _ _ _).mono ?_; rintro e w9 ⟨rfl, hb9⟩; have h9 := (Hr.out.step HE.out).step hb9; obtain ⟨r1, r2, r3, f1, f2, f3⟩ := h9.resF; have H9 := Lib.hid h9; clear h9)
            obtain ⟨hB, hW⟩ := (H9.out).ret (.int .i64 4) (.int .i64 8) (.int .i64 1024)
            obtain ⟨s1, s2, s3, -, -, -⟩ := wrong_facts hB
            refine bodyPost_ret (v := .agg #[.int .i64 4, .int .i64 8, .int .i64 1024]) ?_ rfl ⟨?_, hW⟩
            · simp [results, Tryz.results22, go_sem, s1, s2, s3]
            · rw [show longW T = some (4, 8, 1024) by rw [HLW.out]; have hi := hinv.out; rw [HN0.out]; unfold lensW; simp only [HLn1.out, HLn2.out, HLn3.out, HLn4.out, HLn5.out, HLn6.out, HLn7.out]; rw [tooL_no (n := n1) (by omega), tooL_no (n := n2) (by omega), tooL_no (n := n3) (by omega), tooL_no (n := n4) (by omega), tooL_no (n := n5) (by omega), tooL_no (n := n6) (by omega), tooL_yes (n := n7) h1]; rfl]
              rfl
          · go_wp2_with fail
            go_roundw
            case rel => exact ⟨7, by omega, by go_num, Lib.hid (by have hi := hinv.out; omega), Hr.out.step HE.out, Hg.out.below HE.out⟩
            case measure => simp [intOf]
        · clear hrs hgb
          obtain ⟨r1, r2, r3, f1, f2, f3⟩ := Hr.out.resF
          go_wp2_with fail
          obtain ⟨hB, hW⟩ := (Hr.out).ret (.int .i64 0) (.int .i64 0) (.int .i64 0)
          obtain ⟨s1, s2, s3, -, -, -⟩ := wrong_facts hB
          refine bodyPost_ret (v := .agg #[.int .i64 0, .int .i64 0, .int .i64 0]) ?_ rfl ⟨?_, hW⟩
          · simp [results, Tryz.results22, go_sem, s1, s2, s3]
          · rw [show longW T = none by rw [HLW.out]; have hi := hinv.out; rw [HN0.out]; unfold lensW; simp only [HLn1.out, HLn2.out, HLn3.out, HLn4.out, HLn5.out, HLn6.out, HLn7.out]; rw [tooL_no (n := n1) (by omega), tooL_no (n := n2) (by omega), tooL_no (n := n3) (by omega), tooL_no (n := n4) (by omega), tooL_no (n := n5) (by omega), tooL_no (n := n6) (by omega), tooL_no (n := n7) (by omega)]; rfl]
            rfl

end
end Go.Proofs.YtjmkdimbbacnfaaGreatDoor
