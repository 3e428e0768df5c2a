/- guiseref6: long. (Printed by gen_long.py.) guiseref6: Runes. (Printed by gen_runes.py.) -/
import Derived.Test.YtjmkdimbbacnfaaGreatDoorGRefP
import Derived.Test.YtjmkdimbbacnfaaGreatDoorGTabG
import Derived.Laws.BitsLemmas
namespace Go.Proofs.YtjmkdimbbacnfaaGreatDoor
section
open Go.RowKit
set_option linter.unusedVariables false
def longS (_ : Nat) (s : ScrT) : Int := if 1024 < s.spans.length then 4 else 0
def tooL (n : Nat) (most list : Int) : Option (Int × Int × Int) := if most < (n : Int) then some (4, list, most) else none
def lensW (T : Tab) : Option (Int × Int × Int) :=
  orW (tooL T.common.length 1024 2) (orW (tooL T.marks.length 512 3) (orW (tooL T.pairs.length 4096 4) (orW (tooL T.folds.length 4096 5) (orW (tooL T.looks.length 4096 6) (orW (tooL T.drops.length 1024 7) (tooL T.allowed.length 1024 8))))))
def longW (T : Tab) : Option (Int × Int × Int) := if 64 < T.scripts.length then some (4, 1, 64) else orW (scan longS 1 0 T.scripts) (lensW T)
theorem longW_many {T : Tab} (h : 64 < T.scripts.length) : longW T = some (4, 1, 64) := by unfold longW; rw [if_pos h]
theorem longW_few {T : Tab} (h : ¬ 64 < T.scripts.length) : longW T = orW (scan longS 1 0 T.scripts) (lensW T) := by unfold longW; rw [if_neg h]
theorem tooL_yes {n : Nat} {most list : Int} (h : most < (n : Int)) : tooL n most list = some (4, list, most) := by unfold tooL; rw [if_pos h]
theorem tooL_no {n : Nat} {most list : Int} (h : ¬ most < (n : Int)) : tooL n most list = none := by unfold tooL; rw [if_neg h]
/-- two blocks of numbers behind the box -/
structure Two (wr : World) (g : Nat) (a b : Array Value) : Prop where
  one : Blk wr g 3 a
  two : Blk wr (g + 1) 3 b

set_option maxRecDepth 100000 in
set_option maxHeartbeats 8000000 in
theorem ref_long {w : World} {v0 v1 v2 v3 v4 v5 v6 v7 : Value} (T : Tab) (h : TabAt w v0 v1 v2 v3 v4 v5 v6 v7 T) (hok : TabOk T) :
    Calls Tryz.prog 32 #[.agg #[v0, v1, v2, v3, v4, v5, v6, v7]] w fun e w' => e = .returned (wrongV (longW T)) ∧ Below w.heap.size w w' := by
  have HO := Lib.hid hok
  obtain ⟨A0, c0, rfl, hn0⟩ := h.formS
  obtain ⟨A1, c1, rfl, hn1⟩ := h.common.form
  obtain ⟨A2, c2, rfl, hn2⟩ := h.marks.form
  obtain ⟨A3, c3, rfl, hn3⟩ := h.pairs.form
  obtain ⟨A4, c4, rfl, hn4⟩ := h.folds.form
  obtain ⟨A5, c5, rfl, hn5⟩ := h.looks.form
  obtain ⟨A6, c6, rfl, hn6⟩ := h.drops.form
  obtain ⟨A7, c7, rfl, hn7⟩ := h.allowed.form
  have HT := Lib.hid h
  obtain ⟨n0, hln0⟩ : ∃ n, T.scripts.length = n := ⟨_, rfl⟩
  rw [hln0] at HT hn0
  rw [hln0]
  have HLn0 := Lib.hid hln0
  clear hln0
  obtain ⟨n1, hln1⟩ : ∃ n, T.common.length = n := ⟨_, rfl⟩
  rw [hln1] at HT hn1
  rw [hln1]
  have HLn1 := Lib.hid hln1
  clear hln1
  obtain ⟨n2, hln2⟩ : ∃ n, T.marks.length = n := ⟨_, rfl⟩
  rw [hln2] at HT hn2
  rw [hln2]
  have HLn2 := Lib.hid hln2
  clear hln2
  obtain ⟨n3, hln3⟩ : ∃ n, T.pairs.length = n := ⟨_, rfl⟩
  rw [hln3] at HT hn3
  rw [hln3]
  have HLn3 := Lib.hid hln3
  clear hln3
  obtain ⟨n4, hln4⟩ : ∃ n, T.folds.length = n := ⟨_, rfl⟩
  rw [hln4] at HT hn4
  rw [hln4]
  have HLn4 := Lib.hid hln4
  clear hln4
  obtain ⟨n5, hln5⟩ : ∃ n, T.looks.length = n := ⟨_, rfl⟩
  rw [hln5] at HT hn5
  rw [hln5]
  have HLn5 := Lib.hid hln5
  clear hln5
  obtain ⟨n6, hln6⟩ : ∃ n, T.drops.length = n := ⟨_, rfl⟩
  rw [hln6] at HT hn6
  rw [hln6]
  have HLn6 := Lib.hid hln6
  clear hln6
  obtain ⟨n7, hln7⟩ : ∃ n, T.allowed.length = n := ⟨_, rfl⟩
  rw [hln7] at HT hn7
  rw [hln7]
  have HLn7 := Lib.hid hln7
  clear hln7
  clear h hok
  go_enter Tryz.func32, Tryz.ntmps32
  by_cases h64 : 64 < n0
  · have t1 : (64 : Int) < (n0 : Int) := by omega
    have H64 := Lib.hid h64
    clear h64
    go_wp2_with fail
    refine bodyPost_ret (v := .agg #[.int .i64 4, .int .i64 1, .int .i64 64]) ?_ rfl ⟨?_, ((Below.refl _ w).alloc (Nat.le_refl _) _).alloc (by simp) _⟩
    · simp [results, Tryz.results32, go_sem]
    · rw [longW_many (by rw [HLn0.out]; exact H64.out)]; rfl
  have t1 : ¬ (64 : Int) < (n0 : Int) := by omega
  have HLW := Lib.hid (longW_few (T := T) (by rw [HLn0.out]; exact h64))
  clear h64
  go_wp2_with fail
  clear t1
  go_loopw [3] (fun i wr => ∃ k : Nat, k ≤ n0 ∧ i = .int .i64 (k : Int) ∧ NoneTo (longS) T.scripts k ∧ RS w (.slice A0 n0 c0) (.slice A1 n1 c1) (.slice A2 n2 c2) (.slice A3 n3 c3) (.slice A4 n4 c4) (.slice A5 n5 c5) (.slice A6 n6 c6) (.slice A7 n7 c7) wr) (fun i _ => n0 - (intOf i).toNat)
  case atStart => exact ⟨0, Nat.zero_le _, rfl, NoneTo.zero _ _, RS.start _ _ _ _ _ _ _ _ _⟩
  case round =>
    obtain ⟨k, hk, rfl, hno, hrs⟩ := hrel
    have Hno := Lib.hid hno
    have Hr := Lib.hid hrs
    obtain ⟨b0, b1, b2, b3, b4, b5, b6, b7⟩ := hrs.boxF
    by_cases hlt : k < n0
    · obtain ⟨m, hm⟩ : ∃ m, T.scripts[k]? = some m := ⟨_, List.getElem?_eq_getElem (by rw [HLn0.out]; exact hlt)⟩
      obtain ⟨a, v, rfl, e0, e1, hsp⟩ := elS HT.out hrs.below hm
      have Hm := Lib.hid hm
      have k0 : (0 : Int) ≤ (k : Int) := by omega
      have k1 : (k : Int) < (n0 : Int) := by omega
      obtain ⟨A9, c9, rfl, hn9⟩ := hsp.form
      obtain ⟨n9, hl9⟩ : ∃ n, m.spans.length = n := ⟨_, rfl⟩
      rw [hl9] at hn9 e1
      have Hl9 := Lib.hid hl9
      clear hno hrs hm hsp hl9
      by_cases h1 : (1024 : Int) < (n9 : Int)
      · have H0 : Hid (longS k m = 4) := Lib.hid (by unfold longS; rw [if_pos (by rw [Hl9.out]; omega)])
        obtain ⟨r1, r2, r3, f1, f2, f3⟩ := Hr.out.resF
        go_wp2_with fail
        obtain ⟨hB, hW⟩ := (Hr.out).ret (.int .i64 4) (.int .i64 1) (.int .i64 (k : Int))
        obtain ⟨s1, s2, s3, -, -, -⟩ := wrong_facts hB
        refine bodyPost_ret (v := .agg #[.int .i64 4, .int .i64 1, .int .i64 (k : Int)]) ?_ rfl ⟨?_, hW⟩
        · simp [results, Tryz.results32, go_sem, s1, s2, s3]
        · rw [show longW T = some (4, 1, (k : Int)) by rw [HLW.out, Hno.out.found Hm.out (by rw [H0.out]; decide) 1, H0.out]; first | done | rfl]
          rfl
      · have H0 : Hid (longS k m = 0) := Lib.hid (by unfold longS; rw [if_neg (by rw [Hl9.out]; omega)])
        go_wp2_with fail
        go_roundw
        case rel => exact ⟨k + 1, by omega, by go_num, Hno.out.succ Hm.out H0.out, Hr.out⟩
        case measure => simp [intOf]; omega
    · have hkn : n0 = k := by omega
      subst hkn
      have HN1 : Hid (scan (longS) 1 0 T.scripts = none) := Lib.hid (NoneTo.all (by rw [HLn0.out]; exact Hno.out) 1)
      clear Hno hno hrs
      go_wp2_with fail
      clear b0 b1 b2 b3 b4 b5 b6 b7
      have hr2 := (Hr.out.step ((Below.refl _ wr).alloc (Nat.le_refl _) (.cells #[.int .i64 (n1 : Int), .int .i64 (n2 : Int), .int .i64 (n3 : Int), .int .i64 (n4 : Int), .int .i64 (n5 : Int), .int .i64 (n6 : Int), .int .i64 (n7 : Int)] 3))).step ((Below.refl _ _).alloc (Nat.le_refl _) (.cells #[.int .i64 1024, .int .i64 512, .int .i64 4096, .int .i64 4096, .int .i64 4096, .int .i64 1024, .int .i64 1024] 3))
      have htw : Two ((wr.alloc (.cells #[.int .i64 (n1 : Int), .int .i64 (n2 : Int), .int .i64 (n3 : Int), .int .i64 (n4 : Int), .int .i64 (n5 : Int), .int .i64 (n6 : Int), .int .i64 (n7 : Int)] 3)).alloc (.cells #[.int .i64 1024, .int .i64 512, .int .i64 4096, .int .i64 4096, .int .i64 4096, .int .i64 1024, .int .i64 1024] 3)) wr.heap.size #[.int .i64 (n1 : Int), .int .i64 (n2 : Int), .int .i64 (n3 : Int), .int .i64 (n4 : Int), .int .i64 (n5 : Int), .int .i64 (n6 : Int), .int .i64 (n7 : Int)] #[.int .i64 1024, .int .i64 512, .int .i64 4096, .int .i64 4096, .int .i64 4096, .int .i64 1024, .int .i64 1024] := ⟨(Blk.new wr _ _).alloc _, by have h := Blk.new (wr.alloc (.cells #[.int .i64 (n1 : Int), .int .i64 (n2 : Int), .int .i64 (n3 : Int), .int .i64 (n4 : Int), .int .i64 (n5 : Int), .int .i64 (n6 : Int), .int .i64 (n7 : Int)] 3)) 3 #[.int .i64 1024, .int .i64 512, .int .i64 4096, .int .i64 4096, .int .i64 4096, .int .i64 1024, .int .i64 1024]; simp only [World.size_alloc] at h; exact h⟩
      obtain ⟨g9, hg9⟩ : ∃ g, wr.heap.size = g := ⟨_, rfl⟩
      rw [hg9] at htw
      simp only [hg9]
      obtain ⟨W2, hW2⟩ : ∃ W2, (wr.alloc (.cells #[.int .i64 (n1 : Int), .int .i64 (n2 : Int), .int .i64 (n3 : Int), .int .i64 (n4 : Int), .int .i64 (n5 : Int), .int .i64 (n6 : Int), .int .i64 (n7 : Int)] 3)).alloc (.cells #[.int .i64 1024, .int .i64 512, .int .i64 4096, .int .i64 4096, .int .i64 4096, .int .i64 1024, .int .i64 1024] 3) = W2 := ⟨_, rfl⟩
      rw [hW2] at hr2 htw ⊢
      have Hr2 := Lib.hid hr2
      have Htw := Lib.hid htw
      clear hW2 hr2 htw hg9 Hr
      go_loopw [6] (fun i wr => ∃ k : Nat, k ≤ 7 ∧ i = .int .i64 (k : Int) ∧ Hid ((1 ≤ k → (n1 : Int) ≤ 1024) ∧ (2 ≤ k → (n2 : Int) ≤ 512) ∧ (3 ≤ k → (n3 : Int) ≤ 4096) ∧ (4 ≤ k → (n4 : Int) ≤ 4096) ∧ (5 ≤ k → (n5 : Int) ≤ 4096) ∧ (6 ≤ k → (n6 : Int) ≤ 1024) ∧ (7 ≤ k → (n7 : Int) ≤ 1024)) ∧ RS w (.slice A0 n0 c0) (.slice A1 n1 c1) (.slice A2 n2 c2) (.slice A3 n3 c3) (.slice A4 n4 c4) (.slice A5 n5 c5) (.slice A6 n6 c6) (.slice A7 n7 c7) wr ∧ Two wr g9 #[.int .i64 (n1 : Int), .int .i64 (n2 : Int), .int .i64 (n3 : Int), .int .i64 (n4 : Int), .int .i64 (n5 : Int), .int .i64 (n6 : Int), .int .i64 (n7 : Int)] #[.int .i64 1024, .int .i64 512, .int .i64 4096, .int .i64 4096, .int .i64 4096, .int .i64 1024, .int .i64 1024]) (fun i _ => 7 - (intOf i).toNat)
      case atStart => exact ⟨0, Nat.zero_le _, rfl, Lib.hid (by omega), Hr2.out, Htw.out⟩
      case round =>
        clear Hr2 Htw
        obtain ⟨k, hk, rfl, hinv, hrs, htw⟩ := hrel
        have Hr := Lib.hid hrs
        have Ht := Lib.hid htw
        have hkc : k = 0 ∨ k = 1 ∨ k = 2 ∨ k = 3 ∨ k = 4 ∨ k = 5 ∨ k = 6 ∨ k = 7 := by omega
        rcases hkc with rfl | rfl | rfl | rfl | rfl | rfl | rfl | rfl
        · have c0 : wr.cell? ⟨g9, 0, none⟩ = some (.int .i64 (n1 : Int)) := htw.one.cell 0
          have c1 : wr.cell? ⟨g9 + 1, 0, none⟩ = some (.int .i64 1024) := htw.two.cell 0
          clear hrs htw
          by_cases h1 : (1024 : Int) < (n1 : Int)
          · obtain ⟨r1, r2, r3, f1, f2, f3⟩ := Hr.out.resF
            go_wp2_with fail
            go_quiet (fail)
            go_wp2_with fail
            obtain ⟨hB, hW⟩ := ((Hr.out.step (below_dr wr nq))).ret (.int .i64 4) (.int .i64 2) (.int .i64 1024)
            obtain ⟨s1, s2, s3, -, -, -⟩ := wrong_facts hB
            refine bodyPost_ret (v := .agg #[.int .i64 4, .int .i64 2, .int .i64 1024]) ?_ rfl ⟨?_, hW⟩
            · simp [results, Tryz.results32, go_sem, s1, s2, s3]
            · rw [show longW T = some (4, 2, 1024) by have hi := hinv.out; rw [HLW.out, HN1.out]; unfold lensW; simp only [HLn1.out, HLn2.out, HLn3.out, HLn4.out, HLn5.out, HLn6.out, HLn7.out]; rw [tooL_yes (n := n1) h1]; rfl]
              rfl
          · go_wp2_with fail
            go_quiet (fail)
            go_wp2_with fail
            go_roundw
            case rel => exact ⟨1, by omega, by go_num, Lib.hid (by have hi := hinv.out; omega), Hr.out.step (below_dr wr nq), ⟨Ht.out.one.below (below_dr wr nq), Ht.out.two.below (below_dr wr nq)⟩⟩
            case measure => simp [intOf]
        · have c0 : wr.cell? ⟨g9, 1, none⟩ = some (.int .i64 (n2 : Int)) := htw.one.cell 1
          have c1 : wr.cell? ⟨g9 + 1, 1, none⟩ = some (.int .i64 512) := htw.two.cell 1
          clear hrs htw
          by_cases h1 : (512 : Int) < (n2 : Int)
          · obtain ⟨r1, r2, r3, f1, f2, f3⟩ := Hr.out.resF
            go_wp2_with fail
            go_quiet (fail)
            go_wp2_with fail
            obtain ⟨hB, hW⟩ := ((Hr.out.step (below_dr wr nq))).ret (.int .i64 4) (.int .i64 3) (.int .i64 512)
            obtain ⟨s1, s2, s3, -, -, -⟩ := wrong_facts hB
            refine bodyPost_ret (v := .agg #[.int .i64 4, .int .i64 3, .int .i64 512]) ?_ rfl ⟨?_, hW⟩
            · simp [results, Tryz.results32, go_sem, s1, s2, s3]
            · rw [show longW T = some (4, 3, 512) by have hi := hinv.out; rw [HLW.out, HN1.out]; unfold lensW; simp only [HLn1.out, HLn2.out, HLn3.out, HLn4.out, HLn5.out, HLn6.out, HLn7.out]; rw [tooL_no (n := n1) (by omega), tooL_yes (n := n2) h1]; rfl]
              rfl
          · go_wp2_with fail
            go_quiet (fail)
            go_wp2_with fail
            go_roundw
            case rel => exact ⟨2, by omega, by go_num, Lib.hid (by have hi := hinv.out; omega), Hr.out.step (below_dr wr nq), ⟨Ht.out.one.below (below_dr wr nq), Ht.out.two.below (below_dr wr nq)⟩⟩
            case measure => simp [intOf]
        · have c0 : wr.cell? ⟨g9, 2, none⟩ = some (.int .i64 (n3 : Int)) := htw.one.cell 2
          have c1 : wr.cell? ⟨g9 + 1, 2, none⟩ = some (.int .i64 4096) := htw.two.cell 2
          clear hrs htw
          by_cases h1 : (4096 : Int) < (n3 : Int)
          · obtain ⟨r1, r2, r3, f1, f2, f3⟩ := Hr.out.resF
            go_wp2_with fail
            go_quiet (fail)
            go_wp2_with fail
            obtain ⟨hB, hW⟩ := ((Hr.out.step (below_dr wr nq))).ret (.int .i64 4) (.int .i64 4) (.int .i64 4096)
            obtain ⟨s1, s2, s3, -, -, -⟩ := wrong_facts hB
            refine bodyPost_ret (v := .agg #[.int .i64 4, .int .i64 4, .int .i64 4096]) ?_ rfl ⟨?_, hW⟩
            · simp [results, Tryz.results32, go_sem, s1, s2, s3]
            · rw [show longW T = some (4, 4, 4096) by have hi := hinv.out; rw [HLW.out, HN1.out]; unfold lensW; simp only [HLn1.out, HLn2.out, HLn3.out, HLn4.out, HLn5.out, HLn6.out, HLn7.out]; rw [tooL_no (n := n1) (by omega), tooL_no (n := n2) (by omega), tooL_yes (n := n3) h1]; rfl]
              rfl
          · go_wp2_with fail
            go_quiet (fail)
            go_wp2_with fail
            go_roundw
            case rel => exact ⟨3, by omega, by go_num, Lib.hid (by have hi := hinv.out; omega), Hr.out.step (below_dr wr nq), ⟨Ht.out.one.below (below_dr wr nq), Ht.out.two.below (below_dr wr nq)⟩⟩
            case measure => simp [intOf]
        · have c0 : wr.cell? ⟨g9, 3, none⟩ = some (.int .i64 (n4 : Int)) := htw.one.cell 3
          have c1 : wr.cell? ⟨g9 + 1, 3, none⟩ = some (.int .i64 4096) := htw.two.cell 3
          clear hrs htw
          by_cases h1 : (4096 : Int) < (n4 : Int)
          · obtain ⟨r1, r2, r3, f1, f2, f3⟩ := Hr.out.resF
            go_wp2_with fail
            go_quiet (fail)
            go_wp2_with fail
            obtain ⟨hB, hW⟩ := ((Hr.out.step (below_dr wr nq))).ret (.int .i64 4) (.int .i64 5) (.int .i64 4096)
            obtain ⟨s1, s2, s3, -, -, -⟩ := wrong_facts hB
            refine bodyPost_ret (v := .agg #[.int .i64 4, .int .i64 5, .int .i64 4096]) ?_ rfl ⟨?_, hW⟩
            · simp [results, Tryz.results32, go_sem, s1, s2, s3]
            · rw [show longW T = some (4, 5, 4096) by have hi := hinv.out; rw [HLW.out, HN1.out]; unfold lensW; simp only [HLn1.out, HLn2.out, HLn3.out, HLn4.out, HLn5.out, HLn6.out, HLn7.out]; rw [tooL_no (n := n1) (by omega), tooL_no (n := n2) (by omega), tooL_no (n := n3) (by omega), tooL_yes (n := n4) h1]; rfl]
              rfl
          · go_wp2_with fail
            go_quiet (fail)
            go_wp2_with fail
            go_roundw
            case rel => exact ⟨4, by omega, by go_num, Lib.hid (by have hi := hinv.out; omega), Hr.out.step (below_dr wr nq), ⟨Ht.out.one.below (below_dr wr nq), Ht.out.two.below (below_dr wr nq)⟩⟩
            case measure => simp [intOf]
        · have c0 : wr.cell? ⟨g9, 4, none⟩ = some (.int .i64 (n5 : Int)) := htw.one.cell 4
          have c1 : wr.cell? ⟨g9 + 1, 4, none⟩ = some (.int .i64 4096) := htw.two.cell 4
          clear hrs htw
          by_cases h1 : (4096 : Int) < (n5 : Int)
          · obtain ⟨r1, r2, r3, f1, f2, f3⟩ := Hr.out.resF
            go_wp2_with fail
            go_quiet (fail)
            go_wp2_with fail
            obtain ⟨hB, hW⟩ := ((Hr.out.step (below_dr wr nq))).ret (.int .i64 4) (.int .i64 6) (.int .i64 4096)
            obtain ⟨s1, s2, s3, -, -, -⟩ := wrong_facts hB
            refine bodyPost_ret (v := .agg #[.int .i64 4, .int .i64 6, .int .i64 4096]) ?_ rfl ⟨?_, hW⟩
            · simp [results, Tryz.results32, go_sem, s1, s2, s3]
            · rw [show longW T = some (4, 6, 4096) by have hi := hinv.out; rw [HLW.out, HN1.out]; unfold lensW; simp only [HLn1.out, HLn2.out, HLn3.out, HLn4.out, HLn5.out, HLn6.out, HLn7.out]; rw [tooL_no (n := n1) (by omega), tooL_no (n := n2) (by omega), tooL_no (n := n3) (by omega), tooL_no (n := n4) (by omega), tooL_yes (n := n5) h1]; rfl]
              rfl
          · go_wp2_with fail
            go_quiet (fail)
            go_wp2_with fail
            go_roundw
            case rel => exact ⟨5, by omega, by go_num, Lib.hid (by have hi := hinv.out; omega), Hr.out.step (below_dr wr nq), ⟨Ht.out.one.below (below_dr wr nq), Ht.out.two.below (below_dr wr nq)⟩⟩
            case measure => simp [intOf]
        · have c0 : wr.cell? ⟨g9, 5, none⟩ = some (.int .i64 (n6 : Int)) := htw.one.cell 5
          have c1 : wr.cell? ⟨g9 + 1, 5, none⟩ = some (.int .i64 1024) := htw.two.cell 5
          clear hrs htw
          by_cases h1 : (1024 : Int) < (n6 : Int)
          · obtain ⟨r1, r2, r3, f1, f2, f3⟩ := Hr.out.resF
            go_wp2_with fail
            go_quiet (fail)
            go_wp2_with fail
            obtain ⟨hB, hW⟩ := ((Hr.out.step (below_dr wr nq))).ret (.int .i64 4) (.int .i64 7) (.int .i64 1024)
            obtain ⟨s1, s2, s3, -, -, -⟩ := wrong_facts hB
            refine bodyPost_ret (v := .agg #[.int .i64 4, .int .i64 7, .int .i64 1024]) ?_ rfl ⟨?_, hW⟩
            · simp [results, Tryz.results32, go_sem, s1, s2, s3]
            · rw [show longW T = some (4, 7, 1024) by have hi := hinv.out; rw [HLW.out, HN1.out]; unfold lensW; simp only [HLn1.out, HLn2.out, HLn3.out, HLn4.out, HLn5.out, HLn6.out, HLn7.out]; rw [tooL_no (n := n1) (by omega), tooL_no (n := n2) (by omega), tooL_no (n := n3) (by omega), tooL_no (n := n4) (by omega), tooL_no (n := n5) (by omega), tooL_yes (n := n6) h1]; rfl]
              rfl
          · go_wp2_with fail
            go_quiet (fail)
            go_wp2_with fail
            go_roundw
            case rel => exact ⟨6, by omega, by go_num, Lib.hid (by have hi := hinv.out; omega), Hr.out.step (below_dr wr nq), ⟨Ht.out.one.below (below_dr wr nq), Ht.out.two.below (below_dr wr nq)⟩⟩
            case measure => simp [intOf]
        · have c0 : wr.cell? ⟨g9, 6, none⟩ = some (.int .i64 (n7 : Int)) := htw.one.cell 6
          have c1 : wr.cell? ⟨g9 + 1, 6, none⟩ = some (.int .i64 1024) := htw.two.cell 6
          clear hrs htw
          by_cases h1 : (1024 : Int) < (n7 : Int)
          · obtain ⟨r1, r2, r3, f1, f2, f3⟩ := Hr.out.resF
            go_wp2_with fail
            go_quiet (fail)
            go_wp2_with fail
            obtain ⟨hB, hW⟩ := ((Hr.out.step (below_dr wr nq))).ret (.int .i64 4) (.int .i64 8) (.int .i64 1024)
            obtain ⟨s1, s2, s3, -, -, -⟩ := wrong_facts hB
            refine bodyPost_ret (v := .agg #[.int .i64 4, .int .i64 8, .int .i64 1024]) ?_ rfl ⟨?_, hW⟩
            · simp [results, Tryz.results32, go_sem, s1, s2, s3]
            · rw [show longW T = some (4, 8, 1024) by have hi := hinv.out; rw [HLW.out, HN1.out]; unfold lensW; simp only [HLn1.out, HLn2.out, HLn3.out, HLn4.out, HLn5.out, HLn6.out, HLn7.out]; rw [tooL_no (n := n1) (by omega), tooL_no (n := n2) (by omega), tooL_no (n := n3) (by omega), tooL_no (n := n4) (by omega), tooL_no (n := n5) (by omega), tooL_no (n := n6) (by omega), tooL_yes (n := n7) h1]; rfl]
              rfl
          · go_wp2_with fail
            go_quiet (fail)
            go_wp2_with fail
            go_roundw
            case rel => exact ⟨7, by omega, by go_num, Lib.hid (by have hi := hinv.out; omega), Hr.out.step (below_dr wr nq), ⟨Ht.out.one.below (below_dr wr nq), Ht.out.two.below (below_dr wr nq)⟩⟩
            case measure => simp [intOf]
        · obtain ⟨r1, r2, r3, f1, f2, f3⟩ := Hr.out.resF
          clear hrs htw
          go_wp2_with fail
          obtain ⟨hB, hW⟩ := (Hr.out).ret (.int .i64 0) (.int .i64 0) (.int .i64 0)
          obtain ⟨s1, s2, s3, -, -, -⟩ := wrong_facts hB
          refine bodyPost_ret (v := .agg #[.int .i64 0, .int .i64 0, .int .i64 0]) ?_ rfl ⟨?_, hW⟩
          · simp [results, Tryz.results32, go_sem, s1, s2, s3]
          · rw [show longW T = none by have hi := hinv.out; rw [HLW.out, HN1.out]; unfold lensW; simp only [HLn1.out, HLn2.out, HLn3.out, HLn4.out, HLn5.out, HLn6.out, HLn7.out]; rw [tooL_no (n := n1) (by omega), tooL_no (n := n2) (by omega), tooL_no (n := n3) (by omega), tooL_no (n := n4) (by omega), tooL_no (n := n5) (by omega), tooL_no (n := n6) (by omega), tooL_no (n := n7) (by omega)]; rfl]
            rfl

end
section
open Go.RowKit
set_option linter.unusedVariables false
theorem infoR : (Tryz.prog.info? 21).map (fun i => (i.zero, i.size, i.bytes)) = some (some (.int .i32 0), 1, 4) := by kernel_rfl
theorem res_none {w : World} {s : ByteArray} (h : runesOf s = none) : RunesRes w s (.returned (.tuple #[.slice none 0 0, .bool false])) := by
  unfold RunesRes; rw [h]
/-- a row of runes of the call's own -/
theorem runes_ownZ {w : World} {base n : Nat} {v : Value} {ns : List Int} (h : w.ownsRow base 21 1 v n (ns.map (Value.int .i32))) : ∃ A c, v = .slice A ns.length c ∧ RunesAtZ w A ns := by
  have hl : n = ns.length := by have := h.1; rw [List.length_map] at this; omega
  subst hl
  obtain ⟨A, c, rfl, hA⟩ := own_form h
  refine ⟨A, c, rfl, fun h0 => ?_⟩
  obtain ⟨g, rfl, _, hlt, hc⟩ := hA h0
  refine ⟨⟨g, 0, none⟩, rfl, hlt, fun j hj => ?_⟩
  have e : (⟨g, 0, none⟩ : Addr).add j = ⟨g, j, none⟩ := by
    unfold Addr.add
    by_cases h : j = 0
    · subst h; rfl
    · simp [h]
  rw [e, hc j (by omega), List.getElem?_map, List.getElem?_eq_getElem hj, List.getD_eq_getElem?_getD, List.getElem?_eq_getElem hj]
  rfl
theorem byt_at {s : ByteArray} {p : Nat} (h : p < s.size) : byt s p = s[p].toNat := by unfold byt; rw [show s.get! p = s[p] from get_at s p h]
theorem runes_more {s : ByteArray} {p n : Nat} {out : List Int} {r : Int} (h : runesOf s = (runesFrom s p).map (out ++ ·)) (hp : p < s.size) (hd : Utf8.decode s p = (r.toNat, n)) (h0 : 0 ≤ r) (hn : n ≠ 1 ∨ r < 128) : runesOf s = (runesFrom s (p + n)).map ((out ++ [r]) ++ ·) := by
  rw [h, runesFrom_good hp hd h0 hn]
  cases runesFrom s (p + n) with
  | none => rfl
  | some l => simp
theorem runes_fail {s : ByteArray} {p : Nat} {out : List Int} (h : runesOf s = (runesFrom s p).map (out ++ ·)) (hp : p < s.size) (hd : Utf8.decode s p = (65533, 1)) : runesOf s = none := by
  rw [h, runesFrom_bad hp hd]; rfl

set_option maxRecDepth 100000 in
set_option maxHeartbeats 8000000 in
theorem ref_Runes : RunesOK := by
  intro s w hm
  obtain ⟨i0, hi, hz0, hz1, hz2⟩ := info_parts infoR
  have HR := Lib.hid (fun r b (hb : isRune r = b) w0 => (ref_Rune r w0).mono (R' := fun e w' => e = .returned (.bool b) ∧ w0 = w') (fun e w' h => ⟨by rw [← hb]; exact h.1, h.2⟩))
  go_enter Tryz.func85, Tryz.ntmps85
  go_wp2_with fail
  go_loopw [4, 5, 6, 7, 8, 9] (fun v i _ _ _ _ wr => ∃ (p : Nat) (out : List Int), p ≤ s.size ∧ i = .int .i64 (p : Int) ∧ out.length ≤ p ∧ Hid (runesOf s = (runesFrom s p).map (out ++ ·)) ∧ wr.ownsRow w.heap.size 21 1 v out.length (out.map (Value.int .i32)) ∧ Below w.heap.size w wr) (fun _ i _ _ _ _ _ => s.size - (intOf i).toNat)
  case atStart => exact ⟨0, [], Nat.zero_le _, rfl, Nat.le_refl _, Lib.hid (by rw [runesFrom_zero]; cases runesOf s <;> simp), World.ownsRow_nil _ _ _ _, Below.refl _ _⟩
  case round =>
    obtain ⟨p, out, hp, rfl, hol, hrun, hown, hb⟩ := hrel
    by_cases hlt : p < s.size
    · have hsz := hb.size
      have hlt3 := hown.lt
      obtain ⟨n, hn⟩ : ∃ n, out.length = n := ⟨_, rfl⟩
      have Hn := Lib.hid hn
      rw [hn] at hol hown
      have hcb := byt_at hlt
      have hcl := byt_lt s p
      generalize hcc : s[p].toNat = c at *
      have Hcb := Lib.hid hcb
      rw [hcb] at hcl
      have Hlt := Lib.hid hlt
      have k1 : (p : Int) < (s.size : Int) := by omega
      have k0 : (0 : Int) ≤ (p : Int) := by omega
      clear hcb hn
      have Hrun := hrun
      have Hb := Lib.hid hb
      clear hrun
      by_cases h1 : (c : Int) < 128
      · go_wp2_with (at_builtin; (refine wpList_append_own _ rfl _ _ 55 rfl w.heap.size 21 i0 _ 1 4 Tryz.underlying55 hi hz0 hz1 hz2 rfl (by decide) u4 n _ rfl (hown.alloc _) ⟨wr.heap.size, 0, none⟩ 1 1 [.int .i32 ((c : Int))] rfl rfl (cells_new _ _ _ _ rfl) (by simp [Value.oneCell']) (by unfold maxLen; omega) (by omega) (by simp; omega) ?_); intro v' w2 hown' hgrow _)
        go_roundw
        case rel =>
          refine ⟨p + 1, out ++ [(c : Int)], by omega, by go_num, by rw [List.length_append, Hn.out]; simp; omega, Lib.hid (runes_more Hrun.out Hlt.out (by rw [dec_ascii (by rw [Hcb.out]; omega), Hcb.out]; rfl) (by omega) (.inr h1)), ?_, (Hb.out.alloc hsz _).grown hgrow (by simp; omega) (fun k e => (hlt3 k e).1)⟩
          rw [List.length_append, Hn.out, List.map_append]
          exact hown'
        case measure => simp [intOf]; omega
      · by_cases h2 : (192 : Int) ≤ (c : Int)
        · by_cases h3 : (c : Int) < 224
          · skip
            have HL : Hid (LeadOf (byt s p) 1 128 ((c : Int) - 192)) := Lib.hid (by rw [Hcb.out]; unfold LeadOf; omega)
            go_wp2_with fail
            go_loopw [8, 9] (fun r k wq => ∃ q : Nat, q ≤ 1 ∧ k = .int .i64 ((q : Int) + 1) ∧ r = .int .i32 (accI s p ((c : Int) - 192) q) ∧ Hid (∀ j, 1 ≤ j → j ≤ q → contAt s p j) ∧ wq = wr) (fun _ k _ => 2 - (intOf k).toNat)
            case atStart => exact ⟨0, Nat.zero_le _, rfl, rfl, Lib.hid (fun j h h2 => by omega), rfl⟩
            case round =>
              obtain ⟨q, hq, rfl, rfl, hco, rfl⟩ := hrel
              have hrg := accI_range HL.out q hq hco.out
              obtain ⟨x, hx⟩ : ∃ x, accI s p ((c : Int) - 192) q = x := ⟨_, rfl⟩
              rw [hx] at hrg ⊢
              have Hx := Lib.hid hx
              clear hx
              obtain ⟨x0, x1, x2⟩ := hrg
              by_cases hqn : q < 1
              · have x3 := x2 hqn
                obtain ⟨pp, hpp⟩ : ∃ pp, p + (q + 1) = pp := ⟨_, rfl⟩
                have e1 : (p : Int) + ((q : Int) + 1) = (pp : Int) := by omega
                have g1 : (q : Int) + 1 ≤ 1 := by omega
                have Hpp := Lib.hid hpp
                clear hpp x2
                by_cases h5 : (pp : Int) < (s.size : Int)
                · have hpl : pp < s.size := by omega
                  have hc2 := byt_at hpl
                  have hc2l := byt_lt s pp
                  generalize hd2 : s[pp].toNat = d at *
                  have Hc2 := Lib.hid hc2
                  rw [hc2] at hc2l
                  clear hc2
                  have pp0 : (0 : Int) ≤ (pp : Int) := by omega
                  by_cases h6 : (d : Int) < 128
                  · skip
                    go_wp2_with fail
                    go_ret2
                    exact ⟨res_none (runes_fail Hrun.out Hlt.out (dec_short HL.out (k := q + 1) (by omega) (by omega) (by unfold contAt; rw [Hpp.out]; rw [Hc2.out]; rintro ⟨a1, a2, a3⟩; omega))), Hb.out⟩
                  · by_cases h7 : (192 : Int) ≤ (d : Int)
                    · skip
                      go_wp2_with fail
                      go_ret2
                      exact ⟨res_none (runes_fail Hrun.out Hlt.out (dec_short HL.out (k := q + 1) (by omega) (by omega) (by unfold contAt; rw [Hpp.out]; rw [Hc2.out]; rintro ⟨a1, a2, a3⟩; omega))), Hb.out⟩
                    · go_wp2_with fail
                      go_roundw
                      case rel =>
                        have hcon : contAt s p (q + 1) := by unfold contAt; rw [Hpp.out, Hc2.out]; omega
                        refine ⟨q + 1, by omega, by go_num, ?_, Lib.hid (fun j hj hj2 => ?_), trivial⟩
                        · rw [show accI s p ((c : Int) - 192) (q + 1) = x * 64 + ((d : Int) - 128) by simp only [accI]; rw [Hx.out, Hpp.out, Hc2.out]]
                        · by_cases e : j = q + 1
                          · rw [e]; exact hcon
                          · exact hco.out j hj (by omega)
                      case measure => simp [intOf]; omega
                · skip
                  go_wp2_with fail
                  go_ret2
                  exact ⟨res_none (runes_fail Hrun.out Hlt.out (dec_short HL.out (k := q + 1) (by omega) (by omega) (by unfold contAt; rw [Hpp.out]; rintro ⟨a1, a2, a3⟩; omega))), Hb.out⟩
              · have hqe : q = 1 := by omega
                subst hqe
                have HD := Lib.hid (dec_all HL.out hco.out)
                rw [Hx.out] at HD
                have hfit : p + 2 ≤ s.size := by have := (hco.out 1 (by omega) (by omega)).1; omega
                clear hco x2 hqn hq Hx
                by_cases h8 : x < 128
                · go_wp2_with fail
                  go_ret2
                  exact ⟨res_none (runes_fail Hrun.out Hlt.out (by rw [HD.out, if_neg (by rintro ⟨a1, a2⟩; omega)])), Hb.out⟩
                · cases h9 : isRune x with
                  | false =>
                    go_wp2_with (go_at_call 78; refine (HR.out _ _ (by assumption) _).mono ?_; rintro e w' ⟨rfl, rfl⟩)
                    go_ret2
                    exact ⟨res_none (runes_fail Hrun.out Hlt.out (by rw [HD.out, if_neg (by rw [h9]; rintro ⟨a1, a2⟩; cases a2)])), Hb.out⟩
                  | true =>
                    go_wp2_with (first | (at_builtin; (refine wpList_append_own _ rfl _ _ 55 rfl w.heap.size 21 i0 _ 1 4 Tryz.underlying55 hi hz0 hz1 hz2 rfl (by decide) u4 n _ rfl (hown.alloc _) ⟨wr.heap.size, 0, none⟩ 1 1 [.int .i32 (x)] rfl rfl (cells_new _ _ _ _ rfl) (by simp [Value.oneCell']) (by unfold maxLen; omega) (by omega) (by simp; omega) ?_); intro v' w2 hown' hgrow _) | (go_at_call 78; refine (HR.out _ _ (by assumption) _).mono ?_; rintro e w' ⟨rfl, rfl⟩))
                    go_roundw
                    case rel =>
                      refine ⟨p + 2, out ++ [x], by omega, by go_num, by rw [List.length_append, Hn.out]; simp; omega, Lib.hid (runes_more Hrun.out Hlt.out (by rw [HD.out, if_pos ⟨by omega, h9⟩]) x0 (.inl (by omega))), ?_, (Hb.out.alloc hsz _).grown hgrow (by simp; omega) (fun k e => (hlt3 k e).1)⟩
                      rw [List.length_append, Hn.out, List.map_append]
                      exact hown'
                    case measure => simp [intOf]; omega
          · have h3b : (224 : Int) ≤ (c : Int) := by omega
            by_cases h4 : (c : Int) < 240
            · skip
              have HL : Hid (LeadOf (byt s p) 2 2048 ((c : Int) - 224)) := Lib.hid (by rw [Hcb.out]; unfold LeadOf; omega)
              go_wp2_with fail
              go_loopw [8, 9] (fun r k wq => ∃ q : Nat, q ≤ 2 ∧ k = .int .i64 ((q : Int) + 1) ∧ r = .int .i32 (accI s p ((c : Int) - 224) q) ∧ Hid (∀ j, 1 ≤ j → j ≤ q → contAt s p j) ∧ wq = wr) (fun _ k _ => 3 - (intOf k).toNat)
              case atStart => exact ⟨0, Nat.zero_le _, rfl, rfl, Lib.hid (fun j h h2 => by omega), rfl⟩
              case round =>
                obtain ⟨q, hq, rfl, rfl, hco, rfl⟩ := hrel
                have hrg := accI_range HL.out q hq hco.out
                obtain ⟨x, hx⟩ : ∃ x, accI s p ((c : Int) - 224) q = x := ⟨_, rfl⟩
                rw [hx] at hrg ⊢
                have Hx := Lib.hid hx
                clear hx
                obtain ⟨x0, x1, x2⟩ := hrg
                by_cases hqn : q < 2
                · have x3 := x2 hqn
                  obtain ⟨pp, hpp⟩ : ∃ pp, p + (q + 1) = pp := ⟨_, rfl⟩
                  have e1 : (p : Int) + ((q : Int) + 1) = (pp : Int) := by omega
                  have g1 : (q : Int) + 1 ≤ 2 := by omega
                  have Hpp := Lib.hid hpp
                  clear hpp x2
                  by_cases h5 : (pp : Int) < (s.size : Int)
                  · have hpl : pp < s.size := by omega
                    have hc2 := byt_at hpl
                    have hc2l := byt_lt s pp
                    generalize hd2 : s[pp].toNat = d at *
                    have Hc2 := Lib.hid hc2
                    rw [hc2] at hc2l
                    clear hc2
                    have pp0 : (0 : Int) ≤ (pp : Int) := by omega
                    by_cases h6 : (d : Int) < 128
                    · skip
                      go_wp2_with fail
                      go_ret2
                      exact ⟨res_none (runes_fail Hrun.out Hlt.out (dec_short HL.out (k := q + 1) (by omega) (by omega) (by unfold contAt; rw [Hpp.out]; rw [Hc2.out]; rintro ⟨a1, a2, a3⟩; omega))), Hb.out⟩
                    · by_cases h7 : (192 : Int) ≤ (d : Int)
                      · skip
                        go_wp2_with fail
                        go_ret2
                        exact ⟨res_none (runes_fail Hrun.out Hlt.out (dec_short HL.out (k := q + 1) (by omega) (by omega) (by unfold contAt; rw [Hpp.out]; rw [Hc2.out]; rintro ⟨a1, a2, a3⟩; omega))), Hb.out⟩
                      · go_wp2_with fail
                        go_roundw
                        case rel =>
                          have hcon : contAt s p (q + 1) := by unfold contAt; rw [Hpp.out, Hc2.out]; omega
                          refine ⟨q + 1, by omega, by go_num, ?_, Lib.hid (fun j hj hj2 => ?_), trivial⟩
                          · rw [show accI s p ((c : Int) - 224) (q + 1) = x * 64 + ((d : Int) - 128) by simp only [accI]; rw [Hx.out, Hpp.out, Hc2.out]]
                          · by_cases e : j = q + 1
                            · rw [e]; exact hcon
                            · exact hco.out j hj (by omega)
                        case measure => simp [intOf]; omega
                  · skip
                    go_wp2_with fail
                    go_ret2
                    exact ⟨res_none (runes_fail Hrun.out Hlt.out (dec_short HL.out (k := q + 1) (by omega) (by omega) (by unfold contAt; rw [Hpp.out]; rintro ⟨a1, a2, a3⟩; omega))), Hb.out⟩
                · have hqe : q = 2 := by omega
                  subst hqe
                  have HD := Lib.hid (dec_all HL.out hco.out)
                  rw [Hx.out] at HD
                  have hfit : p + 3 ≤ s.size := by have := (hco.out 2 (by omega) (by omega)).1; omega
                  clear hco x2 hqn hq Hx
                  by_cases h8 : x < 2048
                  · go_wp2_with fail
                    go_ret2
                    exact ⟨res_none (runes_fail Hrun.out Hlt.out (by rw [HD.out, if_neg (by rintro ⟨a1, a2⟩; omega)])), Hb.out⟩
                  · cases h9 : isRune x with
                    | false =>
                      go_wp2_with (go_at_call 78; refine (HR.out _ _ (by assumption) _).mono ?_; rintro e w' ⟨rfl, rfl⟩)
                      go_ret2
                      exact ⟨res_none (runes_fail Hrun.out Hlt.out (by rw [HD.out, if_neg (by rw [h9]; rintro ⟨a1, a2⟩; cases a2)])), Hb.out⟩
                    | true =>
                      go_wp2_with (first | (at_builtin; (refine wpList_append_own _ rfl _ _ 55 rfl w.heap.size 21 i0 _ 1 4 Tryz.underlying55 hi hz0 hz1 hz2 rfl (by decide) u4 n _ rfl (hown.alloc _) ⟨wr.heap.size, 0, none⟩ 1 1 [.int .i32 (x)] rfl rfl (cells_new _ _ _ _ rfl) (by simp [Value.oneCell']) (by unfold maxLen; omega) (by omega) (by simp; omega) ?_); intro v' w2 hown' hgrow _) | (go_at_call 78; refine (HR.out _ _ (by assumption) _).mono ?_; rintro e w' ⟨rfl, rfl⟩))
                      go_roundw
                      case rel =>
                        refine ⟨p + 3, out ++ [x], by omega, by go_num, by rw [List.length_append, Hn.out]; simp; omega, Lib.hid (runes_more Hrun.out Hlt.out (by rw [HD.out, if_pos ⟨by omega, h9⟩]) x0 (.inl (by omega))), ?_, (Hb.out.alloc hsz _).grown hgrow (by simp; omega) (fun k e => (hlt3 k e).1)⟩
                        rw [List.length_append, Hn.out, List.map_append]
                        exact hown'
                      case measure => simp [intOf]; omega
            · have h4b : (240 : Int) ≤ (c : Int) := by omega
              by_cases h5 : (c : Int) < 248
              · skip
                have HL : Hid (LeadOf (byt s p) 3 65536 ((c : Int) - 240)) := Lib.hid (by rw [Hcb.out]; unfold LeadOf; omega)
                go_wp2_with fail
                go_loopw [8, 9] (fun r k wq => ∃ q : Nat, q ≤ 3 ∧ k = .int .i64 ((q : Int) + 1) ∧ r = .int .i32 (accI s p ((c : Int) - 240) q) ∧ Hid (∀ j, 1 ≤ j → j ≤ q → contAt s p j) ∧ wq = wr) (fun _ k _ => 4 - (intOf k).toNat)
                case atStart => exact ⟨0, Nat.zero_le _, rfl, rfl, Lib.hid (fun j h h2 => by omega), rfl⟩
                case round =>
                  obtain ⟨q, hq, rfl, rfl, hco, rfl⟩ := hrel
                  have hrg := accI_range HL.out q hq hco.out
                  obtain ⟨x, hx⟩ : ∃ x, accI s p ((c : Int) - 240) q = x := ⟨_, rfl⟩
                  rw [hx] at hrg ⊢
                  have Hx := Lib.hid hx
                  clear hx
                  obtain ⟨x0, x1, x2⟩ := hrg
                  by_cases hqn : q < 3
                  · have x3 := x2 hqn
                    obtain ⟨pp, hpp⟩ : ∃ pp, p + (q + 1) = pp := ⟨_, rfl⟩
                    have e1 : (p : Int) + ((q : Int) + 1) = (pp : Int) := by omega
                    have g1 : (q : Int) + 1 ≤ 3 := by omega
                    have Hpp := Lib.hid hpp
                    clear hpp x2
                    by_cases h5 : (pp : Int) < (s.size : Int)
                    · have hpl : pp < s.size := by omega
                      have hc2 := byt_at hpl
                      have hc2l := byt_lt s pp
                      generalize hd2 : s[pp].toNat = d at *
                      have Hc2 := Lib.hid hc2
                      rw [hc2] at hc2l
                      clear hc2
                      have pp0 : (0 : Int) ≤ (pp : Int) := by omega
                      by_cases h6 : (d : Int) < 128
                      · skip
                        go_wp2_with fail
                        go_ret2
                        exact ⟨res_none (runes_fail Hrun.out Hlt.out (dec_short HL.out (k := q + 1) (by omega) (by omega) (by unfold contAt; rw [Hpp.out]; rw [Hc2.out]; rintro ⟨a1, a2, a3⟩; omega))), Hb.out⟩
                      · by_cases h7 : (192 : Int) ≤ (d : Int)
                        · skip
                          go_wp2_with fail
                          go_ret2
                          exact ⟨res_none (runes_fail Hrun.out Hlt.out (dec_short HL.out (k := q + 1) (by omega) (by omega) (by unfold contAt; rw [Hpp.out]; rw [Hc2.out]; rintro ⟨a1, a2, a3⟩; omega))), Hb.out⟩
                        · go_wp2_with fail
                          go_roundw
                          case rel =>
                            have hcon : contAt s p (q + 1) := by unfold contAt; rw [Hpp.out, Hc2.out]; omega
                            refine ⟨q + 1, by omega, by go_num, ?_, Lib.hid (fun j hj hj2 => ?_), trivial⟩
                            · rw [show accI s p ((c : Int) - 240) (q + 1) = x * 64 + ((d : Int) - 128) by simp only [accI]; rw [Hx.out, Hpp.out, Hc2.out]]
                            · by_cases e : j = q + 1
                              · rw [e]; exact hcon
                              · exact hco.out j hj (by omega)
                          case measure => simp [intOf]; omega
                    · skip
                      go_wp2_with fail
                      go_ret2
                      exact ⟨res_none (runes_fail Hrun.out Hlt.out (dec_short HL.out (k := q + 1) (by omega) (by omega) (by unfold contAt; rw [Hpp.out]; rintro ⟨a1, a2, a3⟩; omega))), Hb.out⟩
                  · have hqe : q = 3 := by omega
                    subst hqe
                    have HD := Lib.hid (dec_all HL.out hco.out)
                    rw [Hx.out] at HD
                    have hfit : p + 4 ≤ s.size := by have := (hco.out 3 (by omega) (by omega)).1; omega
                    clear hco x2 hqn hq Hx
                    by_cases h8 : x < 65536
                    · go_wp2_with fail
                      go_ret2
                      exact ⟨res_none (runes_fail Hrun.out Hlt.out (by rw [HD.out, if_neg (by rintro ⟨a1, a2⟩; omega)])), Hb.out⟩
                    · cases h9 : isRune x with
                      | false =>
                        go_wp2_with (go_at_call 78; refine (HR.out _ _ (by assumption) _).mono ?_; rintro e w' ⟨rfl, rfl⟩)
                        go_ret2
                        exact ⟨res_none (runes_fail Hrun.out Hlt.out (by rw [HD.out, if_neg (by rw [h9]; rintro ⟨a1, a2⟩; cases a2)])), Hb.out⟩
                      | true =>
                        go_wp2_with (first | (at_builtin; (refine wpList_append_own _ rfl _ _ 55 rfl w.heap.size 21 i0 _ 1 4 Tryz.underlying55 hi hz0 hz1 hz2 rfl (by decide) u4 n _ rfl (hown.alloc _) ⟨wr.heap.size, 0, none⟩ 1 1 [.int .i32 (x)] rfl rfl (cells_new _ _ _ _ rfl) (by simp [Value.oneCell']) (by unfold maxLen; omega) (by omega) (by simp; omega) ?_); intro v' w2 hown' hgrow _) | (go_at_call 78; refine (HR.out _ _ (by assumption) _).mono ?_; rintro e w' ⟨rfl, rfl⟩))
                        go_roundw
                        case rel =>
                          refine ⟨p + 4, out ++ [x], by omega, by go_num, by rw [List.length_append, Hn.out]; simp; omega, Lib.hid (runes_more Hrun.out Hlt.out (by rw [HD.out, if_pos ⟨by omega, h9⟩]) x0 (.inl (by omega))), ?_, (Hb.out.alloc hsz _).grown hgrow (by simp; omega) (fun k e => (hlt3 k e).1)⟩
                          rw [List.length_append, Hn.out, List.map_append]
                          exact hown'
                        case measure => simp [intOf]; omega
              · skip
                go_wp2_with fail
                go_ret2
                exact ⟨res_none (runes_fail Hrun.out Hlt.out (dec_no (by rw [Hcb.out]; omega) (by rw [Hcb.out]; omega))), Hb.out⟩
        · have h2b : ¬ (224 : Int) ≤ (c : Int) := by omega
          have h2c : ¬ (240 : Int) ≤ (c : Int) := by omega
          go_wp2_with fail
          go_ret2
          exact ⟨res_none (runes_fail Hrun.out Hlt.out (dec_no (by rw [Hcb.out]; omega) (by rw [Hcb.out]; omega))), Hb.out⟩
    · obtain rfl : p = s.size := by omega
      go_wp2_with fail
      go_ret2
      obtain ⟨A2, c2, rfl, hA2⟩ := runes_ownZ hown
      have hres : runesOf s = some out := by rw [hrun.out, runesFrom_end (Nat.le_refl _)]; simp
      exact ⟨by unfold RunesRes; rw [hres]; exact ⟨A2, c2, rfl, hA2, hol⟩, hb⟩

end
end Go.Proofs.YtjmkdimbbacnfaaGreatDoor
