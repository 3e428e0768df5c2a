/- tables.check: pairs, froms. (Printed by gen_cpairs.py.) tables.check: chains. (Printed by gen_cchains.py.) -/
import Derived.Test.YtjmkdimbbacnfaaGreatDoorGTabK
import Derived.Deep.RegionHeld3
import Derived.Deep.QuietTactic
import Derived.BigQuiet
namespace Go.Proofs.YtjmkdimbbacnfaaGreatDoor
section
open Go.RowKit
set_option linter.unusedVariables false
def pairsM (T : Tab) : Option (Int × Int × Int) := scan (pairM T) 4 0 T.pairs
def fromsM (T : Tab) : Option (Int × Int × Int) := orW (scan (tosM T) 5 0 T.folds) (scan (tosM T) 6 0 T.looks)
theorem tosM_eq {T : Tab} (hmk : scan markAt 3 0 T.marks = none) {k : Nat} {m : MapT} : tosM T k m = if ((mapsOf T).pr m.frm).isSome = true ∨ (((mapsOf T).cls m.frm).getD 0 != 0) = true then 31 else 0 := by
  unfold tosM
  rw [← cls_mark hmk]
  have hp := pr_whole (T := T) m.frm
  by_cases h1 : markL T.marks m.frm = true
  · rw [if_pos (.inl h1), if_pos (.inr h1)]
  · by_cases h2 : 0 ≤ wholeI T.pairs m.frm
    · rw [if_pos (.inr h2), if_pos (.inl (by rw [hp]; simpa using h2))]
    · rw [if_neg (by rintro (h | h); exact h1 h; exact h2 h), if_neg (by rintro (h | h); rw [hp] at h; exact h2 (by simpa using h); exact h1 h)]

set_option maxRecDepth 100000 in
set_option maxHeartbeats 8000000 in
theorem chk_pairs {w : World} {v0 v1 v2 v3 v4 v5 v6 v7 : Value} (T : Tab) (h : TabAt w v0 v1 v2 v3 v4 v5 v6 v7 T) (hok : TabOk T) (c b : Nat) (hc : Blk w c 68 #[v0, v1, v2, v3, v4, v5, v6, v7, .pointer (some ⟨b, 0, none⟩)]) {m1 m2 m3 m4 m5 : Nat} {t0 t1 t2 t3 t4 t5 t6 t7 : Value} (hM : MS w b m1 m2 m3 m4 m5 t0 t1 t2 t3 t4 t5 t6 t7 (mapsOf T)) (hmk : scan markAt 3 0 T.marks = none) :
    Calls Tryz.prog 25 #[.pointer (some ⟨c, 0, none⟩)] w fun e w' => e = .returned (wrongV (pairsM T)) ∧ Below w.heap.size w w' := by
  have HM := Lib.hid hM
  have HK := Lib.hid hmk
  clear hM hmk
  have HO := Lib.hid hok
  obtain ⟨A0, c0, rfl, hn0⟩ := h.formS
  obtain ⟨A1, c1, rfl, hn1⟩ := h.common.form
  obtain ⟨A2, c2, rfl, hn2⟩ := h.marks.form
  obtain ⟨A3, c3, rfl, hn3⟩ := h.pairs.form
  obtain ⟨A4, c4, rfl, hn4⟩ := h.folds.form
  obtain ⟨A5, c5, rfl, hn5⟩ := h.looks.form
  obtain ⟨A6, c6, rfl, hn6⟩ := h.drops.form
  obtain ⟨A7, c7, rfl, hn7⟩ := h.allowed.form
  have HT := Lib.hid h
  obtain ⟨n0, hln0⟩ : ∃ n, T.scripts.length = n := ⟨_, rfl⟩
  rw [hln0] at HT hc hn0
  have HLn0 := Lib.hid hln0
  clear hln0
  obtain ⟨n1, hln1⟩ : ∃ n, T.common.length = n := ⟨_, rfl⟩
  rw [hln1] at HT hc hn1
  have HLn1 := Lib.hid hln1
  clear hln1
  obtain ⟨n2, hln2⟩ : ∃ n, T.marks.length = n := ⟨_, rfl⟩
  rw [hln2] at HT hc hn2
  have HLn2 := Lib.hid hln2
  clear hln2
  obtain ⟨n3, hln3⟩ : ∃ n, T.pairs.length = n := ⟨_, rfl⟩
  rw [hln3] at HT hc hn3
  have HLn3 := Lib.hid hln3
  clear hln3
  obtain ⟨n4, hln4⟩ : ∃ n, T.folds.length = n := ⟨_, rfl⟩
  rw [hln4] at HT hc hn4
  have HLn4 := Lib.hid hln4
  clear hln4
  obtain ⟨n5, hln5⟩ : ∃ n, T.looks.length = n := ⟨_, rfl⟩
  rw [hln5] at HT hc hn5
  have HLn5 := Lib.hid hln5
  clear hln5
  obtain ⟨n6, hln6⟩ : ∃ n, T.drops.length = n := ⟨_, rfl⟩
  rw [hln6] at HT hc hn6
  have HLn6 := Lib.hid hln6
  clear hln6
  obtain ⟨n7, hln7⟩ : ∃ n, T.allowed.length = n := ⟨_, rfl⟩
  rw [hln7] at HT hc hn7
  have HLn7 := Lib.hid hln7
  clear hln7
  have HC := Lib.hid hc
  have HS0 := Lib.hid (CS.start w)
  obtain ⟨d0, d1, d2, d3, d4, d5, d6, d7, d8⟩ := chk_facts (hc.below HS0.out.below)
  clear h hok hc
  go_enter Tryz.func25, Tryz.ntmps25
  go_wp2_with fail
  go_loopw [11] (fun i wr => ∃ k : Nat, k ≤ n3 ∧ i = .int .i64 (k : Int) ∧ NoneTo (pairM T) T.pairs k ∧ CS w wr) (fun i _ => n3 - (intOf i).toNat)
  case atStart => exact ⟨0, Nat.zero_le _, rfl, NoneTo.zero _ _, HS0.out⟩
  case round =>
    obtain ⟨k, hk, rfl, hno, hrs⟩ := hrel
    have Hno := Lib.hid hno
    have Hr := Lib.hid hrs
    by_cases hlt : k < n3
    · obtain ⟨m, hm⟩ : ∃ m, T.pairs[k]? = some m := ⟨_, List.getElem?_eq_getElem (by rw [HLn3.out]; exact hlt)⟩
      obtain ⟨a, rfl, e0, e1, e2⟩ := el3 HT.out.pairs hrs.below hm rfl
      have Hm := Lib.hid hm
      have k0 : (0 : Int) ≤ (k : Int) := by omega
      have k1 : (k : Int) < (n3 : Int) := by omega
      have HE := Lib.hid ((Below.refl _ wr).alloc (Nat.le_refl _) (.cells #[.int .i32 m.whole, .int .i32 m.base, .int .i32 m.mark] 77))
      have Hx := Lib.hid (Blk.new wr 77 #[.int .i32 m.whole, .int .i32 m.base, .int .i32 m.mark])
      skip
      obtain ⟨i1, i2, i3⟩ := HO.out.pairs m (List.mem_of_getElem? hm)
      have hW1 := below_trans Hr.out.below HE.out
      obtain ⟨-, -, -, -, -, -, -, -, d8⟩ := chk_facts (HC.out.below hW1)
      have hM1 := HM.out.below hW1
      obtain ⟨q8, q9, q10, q11, q12⟩ := hM1.cells
      have l1 := fun q => (hM1.below (Below.drwN (Below.refl _ _) q)).look_cls i1
      have l2 := fun q => (hM1.below (Below.drwN (Below.refl _ _) q)).look_cls i2
      have l3 := fun q => (hM1.below (Below.drwN (Below.refl _ _) q)).look_cls i3
      have Hf : Hid (pairM T k m = if (((mapsOf T).cls m.whole).getD 0 != 0) = true ∨ (((mapsOf T).cls m.base).getD 0 != 0) = true ∨ (((mapsOf T).cls m.mark).getD 0 != 0) = false then 32 else 0) := Lib.hid (by unfold pairM; rw [cls_mark HK.out, cls_mark HK.out, cls_mark HK.out])
      generalize ((mapsOf T).cls m.whole).getD 0 = y1 at *
      generalize ((mapsOf T).cls m.base).getD 0 = y2 at *
      generalize ((mapsOf T).cls m.mark).getD 0 = y3 at *
      clear hno hrs hm hM1 hW1 i1 i2 i3
      cases h1 : (y1 != 0) with
      | true =>
        have H0 : Hid (pairM T k m = 32) := Lib.hid (by rw [Hf.out, if_pos (.inl h1)])
        go_wp2_with fail
        go_quiet (fail)
        go_wp2_with (go_at_call 53; refine (tab_wrong _ _ _ _).mono ?_; rintro e w9 ⟨rfl, hb9⟩; have h9 := (Hr.out.step (Below.drwN HE.out nq)).step hb9; obtain ⟨r1, r2, r3, f1, f2, f3⟩ := h9.resF; have H9 := Lib.hid h9; clear h9)
        obtain ⟨hB, hW⟩ := (H9.out).ret (.int .i64 32) (.int .i64 4) (.int .i64 (k : Int))
        obtain ⟨s1, s2, s3, -, -, -⟩ := wrong_facts hB
        refine bodyPost_ret (v := .agg #[.int .i64 32, .int .i64 4, .int .i64 (k : Int)]) ?_ rfl ⟨?_, hW⟩
        · simp [results, Tryz.results25, go_sem, s1, s2, s3]
        · rw [show pairsM T = some (32, 4, (k : Int)) by unfold pairsM; rw [Hno.out.found Hm.out (by rw [H0.out]; decide) 4, H0.out]; first | done | rfl]
          rfl
      | false =>
        cases h2 : (y2 != 0) with
        | true =>
          have H0 : Hid (pairM T k m = 32) := Lib.hid (by rw [Hf.out, if_pos (.inr (.inl h2))])
          go_wp2_with fail
          go_quiet (fail)
          go_wp2_with (go_at_call 53; refine (tab_wrong _ _ _ _).mono ?_; rintro e w9 ⟨rfl, hb9⟩; have h9 := (Hr.out.step (Below.drwN HE.out nq)).step hb9; obtain ⟨r1, r2, r3, f1, f2, f3⟩ := h9.resF; have H9 := Lib.hid h9; clear h9)
          obtain ⟨hB, hW⟩ := (H9.out).ret (.int .i64 32) (.int .i64 4) (.int .i64 (k : Int))
          obtain ⟨s1, s2, s3, -, -, -⟩ := wrong_facts hB
          refine bodyPost_ret (v := .agg #[.int .i64 32, .int .i64 4, .int .i64 (k : Int)]) ?_ rfl ⟨?_, hW⟩
          · simp [results, Tryz.results25, go_sem, s1, s2, s3]
          · rw [show pairsM T = some (32, 4, (k : Int)) by unfold pairsM; rw [Hno.out.found Hm.out (by rw [H0.out]; decide) 4, H0.out]; first | done | rfl]
            rfl
        | false =>
          cases h3 : (y3 == 0) with
          | true =>
            have H0 : Hid (pairM T k m = 32) := Lib.hid (by rw [Hf.out, if_pos (.inr (.inr (by unfold bne; rw [h3]; rfl)))])
            go_wp2_with fail
            go_quiet (fail)
            go_wp2_with (go_at_call 53; refine (tab_wrong _ _ _ _).mono ?_; rintro e w9 ⟨rfl, hb9⟩; have h9 := (Hr.out.step (Below.drwN HE.out nq)).step hb9; obtain ⟨r1, r2, r3, f1, f2, f3⟩ := h9.resF; have H9 := Lib.hid h9; clear h9)
            obtain ⟨hB, hW⟩ := (H9.out).ret (.int .i64 32) (.int .i64 4) (.int .i64 (k : Int))
            obtain ⟨s1, s2, s3, -, -, -⟩ := wrong_facts hB
            refine bodyPost_ret (v := .agg #[.int .i64 32, .int .i64 4, .int .i64 (k : Int)]) ?_ rfl ⟨?_, hW⟩
            · simp [results, Tryz.results25, go_sem, s1, s2, s3]
            · rw [show pairsM T = some (32, 4, (k : Int)) by unfold pairsM; rw [Hno.out.found Hm.out (by rw [H0.out]; decide) 4, H0.out]; first | done | rfl]
              rfl
          | false =>
            have H0 : Hid (pairM T k m = 0) := Lib.hid (by rw [Hf.out, if_neg (by unfold bne at *; rw [h1, h2, h3]; simp)])
            go_wp2_with fail
            go_quiet (fail)
            go_wp2_with fail
            go_roundw
            case rel => exact ⟨k + 1, by omega, by go_num, Hno.out.succ Hm.out H0.out, Hr.out.step (Below.drwN HE.out nq)⟩
            case measure => simp [intOf]; omega
    · have hkn : n3 = k := by omega
      subst hkn
      have HN0 : Hid (scan (pairM T) 4 0 T.pairs = none) := Lib.hid (NoneTo.all (by rw [HLn3.out]; exact Hno.out) 4)
      obtain ⟨d0, d1, d2, d3, d4, d5, d6, d7, d8⟩ := chk_facts (HC.out.below Hr.out.below)
      clear Hno hno hrs
      obtain ⟨r1, r2, r3, f1, f2, f3⟩ := (Hr.out).resF
      go_wp2_with fail
      obtain ⟨hB, hW⟩ := (Hr.out).ret (.int .i64 0) (.int .i64 0) (.int .i64 0)
      obtain ⟨s1, s2, s3, -, -, -⟩ := wrong_facts hB
      refine bodyPost_ret (v := .agg #[.int .i64 0, .int .i64 0, .int .i64 0]) ?_ rfl ⟨?_, hW⟩
      · simp [results, Tryz.results25, go_sem, s1, s2, s3]
      · rw [show pairsM T = none by unfold pairsM; rw [HN0.out]; first | done | rfl]
        rfl

end
section
open Go.RowKit
set_option linter.unusedVariables false
def chainsM (T : Tab) : Option (Int × Int × Int) := scan (chainAt T) 4 0 T.pairs
theorem pr_none {T : Tab} {r : Int} (h : wholeI T.pairs r < 0) : (mapsOf T).pr r = none := by
  have := pr_whole (T := T) r
  rw [decide_eq_false (by omega)] at this
  cases hp : (mapsOf T).pr r with
  | none => rfl
  | some x => rw [hp] at this; cases this
theorem find_at {α : Type} {l : List α} {p : α → Bool} (h : 0 ≤ firstI l p) : ∃ x, l[(firstI l p).toNat]? = some x ∧ l.find? p = some x := by
  unfold firstI at h ⊢
  cases hf : l.findIdx? p with
  | none => rw [hf] at h; exact absurd h (by decide)
  | some i =>
    obtain ⟨hi, hp, hno⟩ := List.findIdx?_eq_some_iff_getElem.1 hf
    refine ⟨l[i], List.getElem?_eq_getElem hi, ?_⟩
    rw [List.find?_eq_some_iff_getElem]
    exact ⟨hp, i, hi, rfl, fun j hj => by simpa using hno j hj⟩
theorem pr_some {T : Tab} {r : Int} (h : 0 ≤ wholeI T.pairs r) : ∃ p, T.pairs[(wholeI T.pairs r).toNat]? = some p ∧ (mapsOf T).pr r = some (p.base, p.mark) := by
  obtain ⟨p, h1, h2⟩ := find_at h
  exact ⟨p, h1, by unfold mapsOf; dsimp only; rw [h2]; rfl⟩

set_option maxRecDepth 100000 in
set_option maxHeartbeats 8000000 in
theorem chk_chains {w : World} {v0 v1 v2 v3 v4 v5 v6 v7 : Value} (T : Tab) (h : TabAt w v0 v1 v2 v3 v4 v5 v6 v7 T) (hok : TabOk T) (c b : Nat) (hc : Blk w c 68 #[v0, v1, v2, v3, v4, v5, v6, v7, .pointer (some ⟨b, 0, none⟩)]) {m1 m2 m3 m4 m5 : Nat} {t0 t1 t2 t3 t4 t5 t6 t7 : Value} (hM : MS w b m1 m2 m3 m4 m5 t0 t1 t2 t3 t4 t5 t6 t7 (mapsOf T)) (hmk : scan markAt 3 0 T.marks = none) :
    Calls Tryz.prog 26 #[.pointer (some ⟨c, 0, none⟩)] w fun e w' => e = .returned (wrongV (chainsM T)) ∧ Below w.heap.size w w' := by
  have HM := Lib.hid hM
  have HK := Lib.hid hmk
  clear hM hmk
  have HO := Lib.hid hok
  obtain ⟨A0, c0, rfl, hn0⟩ := h.formS
  obtain ⟨A1, c1, rfl, hn1⟩ := h.common.form
  obtain ⟨A2, c2, rfl, hn2⟩ := h.marks.form
  obtain ⟨A3, c3, rfl, hn3⟩ := h.pairs.form
  obtain ⟨A4, c4, rfl, hn4⟩ := h.folds.form
  obtain ⟨A5, c5, rfl, hn5⟩ := h.looks.form
  obtain ⟨A6, c6, rfl, hn6⟩ := h.drops.form
  obtain ⟨A7, c7, rfl, hn7⟩ := h.allowed.form
  have HT := Lib.hid h
  obtain ⟨n0, hln0⟩ : ∃ n, T.scripts.length = n := ⟨_, rfl⟩
  rw [hln0] at HT hc hn0
  have HLn0 := Lib.hid hln0
  clear hln0
  obtain ⟨n1, hln1⟩ : ∃ n, T.common.length = n := ⟨_, rfl⟩
  rw [hln1] at HT hc hn1
  have HLn1 := Lib.hid hln1
  clear hln1
  obtain ⟨n2, hln2⟩ : ∃ n, T.marks.length = n := ⟨_, rfl⟩
  rw [hln2] at HT hc hn2
  have HLn2 := Lib.hid hln2
  clear hln2
  obtain ⟨n3, hln3⟩ : ∃ n, T.pairs.length = n := ⟨_, rfl⟩
  rw [hln3] at HT hc hn3
  have HLn3 := Lib.hid hln3
  clear hln3
  obtain ⟨n4, hln4⟩ : ∃ n, T.folds.length = n := ⟨_, rfl⟩
  rw [hln4] at HT hc hn4
  have HLn4 := Lib.hid hln4
  clear hln4
  obtain ⟨n5, hln5⟩ : ∃ n, T.looks.length = n := ⟨_, rfl⟩
  rw [hln5] at HT hc hn5
  have HLn5 := Lib.hid hln5
  clear hln5
  obtain ⟨n6, hln6⟩ : ∃ n, T.drops.length = n := ⟨_, rfl⟩
  rw [hln6] at HT hc hn6
  have HLn6 := Lib.hid hln6
  clear hln6
  obtain ⟨n7, hln7⟩ : ∃ n, T.allowed.length = n := ⟨_, rfl⟩
  rw [hln7] at HT hc hn7
  have HLn7 := Lib.hid hln7
  clear hln7
  have HC := Lib.hid hc
  have HS0 := Lib.hid (CS.start w)
  obtain ⟨d0, d1, d2, d3, d4, d5, d6, d7, d8⟩ := chk_facts (hc.below HS0.out.below)
  clear h hok hc
  go_enter Tryz.func26, Tryz.ntmps26
  go_wp2_with fail
  go_loopw [15] (fun i wr => ∃ k : Nat, k ≤ n3 ∧ i = .int .i64 (k : Int) ∧ NoneTo (chainAt T) T.pairs k ∧ CS w wr) (fun i _ => n3 - (intOf i).toNat)
  case atStart => exact ⟨0, Nat.zero_le _, rfl, NoneTo.zero _ _, HS0.out⟩
  case round =>
    obtain ⟨k, hk, rfl, hno, hrs⟩ := hrel
    have Hno := Lib.hid hno
    have Hr := Lib.hid hrs
    by_cases hlt : k < n3
    · obtain ⟨m, hm⟩ : ∃ m, T.pairs[k]? = some m := ⟨_, List.getElem?_eq_getElem (by rw [HLn3.out]; exact hlt)⟩
      obtain ⟨a, rfl, e0, e1, e2⟩ := el3 HT.out.pairs hrs.below hm rfl
      have Hm := Lib.hid hm
      have k0 : (0 : Int) ≤ (k : Int) := by omega
      have k1 : (k : Int) < (n3 : Int) := by omega
      have HE := Lib.hid ((Below.refl _ wr).alloc (Nat.le_refl _) (.cells #[.int .i32 m.whole, .int .i32 m.base, .int .i32 m.mark] 77))
      have Hx := Lib.hid (Blk.new wr 77 #[.int .i32 m.whole, .int .i32 m.base, .int .i32 m.mark])
      have Hf : Hid (chainAt T k m = if chainOf T.pairs k < 0 then 33 else if 4 < chainOf T.pairs k then 34 else 0) := Lib.hid rfl
      have Hch0 : Hid (chainOf T.pairs k = chainGo T.pairs (n3 - 0) (0 + 1) k) := Lib.hid (by unfold chainOf; rw [HLn3.out]; rfl)
      have Hr0 := Lib.hid (Hr.out.step (Below.drwN HE.out 1))
      clear hno hrs hm
      go_wp2_with fail
      go_quiet (fail)
      have hrq := Hr.out.step (Below.drwN HE.out nq)
      obtain ⟨W2, hW2⟩ : ∃ W2, (wr.alloc (.cells #[.int .i32 m.whole, .int .i32 m.base, .int .i32 m.mark] 77)).drewN nq = W2 := ⟨_, rfl⟩
      rw [hW2] at hrq ⊢
      have Hr1 := Lib.hid hrq
      clear hW2 hrq Hr0 Hr HE Hx e0 e1 e2
      go_wp2_with fail
      go_loopw [5, 6] (fun nv bv wr => ∃ (q j : Nat) (p : PairT), q ≤ n3 ∧ T.pairs[j]? = some p ∧ nv = .int .i64 ((q : Int) + 1) ∧ bv = .int .i32 p.base ∧ Hid (chainOf T.pairs k = chainGo T.pairs (n3 - q) (q + 1) j) ∧ CS w wr) (fun nv _ _ => n3 + 1 - (intOf nv).toNat)
      case atStart => exact ⟨0, k, m, Nat.zero_le _, Hm.out, rfl, rfl, Hch0.out |> Lib.hid, Hr1.out⟩
      case round =>
        clear Hr1
        obtain ⟨q, j, p, hq, hj, rfl, rfl, hch, hrs⟩ := hrel
        have Hr := Lib.hid hrs
        obtain ⟨-, -, -, d3, -, -, -, -, d8⟩ := chk_facts (HC.out.below hrs.below)
        have hM1 := HM.out.below hrs.below
        obtain ⟨-, q9, -, -, -⟩ := hM1.cells
        have l1 := hM1.look_pr (HO.out.pairs p (List.mem_of_getElem? hj)).2.1
        have Hj := Lib.hid hj
        clear hj hrs hM1
        by_cases hqn : q < n3
        · obtain ⟨f, hfq⟩ : ∃ f, n3 - q = f + 1 := ⟨n3 - q - 1, by omega⟩
          have g1 : (q : Int) + 1 ≤ (n3 : Int) := by omega
          have Hst : Hid (chainOf T.pairs k = if wholeI T.pairs p.base < 0 then ((q + 1 : Nat) : Int) else chainGo T.pairs f (q + 1 + 1) (wholeI T.pairs p.base).toNat) := Lib.hid (by rw [hch.out, hfq]; simp only [chainGo]; rw [Hj.out]; rfl)
          by_cases hwh : wholeI T.pairs p.base < 0
          · have hp := pr_none hwh
            rw [hp] at l1
            have Hc : Hid (chainOf T.pairs k = (q : Int) + 1) := Lib.hid (by rw [Hst.out, if_pos hwh]; omega)
            clear hp hwh
            simp only [Option.getD_none, Option.isSome_none] at l1
            have HE := Lib.hid ((Below.refl _ wr).alloc (Nat.le_refl _) (.cells #[.int .i32 0, .int .i32 0] 112))
            obtain ⟨-, -, -, d3', -, -, -, -, -⟩ := chk_facts (HC.out.below (below_trans Hr.out.below HE.out))
            by_cases h4 : (4 : Int) < (q : Int) + 1
            · have H0 : Hid (chainAt T k m = 34) := Lib.hid (by rw [Hf.out, Hc.out, if_neg (by omega), if_pos h4])
              go_wp2_with (go_at_call 53; refine (tab_wrong _ _ _ _).mono ?_; rintro e w9 ⟨rfl, hb9⟩; have h9 := (Hr.out.step HE.out).step hb9; obtain ⟨r1, r2, r3, f1, f2, f3⟩ := h9.resF; have H9 := Lib.hid h9; clear h9)
              obtain ⟨hB, hW⟩ := (H9.out).ret (.int .i64 34) (.int .i64 4) (.int .i64 (k : Int))
              obtain ⟨s1, s2, s3, -, -, -⟩ := wrong_facts hB
              refine bodyPost_ret (v := .agg #[.int .i64 34, .int .i64 4, .int .i64 (k : Int)]) ?_ rfl ⟨?_, hW⟩
              · simp [results, Tryz.results26, go_sem, s1, s2, s3]
              · rw [show chainsM T = some (34, 4, (k : Int)) by unfold chainsM; rw [Hno.out.found Hm.out (by rw [H0.out]; decide) 4, H0.out]; first | done | rfl]
                rfl
            · have H0 : Hid (chainAt T k m = 0) := Lib.hid (by rw [Hf.out, Hc.out, if_neg (by omega), if_neg h4])
              go_wp2_with fail
              go_roundw
              case rel => exact ⟨k + 1, by omega, by go_num, Hno.out.succ Hm.out H0.out, Hr.out.step HE.out⟩
              case measure => simp [intOf]; omega
          · obtain ⟨p2, hp2, hp⟩ := pr_some (T := T) (r := p.base) (by omega)
            rw [hp] at l1
            simp only [Option.getD_some, Option.isSome_some] at l1
            have HE := Lib.hid ((Below.refl _ wr).alloc (Nat.le_refl _) (.cells #[.int .i32 p2.base, .int .i32 p2.mark] 112))
            have Hc : Hid (chainOf T.pairs k = chainGo T.pairs f (q + 1 + 1) (wholeI T.pairs p.base).toNat) := Lib.hid (by rw [Hst.out, if_neg hwh])
            have Hp2 := Lib.hid hp2
            clear hp hwh hp2
            go_wp2_with fail
            go_roundw
            case rel => exact ⟨q + 1, _, p2, by omega, Hp2.out, by go_num, rfl, Lib.hid (by rw [Hc.out, show n3 - (q + 1) = f by omega]), Hr.out.step HE.out⟩
            case measure => simp [intOf]; omega
        · have hqe : q = n3 := by omega
          have g1 : ¬ (q : Int) + 1 ≤ (n3 : Int) := by omega
          have g2 : (n3 : Int) < (q : Int) + 1 := by omega
          have H0 : Hid (chainAt T k m = 33) := Lib.hid (by rw [Hf.out, hch.out, hqe, Nat.sub_self, if_pos (by simp only [chainGo]; decide)])
          clear hqe
          go_wp2_with (go_at_call 53; refine (tab_wrong _ _ _ _).mono ?_; rintro e w9 ⟨rfl, hb9⟩; have h9 := (Hr.out.step (Below.refl _ wr)).step hb9; obtain ⟨r1, r2, r3, f1, f2, f3⟩ := h9.resF; have H9 := Lib.hid h9; clear h9)
          obtain ⟨hB, hW⟩ := (H9.out).ret (.int .i64 33) (.int .i64 4) (.int .i64 (k : Int))
          obtain ⟨s1, s2, s3, -, -, -⟩ := wrong_facts hB
          refine bodyPost_ret (v := .agg #[.int .i64 33, .int .i64 4, .int .i64 (k : Int)]) ?_ rfl ⟨?_, hW⟩
          · simp [results, Tryz.results26, go_sem, s1, s2, s3]
          · rw [show chainsM T = some (33, 4, (k : Int)) by unfold chainsM; rw [Hno.out.found Hm.out (by rw [H0.out]; decide) 4, H0.out]; first | done | rfl]
            rfl
    · have hkn : n3 = k := by omega
      subst hkn
      have HN0 : Hid (scan (chainAt T) 4 0 T.pairs = none) := Lib.hid (NoneTo.all (by rw [HLn3.out]; exact Hno.out) 4)
      obtain ⟨d0, d1, d2, d3, d4, d5, d6, d7, d8⟩ := chk_facts (HC.out.below Hr.out.below)
      clear Hno hno hrs
      obtain ⟨r1, r2, r3, f1, f2, f3⟩ := (Hr.out).resF
      go_wp2_with fail
      obtain ⟨hB, hW⟩ := (Hr.out).ret (.int .i64 0) (.int .i64 0) (.int .i64 0)
      obtain ⟨s1, s2, s3, -, -, -⟩ := wrong_facts hB
      refine bodyPost_ret (v := .agg #[.int .i64 0, .int .i64 0, .int .i64 0]) ?_ rfl ⟨?_, hW⟩
      · simp [results, Tryz.results26, go_sem, s1, s2, s3]
      · rw [show chainsM T = none by unfold chainsM; rw [HN0.out]; first | done | rfl]
        rfl

end
end Go.Proofs.YtjmkdimbbacnfaaGreatDoor
