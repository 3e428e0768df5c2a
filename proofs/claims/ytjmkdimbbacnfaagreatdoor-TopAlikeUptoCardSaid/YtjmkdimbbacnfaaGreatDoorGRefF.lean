/- guiseref6: twice. (Printed by gen_twice.py.) -/
import Derived.Test.YtjmkdimbbacnfaaGreatDoorGQuiet
namespace Go.Proofs.YtjmkdimbbacnfaaGreatDoor
open Go.RowKit
set_option linter.unusedVariables false
def twS (T : Tab) (i : Nat) (s : ScrT) : Int := if (T.scripts.take i).any (fun x => decide (x.name = s.name)) = true then 14 else 0
def twM (T : Tab) (i : Nat) (m : MarkT) : Int := if (T.marks.take i).any (fun x => decide (x.r = m.r)) = true then 14 else 0
def twP (T : Tab) (i : Nat) (p : PairT) : Int := if (T.pairs.take i).any (fun x => decide (x.whole = p.whole ∨ (x.base = p.base ∧ x.mark = p.mark))) = true then 14 else 0
def twF (l : List MapT) (i : Nat) (m : MapT) : Int := if (l.take i).any (fun x => decide (x.frm = m.frm)) = true then 14 else 0
def twiceW (T : Tab) : Option (Int × Int × Int) :=
  orW (scan (twS T) 1 0 T.scripts) (orW (scan (twM T) 3 0 T.marks) (orW (scan (twP T) 4 0 T.pairs) (orW (scan (twF T.folds) 5 0 T.folds) (scan (twF T.looks) 6 0 T.looks))))
theorem firstI_lt {α : Type} {l : List α} {p : α → Bool} {k : Nat} (h : (l.take k).any p = true) : firstI l p < (k : Int) := by
  obtain ⟨x, hx, hp⟩ := List.any_eq_true.1 h
  rw [List.mem_take_iff_getElem] at hx
  obtain ⟨i, hi, rfl⟩ := hx
  unfold firstI
  cases hf : l.findIdx? p with
  | none =>
    rw [List.findIdx?_eq_none_iff] at hf
    have := hf _ (List.getElem_mem (by omega : i < l.length))
    rw [hp] at this; cases this
  | some j =>
    rw [List.findIdx?_eq_some_iff_getElem] at hf
    obtain ⟨h1, h2, h3⟩ := hf
    by_cases hij : j ≤ i
    · show (j : Int) < k; omega
    · have := h3 i (by omega)
      rw [hp] at this
      simp at this
theorem below_dr (w : World) (n : Nat) : Below w.heap.size w (w.drewN n) := ⟨rfl, rfl, rfl, Nat.le_refl _, fun _ _ => rfl⟩
theorem ba_ext {a b : ByteArray} (h : a.data.toList = b.data.toList) : a = b := by
  cases a; cases b
  simp only at h
  rw [Array.toList_inj] at h
  rw [h]
theorem str_no {a b : ByteArray} (h : ¬ b = a) : (a.toList == b.toList) = false := by
  rw [beq_eq_false_iff_ne, ByteArray.toList_eq, ByteArray.toList_eq]
  exact fun e => h (ba_ext e).symm
theorem str_yes {a b : ByteArray} (h : b = a) : (a.toList == b.toList) = true := by rw [h]; simp
theorem any_take_at {α : Type} {l : List α} {p : α → Bool} {j k : Nat} {x : α} (hx : l[j]? = some x) (hj : j < k) (hp : p x = true) : (l.take k).any p = true :=
  List.any_eq_true.2 ⟨x, by rw [List.mem_take_iff_getElem]; obtain ⟨h1, h2⟩ := List.getElem?_eq_some_iff.1 hx; exact ⟨j, by omega, h2⟩, hp⟩

set_option maxRecDepth 100000 in
set_option maxHeartbeats 8000000 in
theorem ref_twice {w : World} {v0 v1 v2 v3 v4 v5 v6 v7 : Value} (T : Tab) (h : TabAt w v0 v1 v2 v3 v4 v5 v6 v7 T) (hok : TabOk T) :
    Calls Tryz.prog 34 #[.agg #[v0, v1, v2, v3, v4, v5, v6, v7]] w fun e w' => e = .returned (wrongV (twiceW T)) ∧ Below w.heap.size w w' := by
  have HO := Lib.hid hok
  obtain ⟨A0, c0, rfl, hn0⟩ := h.formS
  obtain ⟨A2, c2, rfl, hn2⟩ := h.marks.form
  obtain ⟨A3, c3, rfl, hn3⟩ := h.pairs.form
  obtain ⟨A4, c4, rfl, hn4⟩ := h.folds.form
  obtain ⟨A5, c5, rfl, hn5⟩ := h.looks.form
  have HT := Lib.hid h
  obtain ⟨n0, hln0⟩ : ∃ n, T.scripts.length = n := ⟨_, rfl⟩
  rw [hln0] at HT hn0
  rw [hln0]
  have HLn0 := Lib.hid hln0
  clear hln0
  obtain ⟨n2, hln2⟩ : ∃ n, T.marks.length = n := ⟨_, rfl⟩
  rw [hln2] at HT hn2
  rw [hln2]
  have HLn2 := Lib.hid hln2
  clear hln2
  obtain ⟨n3, hln3⟩ : ∃ n, T.pairs.length = n := ⟨_, rfl⟩
  rw [hln3] at HT hn3
  rw [hln3]
  have HLn3 := Lib.hid hln3
  clear hln3
  obtain ⟨n4, hln4⟩ : ∃ n, T.folds.length = n := ⟨_, rfl⟩
  rw [hln4] at HT hn4
  rw [hln4]
  have HLn4 := Lib.hid hln4
  clear hln4
  obtain ⟨n5, hln5⟩ : ∃ n, T.looks.length = n := ⟨_, rfl⟩
  rw [hln5] at HT hn5
  rw [hln5]
  have HLn5 := Lib.hid hln5
  clear hln5
  clear h hok
  go_enter Tryz.func34, Tryz.ntmps34
  go_wp2_with fail
  go_loopw [3, 4] (fun i _ wr => ∃ k : Nat, k ≤ n0 ∧ i = .int .i64 (k : Int) ∧ NoneTo (twS T) T.scripts k ∧ RS w (.slice A0 n0 c0) v1 (.slice A2 n2 c2) (.slice A3 n3 c3) (.slice A4 n4 c4) (.slice A5 n5 c5) v6 v7 wr) (fun i _ _ => n0 - (intOf i).toNat)
  case atStart => exact ⟨0, Nat.zero_le _, rfl, NoneTo.zero _ _, RS.start _ _ _ _ _ _ _ _ _⟩
  case round =>
    obtain ⟨k, hk, rfl, hno, hrs⟩ := hrel
    have Hno := Lib.hid hno
    have Hr := Lib.hid hrs
    obtain ⟨b0, b1, b2, b3, b4, b5, b6, b7⟩ := hrs.boxF
    by_cases hlt : k < n0
    · obtain ⟨m, hm⟩ : ∃ m, T.scripts[k]? = some m := ⟨_, List.getElem?_eq_getElem (by rw [HLn0.out]; exact hlt)⟩
      have Hm := Lib.hid hm
      have k0 : (0 : Int) ≤ (k : Int) := by omega
      have k1 : (k : Int) < (n0 : Int) := by omega
      clear hno hrs hm
      go_wp2_with fail
      go_loopw [4] (fun j wr => ∃ q : Nat, q ≤ k ∧ j = .int .i64 (q : Int) ∧ (T.scripts.take q).any (fun x => decide (x.name = m.name)) = false ∧ RS w (.slice A0 n0 c0) v1 (.slice A2 n2 c2) (.slice A3 n3 c3) (.slice A4 n4 c4) (.slice A5 n5 c5) v6 v7 wr) (fun j _ => k - (intOf j).toNat)
      case atStart => exact ⟨0, Nat.zero_le _, rfl, by simp, Hr.out⟩
      case round =>
        clear Hr
        obtain ⟨q, hq, rfl, hany, hrs⟩ := hrel
        have Hany := Lib.hid hany
        have Hr := Lib.hid hrs
        clear b0 b1 b2 b3 b4 b5 b6 b7
        obtain ⟨b0, b1, b2, b3, b4, b5, b6, b7⟩ := hrs.boxF
        by_cases hql : q < k
        · obtain ⟨x, hx⟩ : ∃ x, T.scripts[q]? = some x := ⟨_, List.getElem?_eq_getElem (by rw [HLn0.out]; omega)⟩
          have hm := Hm.out
          obtain ⟨a', v, ea, e0, e1, -⟩ := elS HT.out hrs.below hm
          obtain ⟨a2, v2, ea2, d0, d1, -⟩ := elS HT.out hrs.below hx
          cases ea
          cases ea2
          have q0 : (0 : Int) ≤ (q : Int) := by omega
          have q1 : (q : Int) < (n0 : Int) := by omega
          have q2 : (q : Int) < (k : Int) := by omega
          have Hs := Lib.hid (any_take_succ T.scripts (fun x => decide (x.name = m.name)) q x hx)
          have Hx := Lib.hid hx
          clear hrs hany hm hx e1 d1
          by_cases hq3 : x.name = m.name
          · have t1 := str_yes hq3
            have Hq := Lib.hid hq3
            have H0 : Hid (twS T k m = 14) := Lib.hid (by unfold twS; rw [if_pos (any_take_at Hx.out hql (by simpa using Hq.out))])
            clear hq3
            obtain ⟨r1, r2, r3, f1, f2, f3⟩ := Hr.out.resF
            go_wp2_with fail
            go_quiet (fail)
            go_wp2_with fail
            obtain ⟨hB, hW⟩ := ((Hr.out.step (below_dr wr nq))).ret (.int .i64 14) (.int .i64 1) (.int .i64 (k : Int))
            obtain ⟨s1, s2, s3, -, -, -⟩ := wrong_facts hB
            refine bodyPost_ret (v := .agg #[.int .i64 14, .int .i64 1, .int .i64 (k : Int)]) ?_ rfl ⟨?_, hW⟩
            · simp [results, Tryz.results34, go_sem, s1, s2, s3]
            · rw [show twiceW T = some (14, 1, (k : Int)) by unfold twiceW; rw [Hno.out.found Hm.out (by rw [H0.out]; decide) 1, H0.out]; first | done | rfl]
              rfl
          · have t1 := str_no hq3
            have Hq := Lib.hid hq3
            clear hq3
            go_wp2_with fail
            go_quiet (fail)
            go_wp2_with fail
            go_roundw
            case rel => exact ⟨q + 1, by omega, by go_num, by rw [Hs.out, Hany.out]; simpa using Hq.out, Hr.out.step (below_dr wr nq)⟩
            case measure => simp [intOf]; omega
        · have hqk : q = k := by omega
          subst hqk
          have H0 : Hid (twS T q m = 0) := Lib.hid (by unfold twS; rw [if_neg (by rw [Hany.out]; simp)])
          clear hrs hany
          go_wp2_with fail
          go_roundw
          case rel => exact ⟨q + 1, by omega, by go_num, Hno.out.succ Hm.out H0.out, Hr.out⟩
          case measure => simp [intOf]; omega
    · have hkn : n0 = k := by omega
      subst hkn
      have HN0 : Hid (scan (twS T) 1 0 T.scripts = none) := Lib.hid (NoneTo.all (by rw [HLn0.out]; exact Hno.out) 1)
      clear Hno hno hrs
      go_wp2_with fail
      clear b0 b1 b2 b3 b4 b5 b6 b7
      go_loopw [5, 6] (fun i _ wr => ∃ k : Nat, k ≤ n2 ∧ i = .int .i64 (k : Int) ∧ NoneTo (twM T) T.marks k ∧ RS w (.slice A0 n0 c0) v1 (.slice A2 n2 c2) (.slice A3 n3 c3) (.slice A4 n4 c4) (.slice A5 n5 c5) v6 v7 wr) (fun i _ _ => n2 - (intOf i).toNat)
      case atStart => exact ⟨0, Nat.zero_le _, rfl, NoneTo.zero _ _, Hr.out⟩
      case round =>
        clear Hr
        obtain ⟨k, hk, rfl, hno, hrs⟩ := hrel
        have Hno := Lib.hid hno
        have Hr := Lib.hid hrs
        obtain ⟨b0, b1, b2, b3, b4, b5, b6, b7⟩ := hrs.boxF
        by_cases hlt : k < n2
        · obtain ⟨m, hm⟩ : ∃ m, T.marks[k]? = some m := ⟨_, List.getElem?_eq_getElem (by rw [HLn2.out]; exact hlt)⟩
          have Hm := Lib.hid hm
          have k0 : (0 : Int) ≤ (k : Int) := by omega
          have k1 : (k : Int) < (n2 : Int) := by omega
          clear hno hrs hm
          go_wp2_with fail
          go_loopw [6] (fun j wr => ∃ q : Nat, q ≤ k ∧ j = .int .i64 (q : Int) ∧ (T.marks.take q).any (fun x => decide (x.r = m.r)) = false ∧ RS w (.slice A0 n0 c0) v1 (.slice A2 n2 c2) (.slice A3 n3 c3) (.slice A4 n4 c4) (.slice A5 n5 c5) v6 v7 wr) (fun j _ => k - (intOf j).toNat)
          case atStart => exact ⟨0, Nat.zero_le _, rfl, by simp, Hr.out⟩
          case round =>
            clear Hr
            obtain ⟨q, hq, rfl, hany, hrs⟩ := hrel
            have Hany := Lib.hid hany
            have Hr := Lib.hid hrs
            clear b0 b1 b2 b3 b4 b5 b6 b7
            obtain ⟨b0, b1, b2, b3, b4, b5, b6, b7⟩ := hrs.boxF
            by_cases hql : q < k
            · obtain ⟨x, hx⟩ : ∃ x, T.marks[q]? = some x := ⟨_, List.getElem?_eq_getElem (by rw [HLn2.out]; omega)⟩
              have hm := Hm.out
              obtain ⟨a', ea, e0, e1⟩ := el2 HT.out.marks hrs.below hm rfl
              obtain ⟨a2, ea2, d0, d1⟩ := el2 HT.out.marks hrs.below hx rfl
              cases ea
              cases ea2
              have q0 : (0 : Int) ≤ (q : Int) := by omega
              have q1 : (q : Int) < (n2 : Int) := by omega
              have q2 : (q : Int) < (k : Int) := by omega
              have Hs := Lib.hid (any_take_succ T.marks (fun x => decide (x.r = m.r)) q x hx)
              have Hx := Lib.hid hx
              clear hrs hany hm hx
              by_cases hq3 : x.r = m.r
              · have t1 : (m.r == x.r) = true := by simp [hq3]
                have Hq := Lib.hid hq3
                have H0 : Hid (twM T k m = 14) := Lib.hid (by unfold twM; rw [if_pos (any_take_at Hx.out hql (by simpa using Hq.out))])
                clear hq3
                obtain ⟨r1, r2, r3, f1, f2, f3⟩ := Hr.out.resF
                go_wp2_with fail
                go_quiet (fail)
                go_wp2_with fail
                obtain ⟨hB, hW⟩ := ((Hr.out.step (below_dr wr nq))).ret (.int .i64 14) (.int .i64 3) (.int .i64 (k : Int))
                obtain ⟨s1, s2, s3, -, -, -⟩ := wrong_facts hB
                refine bodyPost_ret (v := .agg #[.int .i64 14, .int .i64 3, .int .i64 (k : Int)]) ?_ rfl ⟨?_, hW⟩
                · simp [results, Tryz.results34, go_sem, s1, s2, s3]
                · rw [show twiceW T = some (14, 3, (k : Int)) by unfold twiceW; rw [HN0.out, Hno.out.found Hm.out (by rw [H0.out]; decide) 3, H0.out]; first | done | rfl]
                  rfl
              · have t1 : (m.r == x.r) = false := by rw [beq_eq_false_iff_ne]; exact fun h => hq3 h.symm
                have Hq := Lib.hid hq3
                clear hq3
                go_wp2_with fail
                go_quiet (fail)
                go_wp2_with fail
                go_roundw
                case rel => exact ⟨q + 1, by omega, by go_num, by rw [Hs.out, Hany.out]; simpa using Hq.out, Hr.out.step (below_dr wr nq)⟩
                case measure => simp [intOf]; omega
            · have hqk : q = k := by omega
              subst hqk
              have H0 : Hid (twM T q m = 0) := Lib.hid (by unfold twM; rw [if_neg (by rw [Hany.out]; simp)])
              clear hrs hany
              go_wp2_with fail
              go_roundw
              case rel => exact ⟨q + 1, by omega, by go_num, Hno.out.succ Hm.out H0.out, Hr.out⟩
              case measure => simp [intOf]; omega
        · have hkn : n2 = k := by omega
          subst hkn
          have HN1 : Hid (scan (twM T) 3 0 T.marks = none) := Lib.hid (NoneTo.all (by rw [HLn2.out]; exact Hno.out) 3)
          clear Hno hno hrs
          go_wp2_with fail
          clear b0 b1 b2 b3 b4 b5 b6 b7
          go_loopw [7, 8, 9, 10] (fun i _ _ _ wr => ∃ k : Nat, k ≤ n3 ∧ i = .int .i64 (k : Int) ∧ NoneTo (twP T) T.pairs k ∧ RS w (.slice A0 n0 c0) v1 (.slice A2 n2 c2) (.slice A3 n3 c3) (.slice A4 n4 c4) (.slice A5 n5 c5) v6 v7 wr) (fun i _ _ _ _ => n3 - (intOf i).toNat)
          case atStart => exact ⟨0, Nat.zero_le _, rfl, NoneTo.zero _ _, Hr.out⟩
          case round =>
            clear Hr
            obtain ⟨k, hk, rfl, hno, hrs⟩ := hrel
            have Hno := Lib.hid hno
            have Hr := Lib.hid hrs
            obtain ⟨b0, b1, b2, b3, b4, b5, b6, b7⟩ := hrs.boxF
            by_cases hlt : k < n3
            · obtain ⟨m, hm⟩ : ∃ m, T.pairs[k]? = some m := ⟨_, List.getElem?_eq_getElem (by rw [HLn3.out]; exact hlt)⟩
              have Hm := Lib.hid hm
              have k0 : (0 : Int) ≤ (k : Int) := by omega
              have k1 : (k : Int) < (n3 : Int) := by omega
              clear hno hrs hm
              go_wp2_with fail
              go_loopw [8, 9, 10] (fun j _ _ wr => ∃ q : Nat, q ≤ k ∧ j = .int .i64 (q : Int) ∧ (T.pairs.take q).any (fun x => decide (x.whole = m.whole ∨ (x.base = m.base ∧ x.mark = m.mark))) = false ∧ RS w (.slice A0 n0 c0) v1 (.slice A2 n2 c2) (.slice A3 n3 c3) (.slice A4 n4 c4) (.slice A5 n5 c5) v6 v7 wr) (fun j _ _ _ => k - (intOf j).toNat)
              case atStart => exact ⟨0, Nat.zero_le _, rfl, by simp, Hr.out⟩
              case round =>
                clear Hr
                obtain ⟨q, hq, rfl, hany, hrs⟩ := hrel
                have Hany := Lib.hid hany
                have Hr := Lib.hid hrs
                clear b0 b1 b2 b3 b4 b5 b6 b7
                obtain ⟨b0, b1, b2, b3, b4, b5, b6, b7⟩ := hrs.boxF
                by_cases hql : q < k
                · obtain ⟨x, hx⟩ : ∃ x, T.pairs[q]? = some x := ⟨_, List.getElem?_eq_getElem (by rw [HLn3.out]; omega)⟩
                  have hm := Hm.out
                  obtain ⟨a', ea, e0, e1, e2⟩ := el3 HT.out.pairs hrs.below hm rfl
                  obtain ⟨a2, ea2, d0, d1, d2⟩ := el3 HT.out.pairs hrs.below hx rfl
                  cases ea
                  cases ea2
                  have q0 : (0 : Int) ≤ (q : Int) := by omega
                  have q1 : (q : Int) < (n3 : Int) := by omega
                  have q2 : (q : Int) < (k : Int) := by omega
                  have Hs := Lib.hid (any_take_succ T.pairs (fun x => decide (x.whole = m.whole ∨ (x.base = m.base ∧ x.mark = m.mark))) q x hx)
                  have Hx := Lib.hid hx
                  clear hrs hany hm hx
                  have x1 := (Below.refl _ wr).alloc (Nat.le_refl _) (.cells #[.int .i32 m.whole, .int .i32 m.base, .int .i32 m.mark] 77)
                  have Hr1 := Lib.hid (Hr.out.step x1)
                  have x2 := (Below.refl _ (wr.alloc (.cells #[.int .i32 m.whole, .int .i32 m.base, .int .i32 m.mark] 77))).alloc (Nat.le_refl _) (.cells #[.int .i32 x.whole, .int .i32 x.base, .int .i32 x.mark] 77)
                  have Hr2 := Lib.hid (Hr1.out.step x2)
                  obtain ⟨c0', c1', c2', c3', c4', c5', c6', c7'⟩ := Hr1.out.boxF
                  obtain ⟨a3, ea3, d0', d1', d2'⟩ := el3 HT.out.pairs Hr1.out.below Hx.out rfl
                  cases ea3
                  have bP := (Blk.new wr 77 #[.int .i32 m.whole, .int .i32 m.base, .int .i32 m.mark]).below x2
                  have y0 := bP.cell 0
                  have y1 := bP.cell 1
                  have y2 := bP.cell 2
                  have bQ := Blk.new (wr.alloc (.cells #[.int .i32 m.whole, .int .i32 m.base, .int .i32 m.mark] 77)) 77 #[.int .i32 x.whole, .int .i32 x.base, .int .i32 x.mark]
                  have z0 := bQ.cell 0
                  have z1 := bQ.cell 1
                  have z2 := bQ.cell 2
                  simp only [World.size_alloc, List.getElem?_toArray, List.getElem?_cons_zero, List.getElem?_cons_succ] at y0 y1 y2 z0 z1 z2
                  clear bP bQ x1 x2 d0 d1 d2
                  by_cases g1 : x.whole = m.whole
                  · have G1 := Lib.hid g1
                    have t1 : (m.whole == x.whole) = true := by rw [beq_iff_eq]; exact g1.symm
                    clear g1
                    have H0 : Hid (twP T k m = 14) := Lib.hid (by unfold twP; rw [if_pos (any_take_at Hx.out hql (by rw [decide_eq_true_iff]; exact .inl G1.out))])
                    obtain ⟨r1, r2, r3, f1, f2, f3⟩ := Hr2.out.resF
                    go_wp2_with fail
                    obtain ⟨hB, hW⟩ := (Hr2.out).ret (.int .i64 14) (.int .i64 4) (.int .i64 (k : Int))
                    obtain ⟨s1, s2, s3, -, -, -⟩ := wrong_facts hB
                    refine bodyPost_ret (v := .agg #[.int .i64 14, .int .i64 4, .int .i64 (k : Int)]) ?_ rfl ⟨?_, hW⟩
                    · simp [results, Tryz.results34, go_sem, s1, s2, s3]
                    · rw [show twiceW T = some (14, 4, (k : Int)) by unfold twiceW; rw [HN0.out, HN1.out, Hno.out.found Hm.out (by rw [H0.out]; decide) 4, H0.out]; first | done | rfl]
                      rfl
                  · have G1 := Lib.hid g1
                    have t1 : (m.whole == x.whole) = false := by rw [beq_eq_false_iff_ne]; exact fun h => g1 h.symm
                    clear g1
                    by_cases g2 : x.base = m.base
                    · have G2 := Lib.hid g2
                      have t2 : (m.base == x.base) = true := by rw [beq_iff_eq]; exact g2.symm
                      clear g2
                      by_cases g3 : x.mark = m.mark
                      · have G3 := Lib.hid g3
                        have t3 : (m.mark == x.mark) = true := by rw [beq_iff_eq]; exact g3.symm
                        clear g3
                        have H0 : Hid (twP T k m = 14) := Lib.hid (by unfold twP; rw [if_pos (any_take_at Hx.out hql (by rw [decide_eq_true_iff]; exact .inr ⟨G2.out, G3.out⟩))])
                        obtain ⟨r1, r2, r3, f1, f2, f3⟩ := Hr2.out.resF
                        go_wp2_with fail
                        obtain ⟨hB, hW⟩ := (Hr2.out).ret (.int .i64 14) (.int .i64 4) (.int .i64 (k : Int))
                        obtain ⟨s1, s2, s3, -, -, -⟩ := wrong_facts hB
                        refine bodyPost_ret (v := .agg #[.int .i64 14, .int .i64 4, .int .i64 (k : Int)]) ?_ rfl ⟨?_, hW⟩
                        · simp [results, Tryz.results34, go_sem, s1, s2, s3]
                        · rw [show twiceW T = some (14, 4, (k : Int)) by unfold twiceW; rw [HN0.out, HN1.out, Hno.out.found Hm.out (by rw [H0.out]; decide) 4, H0.out]; first | done | rfl]
                          rfl
                      · have G3 := Lib.hid g3
                        have t3 : (m.mark == x.mark) = false := by rw [beq_eq_false_iff_ne]; exact fun h => g3 h.symm
                        clear g3
                        go_wp2_with fail
                        go_roundw
                        case rel => exact ⟨q + 1, by omega, by go_num, by rw [Hs.out, Hany.out, Bool.false_or, decide_eq_false_iff_not]; exact fun h => h.elim G1.out (fun h => G3.out h.2), Hr2.out⟩
                        case measure => simp [intOf]; omega
                    · have G2 := Lib.hid g2
                      have t2 : (m.base == x.base) = false := by rw [beq_eq_false_iff_ne]; exact fun h => g2 h.symm
                      clear g2
                      go_wp2_with fail
                      go_roundw
                      case rel => exact ⟨q + 1, by omega, by go_num, by rw [Hs.out, Hany.out, Bool.false_or, decide_eq_false_iff_not]; exact fun h => h.elim G1.out (fun h => G2.out h.1), Hr2.out⟩
                      case measure => simp [intOf]; omega
                · have hqk : q = k := by omega
                  subst hqk
                  have H0 : Hid (twP T q m = 0) := Lib.hid (by unfold twP; rw [if_neg (by rw [Hany.out]; simp)])
                  clear hrs hany
                  go_wp2_with fail
                  go_roundw
                  case rel => exact ⟨q + 1, by omega, by go_num, Hno.out.succ Hm.out H0.out, Hr.out⟩
                  case measure => simp [intOf]; omega
            · have hkn : n3 = k := by omega
              subst hkn
              have HN2 : Hid (scan (twP T) 4 0 T.pairs = none) := Lib.hid (NoneTo.all (by rw [HLn3.out]; exact Hno.out) 4)
              clear Hno hno hrs
              go_wp2_with fail
              clear b0 b1 b2 b3 b4 b5 b6 b7
              go_loopw [11] (fun i wr => ∃ k : Nat, k ≤ n4 ∧ i = .int .i64 (k : Int) ∧ NoneTo (twF T.folds) T.folds k ∧ RS w (.slice A0 n0 c0) v1 (.slice A2 n2 c2) (.slice A3 n3 c3) (.slice A4 n4 c4) (.slice A5 n5 c5) v6 v7 wr) (fun i _ => n4 - (intOf i).toNat)
              case atStart => exact ⟨0, Nat.zero_le _, rfl, NoneTo.zero _ _, Hr.out⟩
              case round =>
                clear Hr
                obtain ⟨k, hk, rfl, hno, hrs⟩ := hrel
                have Hno := Lib.hid hno
                have Hr := Lib.hid hrs
                obtain ⟨b0, b1, b2, b3, b4, b5, b6, b7⟩ := hrs.boxF
                by_cases hlt : k < n4
                · obtain ⟨m, hm⟩ : ∃ m, T.folds[k]? = some m := ⟨_, List.getElem?_eq_getElem (by rw [HLn4.out]; exact hlt)⟩
                  obtain ⟨a, rfl, e0, e1⟩ := el2 HT.out.folds hrs.below hm rfl
                  have Hm := Lib.hid hm
                  have k0 : (0 : Int) ≤ (k : Int) := by omega
                  have k1 : (k : Int) < (n4 : Int) := by omega
                  have hfi := fun q => (ref_From T.folds ((HT.out.folds.below hrs.below).below (below_dr wr q)) m.frm).mono (R' := fun e w' => e = .returned (.int .i64 (firstI T.folds fun p => decide (p.frm = m.frm))) ∧ ∃ m, w' = (wr.drewN q).drewN m) (fun e w' h => ⟨h.1, h.2.elim fun q h => ⟨q, h.symm⟩⟩)
                  have HF := Lib.hid hfi
                  clear hno hrs hm hfi
                  cases hany : (T.folds.take k).any (fun x => decide (x.frm = m.frm)) with
                  | true =>
                    have H0 : Hid (twF T.folds k m = 14) := Lib.hid (by unfold twF; rw [if_pos hany])
                    have hlt2 : firstI T.folds (fun p => decide (p.frm = m.frm)) < (k : Int) := firstI_lt hany
                    clear hany
                    generalize firstI T.folds (fun p => decide (p.frm = m.frm)) = z at *
                    obtain ⟨r1, r2, r3, f1, f2, f3⟩ := Hr.out.resF
                    go_wp2_with fail
                    go_quiet ((go_at_call 80; refine Calls.quiet_of (HF.out _)))
                    go_wp2_with fail
                    obtain ⟨hB, hW⟩ := ((Hr.out.step (below_dr wr nq))).ret (.int .i64 14) (.int .i64 5) (.int .i64 (k : Int))
                    obtain ⟨s1, s2, s3, -, -, -⟩ := wrong_facts hB
                    refine bodyPost_ret (v := .agg #[.int .i64 14, .int .i64 5, .int .i64 (k : Int)]) ?_ rfl ⟨?_, hW⟩
                    · simp [results, Tryz.results34, go_sem, s1, s2, s3]
                    · rw [show twiceW T = some (14, 5, (k : Int)) by unfold twiceW; rw [HN0.out, HN1.out, HN2.out, Hno.out.found Hm.out (by rw [H0.out]; decide) 5, H0.out]; first | done | rfl]
                      rfl
                  | false =>
                    have H0 : Hid (twF T.folds k m = 0) := Lib.hid (by unfold twF; rw [if_neg (by rw [hany]; simp)])
                    have hlt2 : ¬ firstI T.folds (fun p => decide (p.frm = m.frm)) < (k : Int) := by rw [firstI_some Hm.out (by simp) hany]; omega
                    clear hany
                    generalize firstI T.folds (fun p => decide (p.frm = m.frm)) = z at *
                    go_wp2_with fail
                    go_quiet ((go_at_call 80; refine Calls.quiet_of (HF.out _)))
                    go_wp2_with fail
                    go_roundw
                    case rel => exact ⟨k + 1, by omega, by go_num, Hno.out.succ Hm.out H0.out, Hr.out.step (below_dr wr nq)⟩
                    case measure => simp [intOf]; omega
                · have hkn : n4 = k := by omega
                  subst hkn
                  have HN3 : Hid (scan (twF T.folds) 5 0 T.folds = none) := Lib.hid (NoneTo.all (by rw [HLn4.out]; exact Hno.out) 5)
                  clear Hno hno hrs
                  go_wp2_with fail
                  clear b0 b1 b2 b3 b4 b5 b6 b7
                  go_loopw [12] (fun i wr => ∃ k : Nat, k ≤ n5 ∧ i = .int .i64 (k : Int) ∧ NoneTo (twF T.looks) T.looks k ∧ RS w (.slice A0 n0 c0) v1 (.slice A2 n2 c2) (.slice A3 n3 c3) (.slice A4 n4 c4) (.slice A5 n5 c5) v6 v7 wr) (fun i _ => n5 - (intOf i).toNat)
                  case atStart => exact ⟨0, Nat.zero_le _, rfl, NoneTo.zero _ _, Hr.out⟩
                  case round =>
                    clear Hr
                    obtain ⟨k, hk, rfl, hno, hrs⟩ := hrel
                    have Hno := Lib.hid hno
                    have Hr := Lib.hid hrs
                    obtain ⟨b0, b1, b2, b3, b4, b5, b6, b7⟩ := hrs.boxF
                    by_cases hlt : k < n5
                    · obtain ⟨m, hm⟩ : ∃ m, T.looks[k]? = some m := ⟨_, List.getElem?_eq_getElem (by rw [HLn5.out]; exact hlt)⟩
                      obtain ⟨a, rfl, e0, e1⟩ := el2 HT.out.looks hrs.below hm rfl
                      have Hm := Lib.hid hm
                      have k0 : (0 : Int) ≤ (k : Int) := by omega
                      have k1 : (k : Int) < (n5 : Int) := by omega
                      have hfi := fun q => (ref_From T.looks ((HT.out.looks.below hrs.below).below (below_dr wr q)) m.frm).mono (R' := fun e w' => e = .returned (.int .i64 (firstI T.looks fun p => decide (p.frm = m.frm))) ∧ ∃ m, w' = (wr.drewN q).drewN m) (fun e w' h => ⟨h.1, h.2.elim fun q h => ⟨q, h.symm⟩⟩)
                      have HF := Lib.hid hfi
                      clear hno hrs hm hfi
                      cases hany : (T.looks.take k).any (fun x => decide (x.frm = m.frm)) with
                      | true =>
                        have H0 : Hid (twF T.looks k m = 14) := Lib.hid (by unfold twF; rw [if_pos hany])
                        have hlt2 : firstI T.looks (fun p => decide (p.frm = m.frm)) < (k : Int) := firstI_lt hany
                        clear hany
                        generalize firstI T.looks (fun p => decide (p.frm = m.frm)) = z at *
                        obtain ⟨r1, r2, r3, f1, f2, f3⟩ := Hr.out.resF
                        go_wp2_with fail
                        go_quiet ((go_at_call 80; refine Calls.quiet_of (HF.out _)))
                        go_wp2_with fail
                        obtain ⟨hB, hW⟩ := ((Hr.out.step (below_dr wr nq))).ret (.int .i64 14) (.int .i64 6) (.int .i64 (k : Int))
                        obtain ⟨s1, s2, s3, -, -, -⟩ := wrong_facts hB
                        refine bodyPost_ret (v := .agg #[.int .i64 14, .int .i64 6, .int .i64 (k : Int)]) ?_ rfl ⟨?_, hW⟩
                        · simp [results, Tryz.results34, go_sem, s1, s2, s3]
                        · rw [show twiceW T = some (14, 6, (k : Int)) by unfold twiceW; rw [HN0.out, HN1.out, HN2.out, HN3.out, Hno.out.found Hm.out (by rw [H0.out]; decide) 6, H0.out]; first | done | rfl]
                          rfl
                      | false =>
                        have H0 : Hid (twF T.looks k m = 0) := Lib.hid (by unfold twF; rw [if_neg (by rw [hany]; simp)])
                        have hlt2 : ¬ firstI T.looks (fun p => decide (p.frm = m.frm)) < (k : Int) := by rw [firstI_some Hm.out (by simp) hany]; omega
                        clear hany
                        generalize firstI T.looks (fun p => decide (p.frm = m.frm)) = z at *
                        go_wp2_with fail
                        go_quiet ((go_at_call 80; refine Calls.quiet_of (HF.out _)))
                        go_wp2_with fail
                        go_roundw
                        case rel => exact ⟨k + 1, by omega, by go_num, Hno.out.succ Hm.out H0.out, Hr.out.step (below_dr wr nq)⟩
                        case measure => simp [intOf]; omega
                    · have hkn : n5 = k := by omega
                      subst hkn
                      have HN4 : Hid (scan (twF T.looks) 6 0 T.looks = none) := Lib.hid (NoneTo.all (by rw [HLn5.out]; exact Hno.out) 6)
                      obtain ⟨r1, r2, r3, f1, f2, f3⟩ := Hr.out.resF
                      clear Hno hno hrs
                      go_wp2_with fail
                      obtain ⟨hB, hW⟩ := (Hr.out).ret (.int .i64 0) (.int .i64 0) (.int .i64 0)
                      obtain ⟨s1, s2, s3, -, -, -⟩ := wrong_facts hB
                      refine bodyPost_ret (v := .agg #[.int .i64 0, .int .i64 0, .int .i64 0]) ?_ rfl ⟨?_, hW⟩
                      · simp [results, Tryz.results34, go_sem, s1, s2, s3]
                      · rw [show twiceW T = none by unfold twiceW; rw [HN0.out, HN1.out, HN2.out, HN3.out, HN4.out]; first | done | rfl]
                        rfl

end Go.Proofs.YtjmkdimbbacnfaaGreatDoor
