/- tables.check: once. (Printed by gen_conce.py.) -/
import Derived.Test.YtjmkdimbbacnfaaGreatDoorGTabO
import Derived.BigRegion
namespace Go.Proofs.YtjmkdimbbacnfaaGreatDoor
open Go.RowKit
set_option linter.unusedVariables false
abbrev f1 (T : Tab) (k : Nat) : Int → Option Int := fnd T.marks (fun y => y.r) (fun y => y.c) k
abbrev f2 (T : Tab) (k : Nat) : Int → Option (Int × Int) := fnd T.pairs (fun y => y.whole) (fun y => (y.base, y.mark)) k
abbrev f3 (T : Tab) (k : Nat) : Int × Int → Option Int := fnd T.pairs (fun y => (y.base, y.mark)) (fun y => y.whole) k
abbrev f4 (l : List MapT) (k : Nat) : Int → Option ByteArray := fnd l (fun y => y.frm) (fun y => y.to) k
theorem twP_eq {T : Tab} {k : Nat} {m : PairT} : twP T k m = if (f2 T k m.whole).isSome = true ∨ (f3 T k (m.base, m.mark)).isSome = true then 14 else 0 := by
  unfold twP
  rw [fnd_isSome, fnd_isSome]
  have : (T.pairs.take k).any (fun x => decide (x.whole = m.whole ∨ (x.base = m.base ∧ x.mark = m.mark))) = ((T.pairs.take k).any (fun y => decide (y.whole = m.whole)) || (T.pairs.take k).any (fun y => decide ((y.base, y.mark) = (m.base, m.mark)))) := by
    rw [Bool.eq_iff_iff, Bool.or_eq_true]
    simp only [List.any_eq_true, decide_eq_true_eq, Prod.mk.injEq]
    constructor
    · rintro ⟨x, hx, h | h⟩
      · exact .inl ⟨x, hx, h⟩
      · exact .inr ⟨x, hx, h⟩
    · rintro (⟨x, hx, h⟩ | ⟨x, hx, h⟩)
      · exact ⟨x, hx, .inl h⟩
      · exact ⟨x, hx, .inr h⟩
  rw [this]
  cases (T.pairs.take k).any (fun y => decide (y.whole = m.whole)) <;> cases (T.pairs.take k).any (fun y => decide ((y.base, y.mark) = (m.base, m.mark))) <;> simp
theorem mapsOf_eq {T : Tab} {a b c d : Nat} (h1 : T.marks.length = a) (h2 : T.pairs.length = b) (h3 : T.folds.length = c) (h4 : T.looks.length = d) : mapsOf T = ⟨f1 T a, f2 T b, f3 T b, f4 T.folds c, f4 T.looks d⟩ := by
  unfold mapsOf f1 f2 f3 f4
  rw [fnd_all h1.symm, fnd_all h2.symm, fnd_all h2.symm, fnd_all h3.symm, fnd_all h4.symm]
abbrev f0 (T : Tab) (k : Nat) : ByteArray → Option Bool := fnd T.scripts (fun y => y.name) (fun _ => true) k

set_option maxRecDepth 100000 in
set_option maxHeartbeats 8000000 in
theorem chk_once {w0 w : World} {v0 v1 v2 v3 v4 v5 v6 v7 t0 t1 t2 t3 t4 t5 t6 t7 : Value} (T : Tab) (h : TabAt w0 v0 v1 v2 v3 v4 v5 v6 v7 T) (hok : TabOk T) (c b : Nat) {m1 m2 m3 m4 m5 : Nat} (hb0 : Below w0.heap.size w0 w) (hc : Blk w c 68 #[v0, v1, v2, v3, v4, v5, v6, v7, .pointer (some ⟨b, 0, none⟩)])
    (hbk : Blk w b 66 #[t0, t1, t2, t3, t4, t5, t6, t7, .map (some m1), .map (some m2), .map (some m3), .map (some m4), .map (some m5)]) (hd : Dst w0 w m1 m2 m3 m4 m5)
    (x1 : M1 w m1 0 (fun _ => none)) (x2 : M2 w m2 0 (fun _ => none)) (x3 : M3 w m3 0 (fun _ => none)) (x4 : M4 w m4 0 (fun _ => none)) (x5 : M4 w m5 0 (fun _ => none)) (hmk : scan markAt 3 0 T.marks = none) :
    Calls Tryz.prog 24 #[.pointer (some ⟨c, 0, none⟩)] w fun e w' => e = .returned (wrongV (twiceW T)) ∧ Below w0.heap.size w0 w' ∧ OffM w m1 m2 m3 m4 m5 w' ∧ w.heap.size ≤ w'.heap.size ∧ (twiceW T = none → MS w' b m1 m2 m3 m4 m5 t0 t1 t2 t3 t4 t5 t6 t7 (mapsOf T)) := by
  have HO := Lib.hid hok
  have HK := Lib.hid hmk
  have HD := Lib.hid hd
  have HSZ := Lib.hid hb0.size
  obtain ⟨A0, c0, rfl, hn0⟩ := h.formS
  obtain ⟨A1, c1, rfl, hn1⟩ := h.common.form
  obtain ⟨A2, c2, rfl, hn2⟩ := h.marks.form
  obtain ⟨A3, c3, rfl, hn3⟩ := h.pairs.form
  obtain ⟨A4, c4, rfl, hn4⟩ := h.folds.form
  obtain ⟨A5, c5, rfl, hn5⟩ := h.looks.form
  obtain ⟨A6, c6, rfl, hn6⟩ := h.drops.form
  obtain ⟨A7, c7, rfl, hn7⟩ := h.allowed.form
  have HT := Lib.hid h
  obtain ⟨n0, hln0⟩ : ∃ n, T.scripts.length = n := ⟨_, rfl⟩
  rw [hln0] at HT hc hn0
  have HLn0 := Lib.hid hln0
  clear hln0
  obtain ⟨n1, hln1⟩ : ∃ n, T.common.length = n := ⟨_, rfl⟩
  rw [hln1] at HT hc hn1
  have HLn1 := Lib.hid hln1
  clear hln1
  obtain ⟨n2, hln2⟩ : ∃ n, T.marks.length = n := ⟨_, rfl⟩
  rw [hln2] at HT hc hn2
  have HLn2 := Lib.hid hln2
  clear hln2
  obtain ⟨n3, hln3⟩ : ∃ n, T.pairs.length = n := ⟨_, rfl⟩
  rw [hln3] at HT hc hn3
  have HLn3 := Lib.hid hln3
  clear hln3
  obtain ⟨n4, hln4⟩ : ∃ n, T.folds.length = n := ⟨_, rfl⟩
  rw [hln4] at HT hc hn4
  have HLn4 := Lib.hid hln4
  clear hln4
  obtain ⟨n5, hln5⟩ : ∃ n, T.looks.length = n := ⟨_, rfl⟩
  rw [hln5] at HT hc hn5
  have HLn5 := Lib.hid hln5
  clear hln5
  obtain ⟨n6, hln6⟩ : ∃ n, T.drops.length = n := ⟨_, rfl⟩
  rw [hln6] at HT hc hn6
  have HLn6 := Lib.hid hln6
  clear hln6
  obtain ⟨n7, hln7⟩ : ∃ n, T.allowed.length = n := ⟨_, rfl⟩
  rw [hln7] at HT hc hn7
  have HLn7 := Lib.hid hln7
  clear hln7
  have HS0 := Lib.hid (OS.start hb0 hc hbk x1 x2 x3 x4 x5)
  obtain ⟨d0, d1, d2, d3, d4, d5, d6, d7, d8⟩ := chk_facts HS0.out.chk
  clear h hok hc hbk hmk hd hb0 x1 x2 x3 x4 x5
  have hmm := @run_makeMap Tryz.prog
  go_enter Tryz.func24, Tryz.ntmps24
  go_wp2_with fail
  obtain ⟨W0, hW0⟩ : ∃ W0, (w.alloc (.cells #[.int .i64 0, .int .i64 0, .int .i64 0] 40)).alloc (.map #[] 0) = W0 := ⟨_, rfl⟩
  rw [hW0] at HS0 d0 d1 d2 d3 d4 d5 d6 d7 d8 ⊢
  clear hW0 hmm
  go_loopw [28] (fun i wr => ∃ k N : Nat, k ≤ n0 ∧ i = .int .i64 (k : Int) ∧ NoneTo (twS T) T.scripts k ∧ N ≤ k ∧ OS w0 w c b m1 m2 m3 m4 m5 (w.heap.size + 1) (.slice A0 n0 c0) (.slice A1 n1 c1) (.slice A2 n2 c2) (.slice A3 n3 c3) (.slice A4 n4 c4) (.slice A5 n5 c5) (.slice A6 n6 c6) (.slice A7 n7 c7) t0 t1 t2 t3 t4 t5 t6 t7 N (fun _ => none) (fun _ => none) (fun _ => none) (fun _ => none) (fun _ => none) (f0 T k) wr) (fun i _ => n0 - (intOf i).toNat)
  case atStart => exact ⟨0, _, Nat.zero_le _, rfl, NoneTo.zero _ _, Nat.le_refl _, by rw [show f0 T 0 = fun _ => none from fnd_zero]; exact HS0.out⟩
  case round =>
    clear HS0
    obtain ⟨k, N, hk, rfl, hno, hN, hrs⟩ := hrel
    have Hno := Lib.hid hno
    have Hr := Lib.hid hrs
    by_cases hlt : k < n0
    · obtain ⟨m, hm⟩ : ∃ m, T.scripts[k]? = some m := ⟨_, List.getElem?_eq_getElem (by rw [HLn0.out]; exact hlt)⟩
      obtain ⟨a, v, rfl, e0, e1, hsp⟩ := elS HT.out hrs.below0 hm
      obtain ⟨A9, c9, rfl, hn9⟩ := hsp.form
      obtain ⟨n9, hl9⟩ : ∃ n, m.spans.length = n := ⟨_, rfl⟩
      rw [hl9] at hn9 e1 hsp
      have Hl9 := Lib.hid hl9
      clear hl9
      have Hm := Lib.hid hm
      have k0 : (0 : Int) ≤ (k : Int) := by omega
      have k1 : (k : Int) < (n0 : Int) := by omega
      have HE := Lib.hid ((Below.refl _ wr).alloc (Nat.le_refl _) (.cells #[.string m.name, .slice A9 n9 c9] 59))
      have Hx := Lib.hid (Blk.new wr 59 #[.string m.name, .slice A9 n9 c9])
      have hsz := (HO.out.scripts m (List.mem_of_getElem? hm)).1
      have hr1 := hrs.step HE.out
      have l1 := hr1.look_n hsz
      have ey : (f0 T k m.name).getD false = (T.scripts.take k).any fun x => decide (x.name = m.name) := fnd_true
      rw [ey] at l1
      have Hp := Lib.hid (hr1.putn HD.out (by omega) (by omega) hsz true)
      clear hno hrs hm hr1 ey hsp
      cases hy : (T.scripts.take k).any fun x => decide (x.name = m.name) with
      | true =>
        rw [hy] at l1
        have H0 : Hid (twS T k m = 14) := Lib.hid (by unfold twS; rw [if_pos hy])
        go_wp2_with (go_at_call 53; refine (tab_wrong _ _ _ _).mono ?_; rintro e w9 ⟨rfl, hb9⟩; have h9 := (Hr.out.step HE.out).step hb9; obtain ⟨r1, r2, r3, f1, f2, f3⟩ := h9.resF; have H9 := Lib.hid h9; clear h9)
        have hval : twiceW T = some (14, 1, (k : Int)) := by unfold twiceW; rw [Hno.out.found Hm.out (by rw [H0.out]; decide) 1, H0.out]; first | done | rfl
        obtain ⟨hB, hW1, hW2, hW3, hMs⟩ := (H9.out).retF HSZ.out (.int .i64 14) (.int .i64 1) (.int .i64 (k : Int))
        obtain ⟨s1, s2, s3, -, -, -⟩ := wrong_facts hB
        refine bodyPost_ret (v := .agg #[.int .i64 14, .int .i64 1, .int .i64 (k : Int)]) ?_ rfl ⟨?_, hW1, hW2, hW3, fun h => absurd h (by rw [hval]; simp)⟩
        · simp [results, Tryz.results24, go_sem, s1, s2, s3]
        · rw [hval]; rfl
      | false =>
        rw [hy] at l1
        have H0 : Hid (twS T k m = 0) := Lib.hid (by unfold twS; rw [if_neg (by rw [hy]; simp)])
        obtain ⟨w2, hrun, -, hos⟩ := Hp.out
        have Hos := Lib.hid hos
        have hup := fnd_upd (val := fun _ => true) (key := fun y : ScrT => y.name) Hm.out hy
        have Hup := Lib.hid hup
        clear hup hos Hp hy
        go_wp2_with fail
        go_roundw
        case rel => exact ⟨k + 1, N + 1, by omega, by go_num, Hno.out.succ Hm.out H0.out, by omega, by have h := Hos.out; rw [Hup.out] at h; exact h⟩
        case measure => simp [intOf]; omega
    · have hkn : n0 = k := by omega
      subst hkn
      have HN0 : Hid (scan (twS T) 1 0 T.scripts = none) := Lib.hid (NoneTo.all (by rw [HLn0.out]; exact Hno.out) 1)
      obtain ⟨d0, d1, d2, d3, d4, d5, d6, d7, d8⟩ := chk_facts Hr.out.chk
      clear Hno hno
      obtain ⟨Na, hNa⟩ : ∃ Na, N = Na := ⟨_, rfl⟩
      subst hNa
      have hNa := hN
      have Hr0 := Hr
      clear hN Hr hrs
      go_wp2_with fail
      go_loopw [49] (fun i wr => ∃ k N : Nat, k ≤ n2 ∧ i = .int .i64 (k : Int) ∧ NoneTo (twM T) T.marks k ∧ N ≤ n0 + k ∧ OS w0 w c b m1 m2 m3 m4 m5 (w.heap.size + 1) (.slice A0 n0 c0) (.slice A1 n1 c1) (.slice A2 n2 c2) (.slice A3 n3 c3) (.slice A4 n4 c4) (.slice A5 n5 c5) (.slice A6 n6 c6) (.slice A7 n7 c7) t0 t1 t2 t3 t4 t5 t6 t7 N (f1 T k) (fun _ => none) (fun _ => none) (fun _ => none) (fun _ => none) (f0 T n0) wr) (fun i _ => n2 - (intOf i).toNat)
      case atStart => exact ⟨0, _, Nat.zero_le _, rfl, NoneTo.zero _ _, by omega, by rw [show f1 T 0 = fun _ => none from fnd_zero]; exact Hr0.out⟩
      case round =>
        clear Hr0
        obtain ⟨k, N, hk, rfl, hno, hN, hrs⟩ := hrel
        have Hno := Lib.hid hno
        have Hr := Lib.hid hrs
        by_cases hlt : k < n2
        · obtain ⟨m, hm⟩ : ∃ m, T.marks[k]? = some m := ⟨_, List.getElem?_eq_getElem (by rw [HLn2.out]; exact hlt)⟩
          obtain ⟨a, rfl, e0, e1⟩ := el2 HT.out.marks hrs.below0 hm rfl
          have Hm := Lib.hid hm
          have k0 : (0 : Int) ≤ (k : Int) := by omega
          have k1 : (k : Int) < (n2 : Int) := by omega
          have HE := Lib.hid ((Below.refl _ wr).alloc (Nat.le_refl _) (.cells #[.int .i32 m.r, .int .i64 m.c] 75))
          have Hx := Lib.hid (Blk.new wr 75 #[.int .i32 m.r, .int .i64 m.c])
          obtain ⟨i1, i2⟩ := HO.out.marks m (List.mem_of_getElem? hm)
          have hr1 := hrs.step HE.out
          obtain ⟨-, -, -, -, -, -, -, -, d8⟩ := chk_facts hr1.chk
          obtain ⟨q8, -, -, -, -⟩ := hr1.books
          have l1 := fun q => (hr1.ms.below (Below.drwN (Below.refl _ _) q)).look_cls i1
          dsimp only at l1
          have ey : ((f1 T k m.r).getD 0 != 0) = (T.marks.take k).any fun x => decide (x.r = m.r) := fnd_cls HK.out
          generalize (f1 T k m.r).getD 0 = y at l1 ey
          have Hr1 := Lib.hid hr1
          have Hq := Lib.hid i1
          clear hno hrs hm hr1 i1 i2
          cases hy : (T.marks.take k).any fun x => decide (x.r = m.r) with
          | true =>
            rw [hy] at ey
            have H0 : Hid (twM T k m = 14) := Lib.hid (by unfold twM; rw [if_pos hy])
            go_wp2_with fail
            go_quiet (fail)
            go_wp2_with (go_at_call 53; refine (tab_wrong _ _ _ _).mono ?_; rintro e w9 ⟨rfl, hb9⟩; have h9 := (Hr.out.step (Below.drwN HE.out nq)).step hb9; obtain ⟨r1, r2, r3, f1, f2, f3⟩ := h9.resF; have H9 := Lib.hid h9; clear h9)
            have hval : twiceW T = some (14, 3, (k : Int)) := by unfold twiceW; rw [HN0.out, Hno.out.found Hm.out (by rw [H0.out]; decide) 3, H0.out]; first | done | rfl
            obtain ⟨hB, hW1, hW2, hW3, hMs⟩ := (H9.out).retF HSZ.out (.int .i64 14) (.int .i64 3) (.int .i64 (k : Int))
            obtain ⟨s1, s2, s3, -, -, -⟩ := wrong_facts hB
            refine bodyPost_ret (v := .agg #[.int .i64 14, .int .i64 3, .int .i64 (k : Int)]) ?_ rfl ⟨?_, hW1, hW2, hW3, fun h => absurd h (by rw [hval]; simp)⟩
            · simp [results, Tryz.results24, go_sem, s1, s2, s3]
            · rw [hval]; rfl
          | false =>
            rw [hy] at ey
            have H0 : Hid (twM T k m = 0) := Lib.hid (by unfold twM; rw [if_neg (by rw [hy]; simp)])
            go_wp2_with fail
            go_quiet (fail)
            go_wp2_with fail
            have hB2 : Below (wr.alloc (.cells #[.int .i32 m.r, .int .i64 m.c] 75)).heap.size (wr.alloc (.cells #[.int .i32 m.r, .int .i64 m.c] 75)) ((wr.alloc (.cells #[.int .i32 m.r, .int .i64 m.c] 75)).drewN (nq + 1)) := Below.drwN (Below.refl _ _) (nq + 1)
            have hr2 := Hr1.out.step hB2
            obtain ⟨-, -, -, -, -, -, -, -, z8⟩ := chk_facts hr2.chk
            obtain ⟨zq, -, -, -, -⟩ := hr2.books
            have z0 := (Hx.out.below hB2).cell 0
            have z1 := (Hx.out.below hB2).cell 1
            simp only [List.getElem?_toArray, List.getElem?_cons_zero, List.getElem?_cons_succ] at z0 z1
            obtain ⟨w2, hrun, hcl, hos⟩ := hr2.put1 HD.out (by omega) (by omega) Hq.out m.c
            have Hos := Lib.hid hos
            have Hup := Lib.hid (fnd_upd (val := fun y : MarkT => y.c) (key := fun y : MarkT => y.r) Hm.out hy)
            have sa := And.intro z8 (And.intro zq (And.intro z0 z1))
            have sb := And.intro (hcl _ _ z8) (And.intro (hcl _ _ zq) (And.intro (hcl _ _ z0) (hcl _ _ z1)))
            clear hos hcl hr2 Hr1 z8 zq z0 z1 l1 d8 q8 hy
            go_region_held3 (fun w' => w'.cell? ⟨c, 8, none⟩ = some (.pointer (some ⟨b, 0, none⟩)) ∧ w'.cell? ⟨b, 8, none⟩ = some (.map (some m1)) ∧ w'.cell? ⟨wr.heap.size, 0, none⟩ = some (.int .i32 m.r) ∧ w'.cell? ⟨wr.heap.size, 1, none⟩ = some (.int .i64 m.c)) (first | exact sa | exact sb) (fail)
            go_wp2_with fail
            go_roundw
            case rel => exact ⟨k + 1, N + 1, by omega, by go_num, Hno.out.succ Hm.out H0.out, by omega, by have h := Hos.out; rw [Hup.out] at h; exact h⟩
            case measure => simp [intOf]; omega
        · have hkn : n2 = k := by omega
          subst hkn
          have HN1 : Hid (scan (twM T) 3 0 T.marks = none) := Lib.hid (NoneTo.all (by rw [HLn2.out]; exact Hno.out) 3)
          obtain ⟨d0, d1, d2, d3, d4, d5, d6, d7, d8⟩ := chk_facts Hr.out.chk
          clear Hno hno
          have hNb := hN
          have Hr0 := Hr
          clear hN Hr hrs
          go_wp2_with fail
          go_loopw [85] (fun i wr => ∃ k N : Nat, k ≤ n3 ∧ i = .int .i64 (k : Int) ∧ NoneTo (twP T) T.pairs k ∧ N ≤ n0 + n2 + 2 * k ∧ OS w0 w c b m1 m2 m3 m4 m5 (w.heap.size + 1) (.slice A0 n0 c0) (.slice A1 n1 c1) (.slice A2 n2 c2) (.slice A3 n3 c3) (.slice A4 n4 c4) (.slice A5 n5 c5) (.slice A6 n6 c6) (.slice A7 n7 c7) t0 t1 t2 t3 t4 t5 t6 t7 N (f1 T n2) (f2 T k) (f3 T k) (fun _ => none) (fun _ => none) (f0 T n0) wr) (fun i _ => n3 - (intOf i).toNat)
          case atStart => exact ⟨0, _, Nat.zero_le _, rfl, NoneTo.zero _ _, by omega, by rw [show f2 T 0 = fun _ => none from fnd_zero, show f3 T 0 = fun _ => none from fnd_zero]; exact Hr0.out⟩
          case round =>
            clear Hr0
            obtain ⟨k, N, hk, rfl, hno, hN, hrs⟩ := hrel
            have Hno := Lib.hid hno
            have Hr := Lib.hid hrs
            by_cases hlt : k < n3
            · obtain ⟨m, hm⟩ : ∃ m, T.pairs[k]? = some m := ⟨_, List.getElem?_eq_getElem (by rw [HLn3.out]; exact hlt)⟩
              obtain ⟨a, rfl, e0, e1, e2⟩ := el3 HT.out.pairs hrs.below0 hm rfl
              have Hm := Lib.hid hm
              have k0 : (0 : Int) ≤ (k : Int) := by omega
              have k1 : (k : Int) < (n3 : Int) := by omega
              have HE := Lib.hid ((Below.refl _ wr).alloc (Nat.le_refl _) (.cells #[.int .i32 m.whole, .int .i32 m.base, .int .i32 m.mark] 77))
              have Hx := Lib.hid (Blk.new wr 77 #[.int .i32 m.whole, .int .i32 m.base, .int .i32 m.mark])
              obtain ⟨i1, i2, i3⟩ := HO.out.pairs m (List.mem_of_getElem? hm)
              have hB1 : Below wr.heap.size wr ((wr.alloc (.cells #[.int .i32 m.whole, .int .i32 m.base, .int .i32 m.mark] 77)).alloc (.cells #[.int .i32 m.base, .int .i32 m.mark] 112)) := HE.out.alloc (by simp) _
              have hx0 : Blk ((wr.alloc (.cells #[.int .i32 m.whole, .int .i32 m.base, .int .i32 m.mark] 77)).alloc (.cells #[.int .i32 m.base, .int .i32 m.mark] 112)) wr.heap.size 77 #[.int .i32 m.whole, .int .i32 m.base, .int .i32 m.mark] := Hx.out.alloc _
              have hx1 : Blk ((wr.alloc (.cells #[.int .i32 m.whole, .int .i32 m.base, .int .i32 m.mark] 77)).alloc (.cells #[.int .i32 m.base, .int .i32 m.mark] 112)) (wr.heap.size + 1) 112 #[.int .i32 m.base, .int .i32 m.mark] := by
                have h := Blk.new (wr.alloc (.cells #[.int .i32 m.whole, .int .i32 m.base, .int .i32 m.mark] 77)) 112 #[.int .i32 m.base, .int .i32 m.mark]
                simp only [World.size_alloc] at h
                exact h
              have HF := Lib.hid (twP_eq (T := T) (k := k) (m := m))
              have HL1 := Lib.hid (fun W (hB : Below wr.heap.size wr W) => (hrs.step hB).ms.look_pr i1)
              have HL2 := Lib.hid (fun W (hB : Below wr.heap.size wr W) => (hrs.step hB).ms.look_jn (p := (m.base, m.mark)) i2 i3)
              have HU2 := Lib.hid (fun h => fnd_upd (l := T.pairs) (key := fun y : PairT => y.whole) (val := fun y : PairT => (y.base, y.mark)) (k := k) hm h)
              have HU3 := Lib.hid (fun h => fnd_upd (l := T.pairs) (key := fun y : PairT => (y.base, y.mark)) (val := fun y : PairT => y.whole) (k := k) hm h)
              have HA2 := Lib.hid (fnd_isSome (l := T.pairs) (key := fun y : PairT => y.whole) (val := fun y : PairT => (y.base, y.mark)) (k := k) (z := m.whole))
              have HA3 := Lib.hid (fnd_isSome (l := T.pairs) (key := fun y : PairT => (y.base, y.mark)) (val := fun y : PairT => y.whole) (k := k) (z := (m.base, m.mark)))
              have HN2 := Lib.hid (fun h => fnd_none (l := T.pairs) (key := fun y : PairT => y.whole) (val := fun y : PairT => (y.base, y.mark)) (k := k) (z := m.whole) h)
              have HN3 := Lib.hid (fun h => fnd_none (l := T.pairs) (key := fun y : PairT => (y.base, y.mark)) (val := fun y : PairT => y.whole) (k := k) (z := (m.base, m.mark)) h)
              have HI := Lib.hid (And.intro i1 (And.intro i2 i3))
              dsimp only at HL1 HL2
              obtain ⟨y1, hy1⟩ : ∃ y, (f2 T k m.whole).isSome = y := ⟨_, rfl⟩
              obtain ⟨y2, hy2⟩ : ∃ y, (f3 T k (m.base, m.mark)).isSome = y := ⟨_, rfl⟩
              obtain ⟨y3, hy3⟩ : ∃ y, (f2 T k m.whole).getD (0, 0) = y := ⟨_, rfl⟩
              obtain ⟨y4, hy4⟩ : ∃ y, (f3 T k (m.base, m.mark)).getD 0 = y := ⟨_, rfl⟩
              rw [hy1, hy2] at HF
              rw [hy1, hy3] at HL1
              rw [hy2, hy4] at HL2
              have HY1 := Lib.hid hy1
              have HY2 := Lib.hid hy2
              clear hno hrs hm i1 i2 i3 hy1 hy2 hy3 hy4
              go_wp2_with fail
              obtain ⟨W1, hW1⟩ : ∃ W1, (wr.alloc (.cells #[.int .i32 m.whole, .int .i32 m.base, .int .i32 m.mark] 77)).alloc (.cells #[.int .i32 m.base, .int .i32 m.mark] 112) = W1 := ⟨_, rfl⟩
              rw [hW1] at hB1 hx0 hx1 ⊢
              have HB1 := Lib.hid hB1
              have HX0 := Lib.hid hx0
              have HX1 := Lib.hid hx1
              clear hW1 hB1 hx0 hx1 HE Hx e0 e1 e2
              have HSf := Lib.hid (fun w' (hB : Below W1.heap.size W1 w') => (⟨hB, (chk_facts (Hr.out.step (below_trans HB1.out hB)).chk).2.2.2.2.2.2.2.2, (Hr.out.step (below_trans HB1.out hB)).books.2.1, (HX0.out.below hB).cell 0, HL1.out _ (below_trans HB1.out hB)⟩ : Below W1.heap.size W1 w' ∧ w'.cell? ⟨c, 8, none⟩ = some (.pointer (some ⟨b, 0, none⟩)) ∧ w'.cell? ⟨b, 9, none⟩ = some (.map (some m2)) ∧ w'.cell? ⟨wr.heap.size, 0, none⟩ = some (.int .i32 m.whole) ∧ (Instr.lookup 62 (.map (some m2)) (.int .i32 m.whole) true).run Tryz.prog w' = .ok (.tuple #[.agg #[.int .i32 y3.1, .int .i32 y3.2], .bool y1]) w'))
              go_region_held3 (fun w' => Below W1.heap.size W1 w' ∧ w'.cell? ⟨c, 8, none⟩ = some (.pointer (some ⟨b, 0, none⟩)) ∧ w'.cell? ⟨b, 9, none⟩ = some (.map (some m2)) ∧ w'.cell? ⟨wr.heap.size, 0, none⟩ = some (.int .i32 m.whole) ∧ (Instr.lookup 62 (.map (some m2)) (.int .i32 m.whole) true).run Tryz.prog w' = .ok (.tuple #[.agg #[.int .i32 y3.1, .int .i32 y3.2], .bool y1]) w') (first | exact HSf.out _ (Below.refl _ _).drew | exact HSf.out _ ((Below.refl _ _).alloc (Nat.le_refl _) _).drew) (fail)
              all_goals (
                have hB3 : Below W1.heap.size W1 ((W1.alloc (.cells #[.int .i32 y3.1, .int .i32 y3.2] 112)).drew) := ((Below.refl _ _).alloc (Nat.le_refl _) _).drew
                obtain ⟨W3, hW3⟩ : ∃ W3, (W1.alloc (.cells #[.int .i32 y3.1, .int .i32 y3.2] 112)).drew = W3 := ⟨_, rfl⟩
                rw [hW3] at hB3 ⊢
                have HB3 := Lib.hid (below_trans HB1.out hB3)
                have hs3 := Hr.out.step HB3.out
                obtain ⟨-, -, -, -, -, -, -, -, d8⟩ := chk_facts hs3.chk
                obtain ⟨-, -, q10, -, -⟩ := hs3.books
                have HX0' := Lib.hid (HX0.out.below hB3)
                have HX1' := Lib.hid (HX1.out.below hB3)
                have u0 : W3.cell? ⟨wr.heap.size + 1, 0, none⟩ = some (.int .i32 m.base) := HX1'.out.cell 0
                have u1 : W3.cell? ⟨wr.heap.size + 1, 1, none⟩ = some (.int .i32 m.mark) := HX1'.out.cell 1
                have l3 := fun q => HL2.out _ (Below.drwN HB3.out q)
                clear hW3 hB3 hs3 HSf
                cases y1 with
                | true =>
                  have H0 : Hid (twP T k m = 14) := Lib.hid (by rw [HF.out, if_pos (.inl rfl)])
                  go_wp2_with (go_at_call 53; refine (tab_wrong _ _ _ _).mono ?_; rintro e w9 ⟨rfl, hb9⟩; have h9 := (Hr.out.step HB3.out).step hb9; obtain ⟨r1, r2, r3, f1, f2, f3⟩ := h9.resF; have H9 := Lib.hid h9; clear h9)
                  have hval : twiceW T = some (14, 4, (k : Int)) := by unfold twiceW; rw [HN0.out, HN1.out, Hno.out.found Hm.out (by rw [H0.out]; decide) 4, H0.out]; first | done | rfl
                  obtain ⟨hB, hW1, hW2, hW3, hMs⟩ := (H9.out).retF HSZ.out (.int .i64 14) (.int .i64 4) (.int .i64 (k : Int))
                  obtain ⟨s1, s2, s3, -, -, -⟩ := wrong_facts hB
                  refine bodyPost_ret (v := .agg #[.int .i64 14, .int .i64 4, .int .i64 (k : Int)]) ?_ rfl ⟨?_, hW1, hW2, hW3, fun h => absurd h (by rw [hval]; simp)⟩
                  · simp [results, Tryz.results24, go_sem, s1, s2, s3]
                  · rw [hval]; rfl
                | false =>
                  cases y2 with
                  | true =>
                    have H0 : Hid (twP T k m = 14) := Lib.hid (by rw [HF.out, if_pos (.inr rfl)])
                    go_wp2_with fail
                    go_quiet (fail)
                    go_wp2_with (go_at_call 53; refine (tab_wrong _ _ _ _).mono ?_; rintro e w9 ⟨rfl, hb9⟩; have h9 := (Hr.out.step (Below.drwN HB3.out nq)).step hb9; obtain ⟨r1, r2, r3, f1, f2, f3⟩ := h9.resF; have H9 := Lib.hid h9; clear h9)
                    have hval : twiceW T = some (14, 4, (k : Int)) := by unfold twiceW; rw [HN0.out, HN1.out, Hno.out.found Hm.out (by rw [H0.out]; decide) 4, H0.out]; first | done | rfl
                    obtain ⟨hB, hW1, hW2, hW3, hMs⟩ := (H9.out).retF HSZ.out (.int .i64 14) (.int .i64 4) (.int .i64 (k : Int))
                    obtain ⟨s1, s2, s3, -, -, -⟩ := wrong_facts hB
                    refine bodyPost_ret (v := .agg #[.int .i64 14, .int .i64 4, .int .i64 (k : Int)]) ?_ rfl ⟨?_, hW1, hW2, hW3, fun h => absurd h (by rw [hval]; simp)⟩
                    · simp [results, Tryz.results24, go_sem, s1, s2, s3]
                    · rw [hval]; rfl
                  | false =>
                    have H0 : Hid (twP T k m = 0) := Lib.hid (by rw [HF.out, if_neg (by simp)])
                    have ha2 := HA2.out
                    rw [HY1.out] at ha2
                    have ha3 := HA3.out
                    rw [HY2.out] at ha3
                    have Hn2 := Lib.hid (HN2.out ha2.symm)
                    have Hn3 := Lib.hid (HN3.out ha3.symm)
                    have Hu2 := Lib.hid (HU2.out ha2.symm)
                    have Hu3 := Lib.hid (HU3.out ha3.symm)
                    clear ha2 ha3
                    go_wp2_with fail
                    go_quiet (fail)
                    go_wp2_with fail
                    have hr5 := Hr.out.step (Below.drwN HB3.out (nq + 1))
                    obtain ⟨-, -, -, -, -, -, -, -, z8⟩ := chk_facts hr5.chk
                    obtain ⟨-, zq9, zq10, -, -⟩ := hr5.books
                    have hD5 : Below W3.heap.size W3 (W3.drewN (nq + 1)) := Below.drwN (Below.refl _ _) (nq + 1)
                    have z0 : (W3.drewN (nq + 1)).cell? ⟨wr.heap.size, 0, none⟩ = some (.int .i32 m.whole) := (HX0'.out.below hD5).cell 0
                    have z1 : (W3.drewN (nq + 1)).cell? ⟨wr.heap.size + 1, 0, none⟩ = some (.int .i32 m.base) := (HX1'.out.below hD5).cell 0
                    have z2 : (W3.drewN (nq + 1)).cell? ⟨wr.heap.size + 1, 1, none⟩ = some (.int .i32 m.mark) := (HX1'.out.below hD5).cell 1
                    obtain ⟨s1, s2, Wa, Wb, Wc, Wd, r1, r2, r3, r4, hcl, hos⟩ := hr5.put23 HD.out (by omega) (by omega) HI.out.1 HI.out.2.1 HI.out.2.2 Hn2.out Hn3.out
                    have Hos := Lib.hid hos
                    have sa : (fun w' : World => w'.cell? ⟨c, 8, none⟩ = some (.pointer (some ⟨b, 0, none⟩)) ∧ w'.cell? ⟨b, 9, none⟩ = some (.map (some m2)) ∧ w'.cell? ⟨b, 10, none⟩ = some (.map (some m3)) ∧ w'.cell? ⟨wr.heap.size, 0, none⟩ = some (.int .i32 m.whole) ∧ w'.cell? ⟨wr.heap.size + 1, 0, none⟩ = some (.int .i32 m.base) ∧ w'.cell? ⟨wr.heap.size + 1, 1, none⟩ = some (.int .i32 m.mark)) (W3.drewN (nq + 1)) := ⟨z8, zq9, zq10, z0, z1, z2⟩
                    have sWa : (fun w' : World => w'.cell? ⟨c, 8, none⟩ = some (.pointer (some ⟨b, 0, none⟩)) ∧ w'.cell? ⟨b, 9, none⟩ = some (.map (some m2)) ∧ w'.cell? ⟨b, 10, none⟩ = some (.map (some m3)) ∧ w'.cell? ⟨wr.heap.size, 0, none⟩ = some (.int .i32 m.whole) ∧ w'.cell? ⟨wr.heap.size + 1, 0, none⟩ = some (.int .i32 m.base) ∧ w'.cell? ⟨wr.heap.size + 1, 1, none⟩ = some (.int .i32 m.mark)) Wa := ⟨(hcl _ _ z8).1, (hcl _ _ zq9).1, (hcl _ _ zq10).1, (hcl _ _ z0).1, (hcl _ _ z1).1, (hcl _ _ z2).1⟩
                    have sWb : (fun w' : World => w'.cell? ⟨c, 8, none⟩ = some (.pointer (some ⟨b, 0, none⟩)) ∧ w'.cell? ⟨b, 9, none⟩ = some (.map (some m2)) ∧ w'.cell? ⟨b, 10, none⟩ = some (.map (some m3)) ∧ w'.cell? ⟨wr.heap.size, 0, none⟩ = some (.int .i32 m.whole) ∧ w'.cell? ⟨wr.heap.size + 1, 0, none⟩ = some (.int .i32 m.base) ∧ w'.cell? ⟨wr.heap.size + 1, 1, none⟩ = some (.int .i32 m.mark)) Wb := ⟨(hcl _ _ z8).2.1, (hcl _ _ zq9).2.1, (hcl _ _ zq10).2.1, (hcl _ _ z0).2.1, (hcl _ _ z1).2.1, (hcl _ _ z2).2.1⟩
                    have sWc : (fun w' : World => w'.cell? ⟨c, 8, none⟩ = some (.pointer (some ⟨b, 0, none⟩)) ∧ w'.cell? ⟨b, 9, none⟩ = some (.map (some m2)) ∧ w'.cell? ⟨b, 10, none⟩ = some (.map (some m3)) ∧ w'.cell? ⟨wr.heap.size, 0, none⟩ = some (.int .i32 m.whole) ∧ w'.cell? ⟨wr.heap.size + 1, 0, none⟩ = some (.int .i32 m.base) ∧ w'.cell? ⟨wr.heap.size + 1, 1, none⟩ = some (.int .i32 m.mark)) Wc := ⟨(hcl _ _ z8).2.2.1, (hcl _ _ zq9).2.2.1, (hcl _ _ zq10).2.2.1, (hcl _ _ z0).2.2.1, (hcl _ _ z1).2.2.1, (hcl _ _ z2).2.2.1⟩
                    have sWd : (fun w' : World => w'.cell? ⟨c, 8, none⟩ = some (.pointer (some ⟨b, 0, none⟩)) ∧ w'.cell? ⟨b, 9, none⟩ = some (.map (some m2)) ∧ w'.cell? ⟨b, 10, none⟩ = some (.map (some m3)) ∧ w'.cell? ⟨wr.heap.size, 0, none⟩ = some (.int .i32 m.whole) ∧ w'.cell? ⟨wr.heap.size + 1, 0, none⟩ = some (.int .i32 m.base) ∧ w'.cell? ⟨wr.heap.size + 1, 1, none⟩ = some (.int .i32 m.mark)) Wd := ⟨(hcl _ _ z8).2.2.2, (hcl _ _ zq9).2.2.2, (hcl _ _ zq10).2.2.2, (hcl _ _ z0).2.2.2, (hcl _ _ z1).2.2.2, (hcl _ _ z2).2.2.2⟩
                    dsimp only at sa sWa sWb sWc sWd
                    clear hos hcl hr5 hD5 z8 zq9 zq10 z0 z1 z2 l3 d8 q10 u0 u1
                    go_region_held3 (fun w' => w'.cell? ⟨c, 8, none⟩ = some (.pointer (some ⟨b, 0, none⟩)) ∧ w'.cell? ⟨b, 9, none⟩ = some (.map (some m2)) ∧ w'.cell? ⟨b, 10, none⟩ = some (.map (some m3)) ∧ w'.cell? ⟨wr.heap.size, 0, none⟩ = some (.int .i32 m.whole) ∧ w'.cell? ⟨wr.heap.size + 1, 0, none⟩ = some (.int .i32 m.base) ∧ w'.cell? ⟨wr.heap.size + 1, 1, none⟩ = some (.int .i32 m.mark)) (first | exact sa | exact sWa | exact sWb | exact sWc | exact sWd) (fail)
                    all_goals (
                      go_wp2_with fail
                      go_roundw
                      case rel => exact ⟨k + 1, N + 2, by omega, by go_num, Hno.out.succ Hm.out H0.out, by omega, by have h := Hos.out; rw [Hu2.out, Hu3.out] at h; exact h⟩
                      case measure => simp [intOf]; omega))
            · have hkn : n3 = k := by omega
              subst hkn
              have HN2 : Hid (scan (twP T) 4 0 T.pairs = none) := Lib.hid (NoneTo.all (by rw [HLn3.out]; exact Hno.out) 4)
              obtain ⟨d0, d1, d2, d3, d4, d5, d6, d7, d8⟩ := chk_facts Hr.out.chk
              clear Hno hno
              have hNc := hN
              have Hr0 := Hr
              clear hN Hr hrs
              obtain ⟨q8, q9, q10, q11, q12⟩ := Hr0.out.books
              go_wp2_with fail
              obtain ⟨wr, hwr⟩ : ∃ x, wr = x := ⟨_, rfl⟩
              subst hwr
              go_region_held3 (fun w' => w'.cell? ⟨c, 8, none⟩ = some (.pointer (some ⟨b, 0, none⟩)) ∧ w'.cell? ⟨b, 11, none⟩ = some (.map (some m4)) ∧ w'.cell? ⟨b, 12, none⟩ = some (.map (some m5))) (go_keep) (fail)
              have hBd : Below wr.heap.size wr ((wr.alloc (.cells #[.map (some m4), .map (some m5)] 64)).drew) := ((Below.refl _ wr).alloc (Nat.le_refl _) _).drew
              have hg2 : Blk ((wr.alloc (.cells #[.map (some m4), .map (some m5)] 64)).drew) wr.heap.size 64 #[.map (some m4), .map (some m5)] := (Blk.new wr _ _).of rfl
              have hr2 := Hr0.out.step hBd
              obtain ⟨g9, hge⟩ : ∃ g, wr.heap.size = g := ⟨_, rfl⟩
              rw [hge] at hg2
              simp only [hge]
              obtain ⟨W2, hW2⟩ : ∃ W2, (wr.alloc (.cells #[.map (some m4), .map (some m5)] 64)).drew = W2 := ⟨_, rfl⟩
              rw [hW2] at hr2 hg2 ⊢
              have Hr2 := Lib.hid hr2
              have Hg2 := Lib.hid (And.intro (hg2.cell 0) (hg2.cell 1))
              clear hW2 hge hBd hr2 hg2 Hr0 d0 d1 d2 d3 d4 d5 d6 d7 d8 q8 q9 q10 q11 q12
              go_wp2_with fail
              go_loopw [167] (fun i wr => ∃ (k : Int) (N : Nat) (G4 G5 : Int → Option ByteArray), (k = 0 ∨ k = 1 ∨ k = 2) ∧ i = .int .i64 k ∧ N ≤ n0 + n2 + 2 * n3 + n4 + n5 ∧ Hid ((k = 0 → G4 = (fun _ => none) ∧ G5 = (fun _ => none) ∧ N ≤ n0 + n2 + 2 * n3) ∧ (k = 1 → G4 = f4 T.folds n4 ∧ G5 = (fun _ => none) ∧ N ≤ n0 + n2 + 2 * n3 + n4) ∧ (k = 2 → G4 = f4 T.folds n4 ∧ G5 = f4 T.looks n5) ∧ (1 ≤ k → scan (twF T.folds) 5 0 T.folds = none) ∧ (2 ≤ k → scan (twF T.looks) 6 0 T.looks = none)) ∧ OS w0 w c b m1 m2 m3 m4 m5 (w.heap.size + 1) (.slice A0 n0 c0) (.slice A1 n1 c1) (.slice A2 n2 c2) (.slice A3 n3 c3) (.slice A4 n4 c4) (.slice A5 n5 c5) (.slice A6 n6 c6) (.slice A7 n7 c7) t0 t1 t2 t3 t4 t5 t6 t7 N (f1 T n2) (f2 T n3) (f3 T n3) G4 G5 (f0 T n0) wr ∧ wr.cell? ⟨g9, 0, none⟩ = some (.map (some m4)) ∧ wr.cell? ⟨g9, 1, none⟩ = some (.map (some m5))) (fun i _ => 2 - (intOf i).toNat)
              case atStart => exact ⟨0, _, _, _, by omega, rfl, by omega, Lib.hid ⟨fun _ => ⟨rfl, rfl, hNc⟩, by omega, by omega, by omega, by omega⟩, Hr2.out, Hg2.out⟩
              case round =>
                clear Hr2 Hg2
                obtain ⟨kk, Nq, G4, G5, hkc, rfl, hNd, hinv, hrs, hc0, hc1⟩ := hrel
                rcases hkc with rfl | rfl | rfl
                · obtain ⟨rfl, rfl, hNe⟩ := hinv.out.1 rfl
                  have Hr := Lib.hid hrs
                  obtain ⟨d0, d1, d2, d3, d4, d5, d6, d7, d8⟩ := chk_facts hrs.chk
                  have Hc := Lib.hid (And.intro hc0 hc1)
                  clear hrs
                  go_wp2_with fail
                  go_region
                  all_goals (
                    have hBd : Below wr.heap.size wr ((wr.alloc (.cells #[.slice A4 n4 c4, .slice A5 n5 c5] 26)).drew) := ((Below.refl _ wr).alloc (Nat.le_refl _) _).drew
                    obtain ⟨W2, hW2⟩ : ∃ W2, (wr.alloc (.cells #[.slice A4 n4 c4, .slice A5 n5 c5] 26)).drew = W2 := ⟨_, rfl⟩
                    rw [hW2] at hBd ⊢
                    have Hr2 := Lib.hid (Hr.out.step hBd)
                    have Hc2 := Lib.hid (And.intro ((hBd.cell (p := ⟨g9, 0, none⟩) (World.block_lt_of_cell? wr _ hc0)).trans hc0) ((hBd.cell (p := ⟨g9, 1, none⟩) (World.block_lt_of_cell? wr _ hc1)).trans hc1))
                    clear hW2 hBd Hr Hc hc0 hc1 d0 d1 d2 d3 d4 d5 d6 d7 d8
                    go_wp2_with fail
                    go_loopw [187] (fun i wr => ∃ k N : Nat, k ≤ n4 ∧ i = .int .i64 (k : Int) ∧ NoneTo (twF T.folds) T.folds k ∧ N ≤ n0 + n2 + 2 * n3 + k ∧ OS w0 w c b m1 m2 m3 m4 m5 (w.heap.size + 1) (.slice A0 n0 c0) (.slice A1 n1 c1) (.slice A2 n2 c2) (.slice A3 n3 c3) (.slice A4 n4 c4) (.slice A5 n5 c5) (.slice A6 n6 c6) (.slice A7 n7 c7) t0 t1 t2 t3 t4 t5 t6 t7 N (f1 T n2) (f2 T n3) (f3 T n3) (f4 T.folds k) (fun _ => none) (f0 T n0) wr ∧ wr.cell? ⟨g9, 0, none⟩ = some (.map (some m4)) ∧ wr.cell? ⟨g9, 1, none⟩ = some (.map (some m5))) (fun i _ => n4 - (intOf i).toNat)
                    case atStart => exact ⟨0, _, Nat.zero_le _, rfl, NoneTo.zero _ _, by omega, by rw [show f4 T.folds 0 = fun _ => none from fnd_zero]; exact Hr2.out, Hc2.out⟩
                    case round =>
                      clear Hr2 Hc2
                      obtain ⟨k, N, hk, rfl, hno, hN, hrs, hc0, hc1⟩ := hrel
                      have Hno := Lib.hid hno
                      have Hr := Lib.hid hrs
                      by_cases hlt : k < n4
                      · obtain ⟨m, hm⟩ : ∃ m, T.folds[k]? = some m := ⟨_, List.getElem?_eq_getElem (by rw [HLn4.out]; exact hlt)⟩
                        obtain ⟨a, rfl, e0, e1⟩ := el2 HT.out.folds hrs.below0 hm rfl
                        have Hm := Lib.hid hm
                        have k0 : (0 : Int) ≤ (k : Int) := by omega
                        have k1 : (k : Int) < (n4 : Int) := by omega
                        have HE := Lib.hid ((Below.refl _ wr).alloc (Nat.le_refl _) (.cells #[.int .i32 m.frm, .string m.to] 79))
                        have Hx := Lib.hid (Blk.new wr 79 #[.int .i32 m.frm, .string m.to])
                        have i1 := (HO.out.folds m (List.mem_of_getElem? hm)).1
                        have hr1 := hrs.step HE.out
                        have l1 := hr1.ms.look_fl i1
                        dsimp only at l1
                        have ey : (f4 T.folds k m.frm).isSome = (T.folds.take k).any fun x => decide (x.frm = m.frm) := fnd_isSome
                        rw [ey] at l1
                        generalize (f4 T.folds k m.frm).getD ⟨#[]⟩ = y9 at l1
                        have hq0 := (HE.out.cell (p := ⟨g9, 0, none⟩) (World.block_lt_of_cell? wr _ hc0)).trans hc0
                        have hq1 := (HE.out.cell (p := ⟨g9, 1, none⟩) (World.block_lt_of_cell? wr _ hc1)).trans hc1
                        have Hp := Lib.hid (hr1.put4 HD.out (by omega) (by omega) i1 m.to)
                        have Hq := Lib.hid (And.intro hq0 hq1)
                        clear hno hrs hm hr1 ey i1 hq0 hq1 hc0 hc1
                        cases hy : (T.folds.take k).any fun x => decide (x.frm = m.frm) with
                        | true =>
                          rw [hy] at l1
                          have H0 : Hid (twF T.folds k m = 14) := Lib.hid (by unfold twF; rw [if_pos hy])
                          go_wp2_with (go_at_call 53; refine (tab_wrong _ _ _ _).mono ?_; rintro e w9 ⟨rfl, hb9⟩; have h9 := (Hr.out.step HE.out).step hb9; obtain ⟨r1, r2, r3, f1, f2, f3⟩ := h9.resF; have H9 := Lib.hid h9; clear h9)
                          have hval : twiceW T = some (14, 5, (k : Int)) := by unfold twiceW; rw [HN0.out, HN1.out, HN2.out, Hno.out.found Hm.out (by rw [H0.out]; decide) 5, H0.out]; first | done | rfl
                          obtain ⟨hB, hW1, hW2, hW3, hMs⟩ := (H9.out).retF HSZ.out (.int .i64 14) (.int .i64 5) (.int .i64 (k : Int))
                          obtain ⟨s1, s2, s3, -, -, -⟩ := wrong_facts hB
                          refine bodyPost_ret (v := .agg #[.int .i64 14, .int .i64 5, .int .i64 (k : Int)]) ?_ rfl ⟨?_, hW1, hW2, hW3, fun h => absurd h (by rw [hval]; simp)⟩
                          · simp [results, Tryz.results24, go_sem, s1, s2, s3]
                          · rw [hval]; rfl
                        | false =>
                          rw [hy] at l1
                          have H0 : Hid (twF T.folds k m = 0) := Lib.hid (by unfold twF; rw [if_neg (by rw [hy]; simp)])
                          obtain ⟨w2, hrun, hcl, hos⟩ := Hp.out
                          have Hos := Lib.hid hos
                          have Hup := Lib.hid (fnd_upd (val := fun y : MapT => y.to) (key := fun y : MapT => y.frm) Hm.out hy)
                          have Hq2 := Lib.hid (And.intro (hcl _ _ Hq.out.1) (hcl _ _ Hq.out.2))
                          clear hcl hos Hp hy
                          go_wp2_with fail
                          go_roundw
                          case rel => exact ⟨k + 1, N + 1, by omega, by go_num, Hno.out.succ Hm.out H0.out, by omega, by have h := Hos.out; rw [Hup.out] at h; exact h, Hq2.out⟩
                          case measure => simp [intOf]; omega
                      · have hkn : n4 = k := by omega
                        subst hkn
                        have HN3 : Hid (scan (twF T.folds) 5 0 T.folds = none) := Lib.hid (NoneTo.all (by rw [HLn4.out]; exact Hno.out) 5)
                        obtain ⟨d0, d1, d2, d3, d4, d5, d6, d7, d8⟩ := chk_facts Hr.out.chk
                        clear Hno hno
                        clear hrs
                        go_wp2_with fail
                        go_roundw
                        case rel => exact ⟨1, _, _, _, by omega, by go_num, by omega, Lib.hid ⟨by omega, fun _ => ⟨rfl, rfl, hN⟩, by omega, fun _ => HN3.out, by omega⟩, Hr.out, hc0, hc1⟩
                        case measure => simp [intOf])
                · obtain ⟨rfl, rfl, hNe⟩ := hinv.out.2.1 rfl
                  have Hr := Lib.hid hrs
                  obtain ⟨d0, d1, d2, d3, d4, d5, d6, d7, d8⟩ := chk_facts hrs.chk
                  have Hc := Lib.hid (And.intro hc0 hc1)
                  clear hrs
                  go_wp2_with fail
                  go_region
                  all_goals (
                    have hBd : Below wr.heap.size wr ((wr.alloc (.cells #[.slice A4 n4 c4, .slice A5 n5 c5] 26)).drew) := ((Below.refl _ wr).alloc (Nat.le_refl _) _).drew
                    obtain ⟨W2, hW2⟩ : ∃ W2, (wr.alloc (.cells #[.slice A4 n4 c4, .slice A5 n5 c5] 26)).drew = W2 := ⟨_, rfl⟩
                    rw [hW2] at hBd ⊢
                    have Hr2 := Lib.hid (Hr.out.step hBd)
                    have Hc2 := Lib.hid (And.intro ((hBd.cell (p := ⟨g9, 0, none⟩) (World.block_lt_of_cell? wr _ hc0)).trans hc0) ((hBd.cell (p := ⟨g9, 1, none⟩) (World.block_lt_of_cell? wr _ hc1)).trans hc1))
                    clear hW2 hBd Hr Hc hc0 hc1 d0 d1 d2 d3 d4 d5 d6 d7 d8
                    go_wp2_with fail
                    go_loopw [187] (fun i wr => ∃ k N : Nat, k ≤ n5 ∧ i = .int .i64 (k : Int) ∧ NoneTo (twF T.looks) T.looks k ∧ N ≤ n0 + n2 + 2 * n3 + n4 + k ∧ OS w0 w c b m1 m2 m3 m4 m5 (w.heap.size + 1) (.slice A0 n0 c0) (.slice A1 n1 c1) (.slice A2 n2 c2) (.slice A3 n3 c3) (.slice A4 n4 c4) (.slice A5 n5 c5) (.slice A6 n6 c6) (.slice A7 n7 c7) t0 t1 t2 t3 t4 t5 t6 t7 N (f1 T n2) (f2 T n3) (f3 T n3) (f4 T.folds n4) (f4 T.looks k) (f0 T n0) wr ∧ wr.cell? ⟨g9, 0, none⟩ = some (.map (some m4)) ∧ wr.cell? ⟨g9, 1, none⟩ = some (.map (some m5))) (fun i _ => n5 - (intOf i).toNat)
                    case atStart => exact ⟨0, _, Nat.zero_le _, rfl, NoneTo.zero _ _, by omega, by rw [show f4 T.looks 0 = fun _ => none from fnd_zero]; exact Hr2.out, Hc2.out⟩
                    case round =>
                      clear Hr2 Hc2
                      obtain ⟨k, N, hk, rfl, hno, hN, hrs, hc0, hc1⟩ := hrel
                      have Hno := Lib.hid hno
                      have Hr := Lib.hid hrs
                      by_cases hlt : k < n5
                      · obtain ⟨m, hm⟩ : ∃ m, T.looks[k]? = some m := ⟨_, List.getElem?_eq_getElem (by rw [HLn5.out]; exact hlt)⟩
                        obtain ⟨a, rfl, e0, e1⟩ := el2 HT.out.looks hrs.below0 hm rfl
                        have Hm := Lib.hid hm
                        have k0 : (0 : Int) ≤ (k : Int) := by omega
                        have k1 : (k : Int) < (n5 : Int) := by omega
                        have HE := Lib.hid ((Below.refl _ wr).alloc (Nat.le_refl _) (.cells #[.int .i32 m.frm, .string m.to] 79))
                        have Hx := Lib.hid (Blk.new wr 79 #[.int .i32 m.frm, .string m.to])
                        have i1 := (HO.out.looks m (List.mem_of_getElem? hm)).1
                        have hr1 := hrs.step HE.out
                        have l1 := hr1.ms.look_lk i1
                        dsimp only at l1
                        have ey : (f4 T.looks k m.frm).isSome = (T.looks.take k).any fun x => decide (x.frm = m.frm) := fnd_isSome
                        rw [ey] at l1
                        generalize (f4 T.looks k m.frm).getD ⟨#[]⟩ = y9 at l1
                        have hq0 := (HE.out.cell (p := ⟨g9, 0, none⟩) (World.block_lt_of_cell? wr _ hc0)).trans hc0
                        have hq1 := (HE.out.cell (p := ⟨g9, 1, none⟩) (World.block_lt_of_cell? wr _ hc1)).trans hc1
                        have Hp := Lib.hid (hr1.put5 HD.out (by omega) (by omega) i1 m.to)
                        have Hq := Lib.hid (And.intro hq0 hq1)
                        clear hno hrs hm hr1 ey i1 hq0 hq1 hc0 hc1
                        cases hy : (T.looks.take k).any fun x => decide (x.frm = m.frm) with
                        | true =>
                          rw [hy] at l1
                          have H0 : Hid (twF T.looks k m = 14) := Lib.hid (by unfold twF; rw [if_pos hy])
                          go_wp2_with (go_at_call 53; refine (tab_wrong _ _ _ _).mono ?_; rintro e w9 ⟨rfl, hb9⟩; have h9 := (Hr.out.step HE.out).step hb9; obtain ⟨r1, r2, r3, f1, f2, f3⟩ := h9.resF; have H9 := Lib.hid h9; clear h9)
                          have hval : twiceW T = some (14, 6, (k : Int)) := by unfold twiceW; rw [HN0.out, HN1.out, HN2.out, show scan (twF T.folds) 5 0 T.folds = none from hinv.out.2.2.2.1 (by omega), Hno.out.found Hm.out (by rw [H0.out]; decide) 6, H0.out]; first | done | rfl
                          obtain ⟨hB, hW1, hW2, hW3, hMs⟩ := (H9.out).retF HSZ.out (.int .i64 14) (.int .i64 6) (.int .i64 (k : Int))
                          obtain ⟨s1, s2, s3, -, -, -⟩ := wrong_facts hB
                          refine bodyPost_ret (v := .agg #[.int .i64 14, .int .i64 6, .int .i64 (k : Int)]) ?_ rfl ⟨?_, hW1, hW2, hW3, fun h => absurd h (by rw [hval]; simp)⟩
                          · simp [results, Tryz.results24, go_sem, s1, s2, s3]
                          · rw [hval]; rfl
                        | false =>
                          rw [hy] at l1
                          have H0 : Hid (twF T.looks k m = 0) := Lib.hid (by unfold twF; rw [if_neg (by rw [hy]; simp)])
                          obtain ⟨w2, hrun, hcl, hos⟩ := Hp.out
                          have Hos := Lib.hid hos
                          have Hup := Lib.hid (fnd_upd (val := fun y : MapT => y.to) (key := fun y : MapT => y.frm) Hm.out hy)
                          have Hq2 := Lib.hid (And.intro (hcl _ _ Hq.out.1) (hcl _ _ Hq.out.2))
                          clear hcl hos Hp hy
                          go_wp2_with fail
                          go_roundw
                          case rel => exact ⟨k + 1, N + 1, by omega, by go_num, Hno.out.succ Hm.out H0.out, by omega, by have h := Hos.out; rw [Hup.out] at h; exact h, Hq2.out⟩
                          case measure => simp [intOf]; omega
                      · have hkn : n5 = k := by omega
                        subst hkn
                        have HN4 : Hid (scan (twF T.looks) 6 0 T.looks = none) := Lib.hid (NoneTo.all (by rw [HLn5.out]; exact Hno.out) 6)
                        obtain ⟨d0, d1, d2, d3, d4, d5, d6, d7, d8⟩ := chk_facts Hr.out.chk
                        clear Hno hno
                        clear hrs
                        go_wp2_with fail
                        go_roundw
                        case rel => exact ⟨2, _, _, _, by omega, by go_num, by omega, Lib.hid ⟨by omega, by omega, fun _ => ⟨rfl, rfl⟩, fun _ => hinv.out.2.2.2.1 (by omega), fun _ => HN4.out⟩, Hr.out, hc0, hc1⟩
                        case measure => simp [intOf])
                · obtain ⟨rfl, rfl⟩ := hinv.out.2.2.1 rfl
                  have Hr := Lib.hid hrs
                  clear hrs hc0 hc1
                  obtain ⟨r1, r2, r3, f1, f2, f3⟩ := (Hr.out).resF
                  go_wp2_with fail
                  have hval : twiceW T = none := by unfold twiceW; rw [HN0.out, HN1.out, HN2.out, show scan (twF T.folds) 5 0 T.folds = none from hinv.out.2.2.2.1 (by omega), show scan (twF T.looks) 6 0 T.looks = none from hinv.out.2.2.2.2 (by omega)]; first | done | rfl
                  obtain ⟨hB, hW1, hW2, hW3, hMs⟩ := (Hr.out).retF HSZ.out (.int .i64 0) (.int .i64 0) (.int .i64 0)
                  obtain ⟨s1, s2, s3, -, -, -⟩ := wrong_facts hB
                  refine bodyPost_ret (v := .agg #[.int .i64 0, .int .i64 0, .int .i64 0]) ?_ rfl ⟨?_, hW1, hW2, hW3, fun _ => ?_⟩
                  · simp [results, Tryz.results24, go_sem, s1, s2, s3]
                  · rw [hval]; rfl
                  · rw [mapsOf_eq HLn2.out HLn3.out HLn4.out HLn5.out]; exact hMs

end Go.Proofs.YtjmkdimbbacnfaaGreatDoor
