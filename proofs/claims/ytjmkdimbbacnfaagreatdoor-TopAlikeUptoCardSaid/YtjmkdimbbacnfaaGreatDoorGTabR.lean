/- tables.check: drops. (Printed by gen_cdrops.py.) -/
import Derived.Test.YtjmkdimbbacnfaaGreatDoorGTabI
import Derived.Deep.RegionHeld3
namespace Go.Proofs.YtjmkdimbbacnfaaGreatDoor
open Go.RowKit
set_option linter.unusedVariables false
/-- the closure 'gone': does one of some runes lie in the table's drops -/
theorem chk_gone {w : World} {v0 v1 v2 v3 v4 v5 v6 v7 : Value} {c b bx n cp : Nat} {a : Addr} (rs : List Int) (hn : rs.length = n) (hc : Blk w c 68 #[v0, v1, v2, v3, v4, v5, v6, v7, .pointer (some ⟨b, 0, none⟩)]) (hbx : Blk w bx 60 #[.pointer (some ⟨c, 0, none⟩)])
    (l : List SpanT) (hL : ListAt w v6 2 (l.map encSpan)) (hI : InOrder l) (ha : a.block < w.heap.size) (hr : ∀ (j : Nat) x, rs[j]? = some x → w.cell? (a.add j) = some (.int .i32 x)) (hm : n ≤ 1000) :
    Calls Tryz.prog 59 #[.slice (some a) n cp, .pointer (some ⟨bx, 0, none⟩)] w fun e w' => e = .returned (.bool (rs.any fun r => ofL r l)) ∧ Below w.heap.size w w' := by
  have Hr := Lib.hid hr
  have Hn := Lib.hid hn
  have HC := Lib.hid hc
  have HX := Lib.hid hbx
  have HL := Lib.hid hL
  have HI := Lib.hid hI
  clear hr hn hc hbx hL hI
  go_enter Tryz.func59, Tryz.ntmps59
  go_wp2_with fail
  go_loopw [8] (fun i wr => ∃ k : Nat, k ≤ n ∧ i = .int .i64 (k : Int) ∧ (rs.take k).any (fun r => ofL r l) = false ∧ Below w.heap.size w wr) (fun i _ => n - (intOf i).toNat)
  case atStart => exact ⟨0, Nat.zero_le _, rfl, by simp, Below.refl _ _⟩
  case round =>
    obtain ⟨k, hk, rfl, hany, hb⟩ := hrel
    have Hany := Lib.hid hany
    have Hb := Lib.hid hb
    by_cases hlt : k < n
    · obtain ⟨x, hx⟩ : ∃ x, rs[k]? = some x := ⟨_, List.getElem?_eq_getElem (by rw [Hn.out]; exact hlt)⟩
      have e0 := (hb.cell (p := a.add k) (by rw [addr_block']; exact ha)).trans (Hr.out k x hx)
      have k0 : (0 : Int) ≤ (k : Int) := by omega
      have k1 : (k : Int) < (n : Int) := by omega
      have q0 : wr.cell? ⟨bx, 0, none⟩ = some (.pointer (some ⟨c, 0, none⟩)) := (HX.out.below hb).cell 0
      have q6 : wr.cell? ⟨c, 6, none⟩ = some v6 := (HC.out.below hb).cell 6
      have HO := Lib.hid (fun z (hz : ofL x l = z) => (tab_of l (HL.out.below hb) HI.out x).mono (R' := fun e w' => e = .returned (.bool z) ∧ Below wr.heap.size wr w') (fun e w' h => ⟨by rw [← hz]; exact h.1, h.2⟩))
      have Hs := Lib.hid (any_take_succ rs (fun r => ofL r l) k x hx)
      have Hy : Hid (ofL x l = true → rs.any (fun r => ofL r l) = true) := Lib.hid (fun h => any_of_get hx h)
      clear hany hb hx
      cases hz : ofL x l with
      | true =>
        go_wp2_with (go_at_call 60; refine (HO.out _ (by assumption)).mono ?_; rintro e w2 ⟨rfl, hb2⟩)
        go_ret
        exact ⟨by rw [Hy.out hz]; rfl, below_trans Hb.out hb2⟩
      | false =>
        go_wp2_with (go_at_call 60; refine (HO.out _ (by assumption)).mono ?_; rintro e w2 ⟨rfl, hb2⟩)
        go_roundw
        case rel => exact ⟨k + 1, by omega, by go_num, by rw [Hs.out, Hany.out, hz]; rfl, below_trans Hb.out hb2⟩
        case measure => simp [intOf]; omega
    · obtain rfl : k = n := by omega
      go_wp2_with fail
      go_ret
      exact ⟨by rw [take_all Hany.out Hn.out]; rfl, Hb.out⟩

/-- the receiver's box, the result's cell -/
structure DS (w : World) (c : Nat) (wr : World) : Prop where
  below : Below w.heap.size w wr
  box : Blk wr w.heap.size 60 #[.pointer (some ⟨c, 0, none⟩)]
  res : Blk wr (w.heap.size + 1) 40 #[.int .i64 0, .int .i64 0, .int .i64 0]
section
variable {w wr w2 : World} {c : Nat}
theorem DS.start (w : World) (c : Nat) : DS w c ((w.alloc (.cells #[.pointer (some ⟨c, 0, none⟩)] 60)).alloc (.cells #[.int .i64 0, .int .i64 0, .int .i64 0] 40)) :=
  ⟨((Below.refl _ w).alloc (Nat.le_refl _) _).alloc (by simp) _, (Blk.new w _ _).alloc _, by
    have h := Blk.new (w.alloc (.cells #[.pointer (some ⟨c, 0, none⟩)] 60)) 40 #[.int .i64 0, .int .i64 0, .int .i64 0]
    simp only [World.size_alloc] at h
    exact h⟩
theorem DS.step (h : DS w c wr) (hb : Below wr.heap.size wr w2) : DS w c w2 := ⟨below_trans h.below hb, h.box.below hb, h.res.below hb⟩
theorem DS.resF (h : DS w c wr) : wr.cell? ⟨w.heap.size + 1, 0, none⟩ = some (.int .i64 0) ∧ wr.cell? ⟨w.heap.size + 1, 1, none⟩ = some (.int .i64 0) ∧ wr.cell? ⟨w.heap.size + 1, 2, none⟩ = some (.int .i64 0) ∧ wr.frozen? ⟨w.heap.size + 1, 0, none⟩ = false ∧ wr.frozen? ⟨w.heap.size + 1, 1, none⟩ = false ∧ wr.frozen? ⟨w.heap.size + 1, 2, none⟩ = false := wrong_facts h.res
theorem DS.ret (h : DS w c wr) (a b d : Value) : Blk (((wr.setCell ⟨w.heap.size + 1, 0, none⟩ a).setCell ⟨w.heap.size + 1, 1, none⟩ b).setCell ⟨w.heap.size + 1, 2, none⟩ d) (w.heap.size + 1) 40 #[a, b, d] ∧
    Below w.heap.size w (((wr.setCell ⟨w.heap.size + 1, 0, none⟩ a).setCell ⟨w.heap.size + 1, 1, none⟩ b).setCell ⟨w.heap.size + 1, 2, none⟩ d) :=
  ⟨h.res.set3 a b d, ((h.below.setCell (by simp) _).setCell (by simp) _).setCell (by simp) _⟩
end
set_option maxRecDepth 100000 in
set_option maxHeartbeats 8000000 in
theorem chk_drops {w : World} {v0 v1 v2 v3 v4 v5 v6 v7 : Value} (T : Tab) (h : TabAt w v0 v1 v2 v3 v4 v5 v6 v7 T) (hok : TabOk T) (c b : Nat) (hc : Blk w c 68 #[v0, v1, v2, v3, v4, v5, v6, v7, .pointer (some ⟨b, 0, none⟩)]) (hdo : InOrder T.drops) :
    Calls Tryz.prog 27 #[.pointer (some ⟨c, 0, none⟩)] w fun e w' => e = .returned (wrongV (dropsW T)) ∧ Below w.heap.size w w' := by
  have HDO := Lib.hid hdo
  clear hdo
  have HO := Lib.hid hok
  obtain ⟨A0, c0, rfl, hn0⟩ := h.formS
  obtain ⟨A1, c1, rfl, hn1⟩ := h.common.form
  obtain ⟨A2, c2, rfl, hn2⟩ := h.marks.form
  obtain ⟨A3, c3, rfl, hn3⟩ := h.pairs.form
  obtain ⟨A4, c4, rfl, hn4⟩ := h.folds.form
  obtain ⟨A5, c5, rfl, hn5⟩ := h.looks.form
  obtain ⟨A6, c6, rfl, hn6⟩ := h.drops.form
  obtain ⟨A7, c7, rfl, hn7⟩ := h.allowed.form
  have HT := Lib.hid h
  obtain ⟨n0, hln0⟩ : ∃ n, T.scripts.length = n := ⟨_, rfl⟩
  rw [hln0] at HT hc hn0
  have HLn0 := Lib.hid hln0
  clear hln0
  obtain ⟨n1, hln1⟩ : ∃ n, T.common.length = n := ⟨_, rfl⟩
  rw [hln1] at HT hc hn1
  have HLn1 := Lib.hid hln1
  clear hln1
  obtain ⟨n2, hln2⟩ : ∃ n, T.marks.length = n := ⟨_, rfl⟩
  rw [hln2] at HT hc hn2
  have HLn2 := Lib.hid hln2
  clear hln2
  obtain ⟨n3, hln3⟩ : ∃ n, T.pairs.length = n := ⟨_, rfl⟩
  rw [hln3] at HT hc hn3
  have HLn3 := Lib.hid hln3
  clear hln3
  obtain ⟨n4, hln4⟩ : ∃ n, T.folds.length = n := ⟨_, rfl⟩
  rw [hln4] at HT hc hn4
  have HLn4 := Lib.hid hln4
  clear hln4
  obtain ⟨n5, hln5⟩ : ∃ n, T.looks.length = n := ⟨_, rfl⟩
  rw [hln5] at HT hc hn5
  have HLn5 := Lib.hid hln5
  clear hln5
  obtain ⟨n6, hln6⟩ : ∃ n, T.drops.length = n := ⟨_, rfl⟩
  rw [hln6] at HT hc hn6
  have HLn6 := Lib.hid hln6
  clear hln6
  obtain ⟨n7, hln7⟩ : ∃ n, T.allowed.length = n := ⟨_, rfl⟩
  rw [hln7] at HT hc hn7
  have HLn7 := Lib.hid hln7
  clear hln7
  have HC := Lib.hid hc
  have HS0 := Lib.hid (DS.start w c)
  obtain ⟨d0, d1, d2, d3, d4, d5, d6, d7, d8⟩ := chk_facts (hc.below HS0.out.below)
  clear h hok hc
  have bx : ((w.alloc (.cells #[.pointer (some ⟨c, 0, none⟩)] 60)).alloc (.cells #[.int .i64 0, .int .i64 0, .int .i64 0] 40)).cell? ⟨w.heap.size, 0, none⟩ = some (.pointer (some ⟨c, 0, none⟩)) := HS0.out.box.cell 0
  go_enter Tryz.func27, Tryz.ntmps27
  go_wp2_with fail
  go_loopw [19] (fun i wr => ∃ k : Nat, k ≤ n2 ∧ i = .int .i64 (k : Int) ∧ NoneTo (dropM T) T.marks k ∧ DS w c wr) (fun i _ => n2 - (intOf i).toNat)
  case atStart => exact ⟨0, Nat.zero_le _, rfl, NoneTo.zero _ _, HS0.out⟩
  case round =>
    obtain ⟨k, hk, rfl, hno, hrs⟩ := hrel
    have Hno := Lib.hid hno
    have Hr := Lib.hid hrs
    by_cases hlt : k < n2
    · obtain ⟨m, hm⟩ : ∃ m, T.marks[k]? = some m := ⟨_, List.getElem?_eq_getElem (by rw [HLn2.out]; exact hlt)⟩
      obtain ⟨a, rfl, e0, e1⟩ := el2 HT.out.marks hrs.below hm rfl
      have Hm := Lib.hid hm
      have k0 : (0 : Int) ≤ (k : Int) := by omega
      have k1 : (k : Int) < (n2 : Int) := by omega
      have HE := Lib.hid ((Below.refl _ wr).alloc (Nat.le_refl _) (.cells #[.int .i32 m.r, .int .i64 m.c] 75))
      have Hx := Lib.hid (Blk.new wr 75 #[.int .i32 m.r, .int .i64 m.c])
      have HX := Lib.hid (HE.out.alloc (by simp) (.cells #[.int .i32 m.r] 21))
      have hX := below_trans Hr.out.below HX.out
      have HG := Lib.hid (fun z (hz : ([m.r] : List Int).any (fun r => ofL r T.drops) = z) => (chk_gone (w := (wr.alloc (.cells #[.int .i32 m.r, .int .i64 m.c] 75)).alloc (.cells #[.int .i32 m.r] 21)) (n := 1) (a := ⟨wr.heap.size + 1, 0, none⟩) (cp := 1) [m.r] rfl (HC.out.below hX) ((Hr.out.step HX.out).box) T.drops (HT.out.drops.below hX) HDO.out (by simp) (fun j x hx => by
          have h := (Blk.new (wr.alloc (.cells #[.int .i32 m.r, .int .i64 m.c] 75)) 21 #[.int .i32 m.r]).cell j
          simp only [World.size_alloc] at h
          rw [show (⟨wr.heap.size + 1, 0, none⟩ : Addr).add j = ⟨wr.heap.size + 1, j, none⟩ by unfold Addr.add; by_cases e : j = 0; subst e; rfl; simp [e], h]
          have hj := (List.getElem?_eq_some_iff.1 hx).1
          simp only [List.length_cons, List.length_nil] at hj
          obtain rfl : j = 0 := by omega
          cases hx; rfl) (by omega)).mono (R' := fun e w' => e = .returned (.bool z) ∧ Below ((wr.alloc (.cells #[.int .i32 m.r, .int .i64 m.c] 75)).alloc (.cells #[.int .i32 m.r] 21)).heap.size ((wr.alloc (.cells #[.int .i32 m.r, .int .i64 m.c] 75)).alloc (.cells #[.int .i32 m.r] 21)) w') (fun e w' h => ⟨by rw [← hz]; exact h.1, h.2⟩))
      clear hX
      clear hno hrs hm
      cases hz : ([m.r] : List Int).any (fun r => ofL r T.drops) with
      | true =>
        have H0 : Hid (dropM T k m = 37) := Lib.hid (by unfold dropM; rw [if_pos (by simpa using hz)])
        go_wp2_with (first | (go_at_call 59; refine (HG.out _ (by assumption)).mono ?_; rintro e w2 ⟨rfl, hb2⟩; have HB2 := Lib.hid (below_trans HX.out hb2)) | (go_at_call 53; refine (tab_wrong _ _ _ _).mono ?_; rintro e w9 ⟨rfl, hb9⟩; have h9 := (Hr.out.step HB2.out).step hb9; obtain ⟨r1, r2, r3, f1, f2, f3⟩ := h9.resF; have H9 := Lib.hid h9; clear h9))
        obtain ⟨hB, hW⟩ := (H9.out).ret (.int .i64 37) (.int .i64 3) (.int .i64 (k : Int))
        obtain ⟨s1, s2, s3, -, -, -⟩ := wrong_facts hB
        refine bodyPost_ret (v := .agg #[.int .i64 37, .int .i64 3, .int .i64 (k : Int)]) ?_ rfl ⟨?_, hW⟩
        · simp [results, Tryz.results27, go_sem, s1, s2, s3]
        · rw [show dropsW T = some (37, 3, (k : Int)) by unfold dropsW; rw [Hno.out.found Hm.out (by rw [H0.out]; decide) 3, H0.out]; first | done | rfl]
          rfl
      | false =>
        have H0 : Hid (dropM T k m = 0) := Lib.hid (by unfold dropM; rw [if_neg (by simpa using hz)])
        go_wp2_with (go_at_call 59; refine (HG.out _ (by assumption)).mono ?_; rintro e w2 ⟨rfl, hb2⟩; have HB2 := Lib.hid (below_trans HX.out hb2))
        go_roundw
        case rel => exact ⟨k + 1, by omega, by go_num, Hno.out.succ Hm.out H0.out, Hr.out.step HB2.out⟩
        case measure => simp [intOf]; omega
    · have hkn : n2 = k := by omega
      subst hkn
      have HN0 : Hid (scan (dropM T) 3 0 T.marks = none) := Lib.hid (NoneTo.all (by rw [HLn2.out]; exact Hno.out) 3)
      obtain ⟨d0, d1, d2, d3, d4, d5, d6, d7, d8⟩ := chk_facts (HC.out.below Hr.out.below)
      clear Hno hno hrs
      have bx : wr.cell? ⟨w.heap.size, 0, none⟩ = some (.pointer (some ⟨c, 0, none⟩)) := Hr.out.box.cell 0
      go_wp2_with fail
      go_loopw [38] (fun i wr => ∃ k : Nat, k ≤ n3 ∧ i = .int .i64 (k : Int) ∧ NoneTo (dropP T) T.pairs k ∧ DS w c wr) (fun i _ => n3 - (intOf i).toNat)
      case atStart => exact ⟨0, Nat.zero_le _, rfl, NoneTo.zero _ _, Hr.out⟩
      case round =>
        clear Hr
        obtain ⟨k, hk, rfl, hno, hrs⟩ := hrel
        have Hno := Lib.hid hno
        have Hr := Lib.hid hrs
        by_cases hlt : k < n3
        · obtain ⟨m, hm⟩ : ∃ m, T.pairs[k]? = some m := ⟨_, List.getElem?_eq_getElem (by rw [HLn3.out]; exact hlt)⟩
          obtain ⟨a, rfl, e0, e1, e2⟩ := el3 HT.out.pairs hrs.below hm rfl
          have Hm := Lib.hid hm
          have k0 : (0 : Int) ≤ (k : Int) := by omega
          have k1 : (k : Int) < (n3 : Int) := by omega
          have HE := Lib.hid ((Below.refl _ wr).alloc (Nat.le_refl _) (.cells #[.int .i32 m.whole, .int .i32 m.base, .int .i32 m.mark] 77))
          have Hx := Lib.hid (Blk.new wr 77 #[.int .i32 m.whole, .int .i32 m.base, .int .i32 m.mark])
          have HX := Lib.hid (HE.out.alloc (by simp) (.cells #[.int .i32 m.whole, .int .i32 m.base, .int .i32 m.mark] 21))
          have hX := below_trans Hr.out.below HX.out
          have HG := Lib.hid (fun z (hz : ([m.whole, m.base, m.mark] : List Int).any (fun r => ofL r T.drops) = z) => (chk_gone (w := (wr.alloc (.cells #[.int .i32 m.whole, .int .i32 m.base, .int .i32 m.mark] 77)).alloc (.cells #[.int .i32 m.whole, .int .i32 m.base, .int .i32 m.mark] 21)) (n := 3) (a := ⟨wr.heap.size + 1, 0, none⟩) (cp := 3) [m.whole, m.base, m.mark] rfl (HC.out.below hX) ((Hr.out.step HX.out).box) T.drops (HT.out.drops.below hX) HDO.out (by simp) (fun j x hx => by
              have h := (Blk.new (wr.alloc (.cells #[.int .i32 m.whole, .int .i32 m.base, .int .i32 m.mark] 77)) 21 #[.int .i32 m.whole, .int .i32 m.base, .int .i32 m.mark]).cell j
              simp only [World.size_alloc] at h
              rw [show (⟨wr.heap.size + 1, 0, none⟩ : Addr).add j = ⟨wr.heap.size + 1, j, none⟩ by unfold Addr.add; by_cases e : j = 0; subst e; rfl; simp [e], h]
              have hj := (List.getElem?_eq_some_iff.1 hx).1
              simp only [List.length_cons, List.length_nil] at hj
              have hjc : j = 0 ∨ j = 1 ∨ j = 2 := by omega
              rcases hjc with rfl | rfl | rfl <;> (cases hx; rfl)) (by omega)).mono (R' := fun e w' => e = .returned (.bool z) ∧ Below ((wr.alloc (.cells #[.int .i32 m.whole, .int .i32 m.base, .int .i32 m.mark] 77)).alloc (.cells #[.int .i32 m.whole, .int .i32 m.base, .int .i32 m.mark] 21)).heap.size ((wr.alloc (.cells #[.int .i32 m.whole, .int .i32 m.base, .int .i32 m.mark] 77)).alloc (.cells #[.int .i32 m.whole, .int .i32 m.base, .int .i32 m.mark] 21)) w') (fun e w' h => ⟨by rw [← hz]; exact h.1, h.2⟩))
          clear hX
          clear hno hrs hm
          cases hz : ([m.whole, m.base, m.mark] : List Int).any (fun r => ofL r T.drops) with
          | true =>
            have H0 : Hid (dropP T k m = 37) := Lib.hid (by unfold dropP; rw [if_pos (by simpa using hz)])
            go_wp2_with (first | (go_at_call 59; refine (HG.out _ (by assumption)).mono ?_; rintro e w2 ⟨rfl, hb2⟩; have HB2 := Lib.hid (below_trans HX.out hb2)) | (go_at_call 53; refine (tab_wrong _ _ _ _).mono ?_; rintro e w9 ⟨rfl, hb9⟩; have h9 := (Hr.out.step HB2.out).step hb9; obtain ⟨r1, r2, r3, f1, f2, f3⟩ := h9.resF; have H9 := Lib.hid h9; clear h9))
            obtain ⟨hB, hW⟩ := (H9.out).ret (.int .i64 37) (.int .i64 4) (.int .i64 (k : Int))
            obtain ⟨s1, s2, s3, -, -, -⟩ := wrong_facts hB
            refine bodyPost_ret (v := .agg #[.int .i64 37, .int .i64 4, .int .i64 (k : Int)]) ?_ rfl ⟨?_, hW⟩
            · simp [results, Tryz.results27, go_sem, s1, s2, s3]
            · rw [show dropsW T = some (37, 4, (k : Int)) by unfold dropsW; rw [HN0.out, Hno.out.found Hm.out (by rw [H0.out]; decide) 4, H0.out]; first | done | rfl]
              rfl
          | false =>
            have H0 : Hid (dropP T k m = 0) := Lib.hid (by unfold dropP; rw [if_neg (by simpa using hz)])
            go_wp2_with (go_at_call 59; refine (HG.out _ (by assumption)).mono ?_; rintro e w2 ⟨rfl, hb2⟩; have HB2 := Lib.hid (below_trans HX.out hb2))
            go_roundw
            case rel => exact ⟨k + 1, by omega, by go_num, Hno.out.succ Hm.out H0.out, Hr.out.step HB2.out⟩
            case measure => simp [intOf]; omega
        · have hkn : n3 = k := by omega
          subst hkn
          have HN1 : Hid (scan (dropP T) 4 0 T.pairs = none) := Lib.hid (NoneTo.all (by rw [HLn3.out]; exact Hno.out) 4)
          obtain ⟨d0, d1, d2, d3, d4, d5, d6, d7, d8⟩ := chk_facts (HC.out.below Hr.out.below)
          clear Hno hno hrs
          have bx : wr.cell? ⟨w.heap.size, 0, none⟩ = some (.pointer (some ⟨c, 0, none⟩)) := Hr.out.box.cell 0
          go_wp2_with fail
          go_region_held3 (fun w' => w'.cell? ⟨w.heap.size, 0, none⟩ = some (.pointer (some ⟨c, 0, none⟩)) ∧ w'.cell? ⟨c, 4, none⟩ = some (.slice A4 n4 c4) ∧ w'.cell? ⟨c, 5, none⟩ = some (.slice A5 n5 c5)) (go_keep) (fail)
          have hBd : Below wr.heap.size wr ((wr.alloc (.cells #[(.slice A4 n4 c4), (.slice A5 n5 c5)] 26)).drew) := ((Below.refl _ wr).alloc (Nat.le_refl _) _).drew
          have hg2 : Blk ((wr.alloc (.cells #[(.slice A4 n4 c4), (.slice A5 n5 c5)] 26)).drew) wr.heap.size 26 #[(.slice A4 n4 c4), (.slice A5 n5 c5)] := (Blk.new wr _ _).of rfl
          have hr2 := Hr.out.step hBd
          obtain ⟨g9, hge⟩ : ∃ g, wr.heap.size = g := ⟨_, rfl⟩
          rw [hge] at hg2
          simp only [hge]
          obtain ⟨W2, hW2⟩ : ∃ W2, (wr.alloc (.cells #[(.slice A4 n4 c4), (.slice A5 n5 c5)] 26)).drew = W2 := ⟨_, rfl⟩
          rw [hW2] at hr2 hg2 ⊢
          have Hr2 := Lib.hid hr2
          have Hg2 := Lib.hid hg2
          clear hW2 hge hBd hr2 hg2 Hr d0 d1 d2 d3 d4 d5 d6 d7 d8
          go_wp2_with fail
          go_loopw [67] (fun i wr => ∃ k : Int, (k = 0 ∨ k = 1 ∨ k = 2) ∧ i = .int .i64 k ∧ Hid ((1 ≤ k → scan (dropF T) 5 0 T.folds = none) ∧ (2 ≤ k → scan (dropF T) 6 0 T.looks = none)) ∧ DS w c wr ∧ Blk wr g9 26 #[(.slice A4 n4 c4), (.slice A5 n5 c5)]) (fun i _ => 2 - (intOf i).toNat)
          case atStart => exact ⟨0, by omega, rfl, Lib.hid ⟨by omega, by omega⟩, Hr2.out, Hg2.out⟩
          case round =>
            clear Hr2 Hg2
            obtain ⟨kk, hkc, rfl, hinv, hrs, hgb⟩ := hrel
            have Hr := Lib.hid hrs
            have Hg := Lib.hid hgb
            rcases hkc with rfl | rfl | rfl
            · have u0 : wr.cell? ⟨g9, 0, none⟩ = some (.slice A4 n4 c4) := hgb.cell 0
              clear hrs hgb
              go_wp2_with fail
              go_loopw [74] (fun i wr => ∃ k : Nat, k ≤ n4 ∧ i = .int .i64 (k : Int) ∧ NoneTo (dropF T) T.folds k ∧ DS w c wr ∧ Blk wr g9 26 #[(.slice A4 n4 c4), (.slice A5 n5 c5)]) (fun i _ => n4 - (intOf i).toNat)
              case atStart => exact ⟨0, Nat.zero_le _, rfl, NoneTo.zero _ _, Hr.out, Hg.out⟩
              case round =>
                clear Hr Hg
                obtain ⟨k, hk, rfl, hno, hrs, hgb⟩ := hrel
                have Hno := Lib.hid hno
                have Hr := Lib.hid hrs
                by_cases hlt : k < n4
                · obtain ⟨m, hm⟩ : ∃ m, T.folds[k]? = some m := ⟨_, List.getElem?_eq_getElem (by rw [HLn4.out]; exact hlt)⟩
                  obtain ⟨a, rfl, e0, e1⟩ := el2 HT.out.folds hrs.below hm rfl
                  have Hm := Lib.hid hm
                  have k0 : (0 : Int) ≤ (k : Int) := by omega
                  have k1 : (k : Int) < (n4 : Int) := by omega
                  have HE := Lib.hid ((Below.refl _ wr).alloc (Nat.le_refl _) (.cells #[.int .i32 m.frm, .string m.to] 79))
                  have Hx := Lib.hid (Blk.new wr 79 #[.int .i32 m.frm, .string m.to])
                  have HG2 := Lib.hid hgb
                  clear hgb
                  have HX := Lib.hid (HE.out.alloc (by simp) (.cells #[.int .i32 m.frm] 21))
                  have hX := below_trans Hr.out.below HX.out
                  have HG := Lib.hid (fun z (hz : ([m.frm] : List Int).any (fun r => ofL r T.drops) = z) => (chk_gone (w := (wr.alloc (.cells #[.int .i32 m.frm, .string m.to] 79)).alloc (.cells #[.int .i32 m.frm] 21)) (n := 1) (a := ⟨wr.heap.size + 1, 0, none⟩) (cp := 1) [m.frm] rfl (HC.out.below hX) ((Hr.out.step HX.out).box) T.drops (HT.out.drops.below hX) HDO.out (by simp) (fun j x hx => by
                      have h := (Blk.new (wr.alloc (.cells #[.int .i32 m.frm, .string m.to] 79)) 21 #[.int .i32 m.frm]).cell j
                      simp only [World.size_alloc] at h
                      rw [show (⟨wr.heap.size + 1, 0, none⟩ : Addr).add j = ⟨wr.heap.size + 1, j, none⟩ by unfold Addr.add; by_cases e : j = 0; subst e; rfl; simp [e], h]
                      have hj := (List.getElem?_eq_some_iff.1 hx).1
                      simp only [List.length_cons, List.length_nil] at hj
                      obtain rfl : j = 0 := by omega
                      cases hx; rfl) (by omega)).mono (R' := fun e w' => e = .returned (.bool z) ∧ Below ((wr.alloc (.cells #[.int .i32 m.frm, .string m.to] 79)).alloc (.cells #[.int .i32 m.frm] 21)).heap.size ((wr.alloc (.cells #[.int .i32 m.frm, .string m.to] 79)).alloc (.cells #[.int .i32 m.frm] 21)) w') (fun e w' h => ⟨by rw [← hz]; exact h.1, h.2⟩))
                  clear hX
                  clear hno hrs hm
                  cases hz : ([m.frm] : List Int).any (fun r => ofL r T.drops) with
                  | true =>
                    have H0 : Hid (dropF T k m = 37) := Lib.hid (by unfold dropF; rw [if_pos (by simpa using hz)])
                    go_wp2_with (first | (go_at_call 59; refine (HG.out _ (by assumption)).mono ?_; rintro e w2 ⟨rfl, hb2⟩; have HB2 := Lib.hid (below_trans HX.out hb2)) | (go_at_call 53; refine (tab_wrong _ _ _ _).mono ?_; rintro e w9 ⟨rfl, hb9⟩; have h9 := (Hr.out.step HB2.out).step hb9; obtain ⟨r1, r2, r3, f1, f2, f3⟩ := h9.resF; have H9 := Lib.hid h9; clear h9))
                    obtain ⟨hB, hW⟩ := (H9.out).ret (.int .i64 37) (.int .i64 5) (.int .i64 (k : Int))
                    obtain ⟨s1, s2, s3, -, -, -⟩ := wrong_facts hB
                    refine bodyPost_ret (v := .agg #[.int .i64 37, .int .i64 5, .int .i64 (k : Int)]) ?_ rfl ⟨?_, hW⟩
                    · simp [results, Tryz.results27, go_sem, s1, s2, s3]
                    · rw [show dropsW T = some (37, 5, (k : Int)) by unfold dropsW; rw [HN0.out, HN1.out, Hno.out.found Hm.out (by rw [H0.out]; decide) 5, H0.out]; first | done | rfl]
                      rfl
                  | false =>
                    have H0 : Hid (dropF T k m = 0) := Lib.hid (by unfold dropF; rw [if_neg (by simpa using hz)])
                    go_wp2_with (go_at_call 59; refine (HG.out _ (by assumption)).mono ?_; rintro e w2 ⟨rfl, hb2⟩; have HB2 := Lib.hid (below_trans HX.out hb2))
                    go_roundw
                    case rel => exact ⟨k + 1, by omega, by go_num, Hno.out.succ Hm.out H0.out, Hr.out.step HB2.out, HG2.out.below HB2.out⟩
                    case measure => simp [intOf]; omega
                · have hkn : n4 = k := by omega
                  subst hkn
                  have HN2 : Hid (scan (dropF T) 5 0 T.folds = none) := Lib.hid (NoneTo.all (by rw [HLn4.out]; exact Hno.out) 5)
                  obtain ⟨d0, d1, d2, d3, d4, d5, d6, d7, d8⟩ := chk_facts (HC.out.below Hr.out.below)
                  clear Hno hno hrs
                  have bx : wr.cell? ⟨w.heap.size, 0, none⟩ = some (.pointer (some ⟨c, 0, none⟩)) := Hr.out.box.cell 0
                  have Hg := Lib.hid hgb
                  clear hgb
                  go_wp2_with fail
                  go_roundw
                  case rel => exact ⟨1, by omega, by go_num, Lib.hid ⟨fun _ => HN2.out, fun h => by omega⟩, Hr.out, Hg.out⟩
                  case measure => simp [intOf]
            · have u0 : wr.cell? ⟨g9, 1, none⟩ = some (.slice A5 n5 c5) := hgb.cell 1
              clear hrs hgb
              go_wp2_with fail
              go_loopw [74] (fun i wr => ∃ k : Nat, k ≤ n5 ∧ i = .int .i64 (k : Int) ∧ NoneTo (dropF T) T.looks k ∧ DS w c wr ∧ Blk wr g9 26 #[(.slice A4 n4 c4), (.slice A5 n5 c5)]) (fun i _ => n5 - (intOf i).toNat)
              case atStart => exact ⟨0, Nat.zero_le _, rfl, NoneTo.zero _ _, Hr.out, Hg.out⟩
              case round =>
                clear Hr Hg
                obtain ⟨k, hk, rfl, hno, hrs, hgb⟩ := hrel
                have Hno := Lib.hid hno
                have Hr := Lib.hid hrs
                by_cases hlt : k < n5
                · obtain ⟨m, hm⟩ : ∃ m, T.looks[k]? = some m := ⟨_, List.getElem?_eq_getElem (by rw [HLn5.out]; exact hlt)⟩
                  obtain ⟨a, rfl, e0, e1⟩ := el2 HT.out.looks hrs.below hm rfl
                  have Hm := Lib.hid hm
                  have k0 : (0 : Int) ≤ (k : Int) := by omega
                  have k1 : (k : Int) < (n5 : Int) := by omega
                  have HE := Lib.hid ((Below.refl _ wr).alloc (Nat.le_refl _) (.cells #[.int .i32 m.frm, .string m.to] 79))
                  have Hx := Lib.hid (Blk.new wr 79 #[.int .i32 m.frm, .string m.to])
                  have HG2 := Lib.hid hgb
                  clear hgb
                  have HX := Lib.hid (HE.out.alloc (by simp) (.cells #[.int .i32 m.frm] 21))
                  have hX := below_trans Hr.out.below HX.out
                  have HG := Lib.hid (fun z (hz : ([m.frm] : List Int).any (fun r => ofL r T.drops) = z) => (chk_gone (w := (wr.alloc (.cells #[.int .i32 m.frm, .string m.to] 79)).alloc (.cells #[.int .i32 m.frm] 21)) (n := 1) (a := ⟨wr.heap.size + 1, 0, none⟩) (cp := 1) [m.frm] rfl (HC.out.below hX) ((Hr.out.step HX.out).box) T.drops (HT.out.drops.below hX) HDO.out (by simp) (fun j x hx => by
                      have h := (Blk.new (wr.alloc (.cells #[.int .i32 m.frm, .string m.to] 79)) 21 #[.int .i32 m.frm]).cell j
                      simp only [World.size_alloc] at h
                      rw [show (⟨wr.heap.size + 1, 0, none⟩ : Addr).add j = ⟨wr.heap.size + 1, j, none⟩ by unfold Addr.add; by_cases e : j = 0; subst e; rfl; simp [e], h]
                      have hj := (List.getElem?_eq_some_iff.1 hx).1
                      simp only [List.length_cons, List.length_nil] at hj
                      obtain rfl : j = 0 := by omega
                      cases hx; rfl) (by omega)).mono (R' := fun e w' => e = .returned (.bool z) ∧ Below ((wr.alloc (.cells #[.int .i32 m.frm, .string m.to] 79)).alloc (.cells #[.int .i32 m.frm] 21)).heap.size ((wr.alloc (.cells #[.int .i32 m.frm, .string m.to] 79)).alloc (.cells #[.int .i32 m.frm] 21)) w') (fun e w' h => ⟨by rw [← hz]; exact h.1, h.2⟩))
                  clear hX
                  clear hno hrs hm
                  cases hz : ([m.frm] : List Int).any (fun r => ofL r T.drops) with
                  | true =>
                    have H0 : Hid (dropF T k m = 37) := Lib.hid (by unfold dropF; rw [if_pos (by simpa using hz)])
                    go_wp2_with (first | (go_at_call 59; refine (HG.out _ (by assumption)).mono ?_; rintro e w2 ⟨rfl, hb2⟩; have HB2 := Lib.hid (below_trans HX.out hb2)) | (go_at_call 53; refine (tab_wrong _ _ _ _).mono ?_; rintro e w9 ⟨rfl, hb9⟩; have h9 := (Hr.out.step HB2.out).step hb9; obtain ⟨r1, r2, r3, f1, f2, f3⟩ := h9.resF; have H9 := Lib.hid h9; clear h9))
                    obtain ⟨hB, hW⟩ := (H9.out).ret (.int .i64 37) (.int .i64 6) (.int .i64 (k : Int))
                    obtain ⟨s1, s2, s3, -, -, -⟩ := wrong_facts hB
                    refine bodyPost_ret (v := .agg #[.int .i64 37, .int .i64 6, .int .i64 (k : Int)]) ?_ rfl ⟨?_, hW⟩
                    · simp [results, Tryz.results27, go_sem, s1, s2, s3]
                    · rw [show dropsW T = some (37, 6, (k : Int)) by unfold dropsW; rw [HN0.out, HN1.out, show scan (dropF T) 5 0 T.folds = none from hinv.out.1 (by omega), Hno.out.found Hm.out (by rw [H0.out]; decide) 6, H0.out]; first | done | rfl]
                      rfl
                  | false =>
                    have H0 : Hid (dropF T k m = 0) := Lib.hid (by unfold dropF; rw [if_neg (by simpa using hz)])
                    go_wp2_with (go_at_call 59; refine (HG.out _ (by assumption)).mono ?_; rintro e w2 ⟨rfl, hb2⟩; have HB2 := Lib.hid (below_trans HX.out hb2))
                    go_roundw
                    case rel => exact ⟨k + 1, by omega, by go_num, Hno.out.succ Hm.out H0.out, Hr.out.step HB2.out, HG2.out.below HB2.out⟩
                    case measure => simp [intOf]; omega
                · have hkn : n5 = k := by omega
                  subst hkn
                  have HN3 : Hid (scan (dropF T) 6 0 T.looks = none) := Lib.hid (NoneTo.all (by rw [HLn5.out]; exact Hno.out) 6)
                  obtain ⟨d0, d1, d2, d3, d4, d5, d6, d7, d8⟩ := chk_facts (HC.out.below Hr.out.below)
                  clear Hno hno hrs
                  have bx : wr.cell? ⟨w.heap.size, 0, none⟩ = some (.pointer (some ⟨c, 0, none⟩)) := Hr.out.box.cell 0
                  have Hg := Lib.hid hgb
                  clear hgb
                  go_wp2_with fail
                  go_roundw
                  case rel => exact ⟨2, by omega, by go_num, Lib.hid ⟨fun _ => hinv.out.1 (by omega), fun h => HN3.out⟩, Hr.out, Hg.out⟩
                  case measure => simp [intOf]
            · obtain ⟨d0, d1, d2, d3, d4, d5, d6, d7, d8⟩ := chk_facts (HC.out.below Hr.out.below)
              clear hrs hgb
              clear Hg
              obtain ⟨r1, r2, r3, f1, f2, f3⟩ := (Hr.out).resF
              go_wp2_with fail
              obtain ⟨hB, hW⟩ := (Hr.out).ret (.int .i64 0) (.int .i64 0) (.int .i64 0)
              obtain ⟨s1, s2, s3, -, -, -⟩ := wrong_facts hB
              refine bodyPost_ret (v := .agg #[.int .i64 0, .int .i64 0, .int .i64 0]) ?_ rfl ⟨?_, hW⟩
              · simp [results, Tryz.results27, go_sem, s1, s2, s3]
              · rw [show dropsW T = none by unfold dropsW; rw [HN0.out, HN1.out, show scan (dropF T) 5 0 T.folds = none from hinv.out.1 (by omega), show scan (dropF T) 6 0 T.looks = none from hinv.out.2 (by omega)]; first | done | rfl]
                rfl

end Go.Proofs.YtjmkdimbbacnfaaGreatDoor
