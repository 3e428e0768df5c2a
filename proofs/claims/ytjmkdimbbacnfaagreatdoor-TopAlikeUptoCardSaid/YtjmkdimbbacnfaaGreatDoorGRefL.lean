/- guiseref6: Plain. (Printed by gen_plain.py.) guiseref6: sets (over what is to be shown of Runes). guiseref6: rows. (Printed by gen_rows.py.) -/
import Derived.Test.YtjmkdimbbacnfaaGreatDoorGRefI
namespace Go.Proofs.YtjmkdimbbacnfaaGreatDoor
section
open Go.RowKit
set_option linter.unusedVariables false
/-- the table in its box -/
structure BX (w : World) (v0 v1 v2 v3 v4 v5 v6 v7 : Value) (wr : World) : Prop where
  below : Below w.heap.size w wr
  box : Blk wr w.heap.size 28 #[v0, v1, v2, v3, v4, v5, v6, v7]
section
variable {w wr w2 : World} {v0 v1 v2 v3 v4 v5 v6 v7 : Value}
theorem BX.start (w : World) (v0 v1 v2 v3 v4 v5 v6 v7 : Value) : BX w v0 v1 v2 v3 v4 v5 v6 v7 (w.alloc (.cells #[v0, v1, v2, v3, v4, v5, v6, v7] 28)) :=
  ⟨(Below.refl _ w).alloc (Nat.le_refl _) _, Blk.new w _ _⟩
theorem BX.step (h : BX w v0 v1 v2 v3 v4 v5 v6 v7 wr) (hb : Below wr.heap.size wr w2) : BX w v0 v1 v2 v3 v4 v5 v6 v7 w2 := ⟨below_trans h.below hb, h.box.below hb⟩
theorem BX.boxF (h : BX w v0 v1 v2 v3 v4 v5 v6 v7 wr) : wr.cell? ⟨w.heap.size, 0, none⟩ = some v0 ∧ wr.cell? ⟨w.heap.size, 1, none⟩ = some v1 ∧ wr.cell? ⟨w.heap.size, 2, none⟩ = some v2 ∧ wr.cell? ⟨w.heap.size, 3, none⟩ = some v3 ∧ wr.cell? ⟨w.heap.size, 4, none⟩ = some v4 ∧ wr.cell? ⟨w.heap.size, 5, none⟩ = some v5 ∧ wr.cell? ⟨w.heap.size, 6, none⟩ = some v6 ∧ wr.cell? ⟨w.heap.size, 7, none⟩ = some v7 :=
  ⟨h.box.cell 0, h.box.cell 1, h.box.cell 2, h.box.cell 3, h.box.cell 4, h.box.cell 5, h.box.cell 6, h.box.cell 7⟩
end
def fromI (l : List MapT) (r : Int) : Int := firstI l fun p => decide (p.frm = r)
def plainL (T : Tab) (r : Int) : Bool := isRune r && !markL T.marks r && decide (wholeI T.pairs r < 0) && !ofL r T.drops && decide (fromI T.folds r < 0)

set_option maxRecDepth 100000 in
set_option maxHeartbeats 8000000 in
theorem ref_Plain {w : World} {v0 v1 v2 v3 v4 v5 v6 v7 : Value} (T : Tab) (h : TabAt w v0 v1 v2 v3 v4 v5 v6 v7 T) (r : Int) :
    Calls Tryz.prog 86 #[.agg #[v0, v1, v2, v3, v4, v5, v6, v7], .int .i32 r] w fun e w' => e = .returned (.bool (plainL T r)) ∧ Below w.heap.size w w' := by
  have HT := Lib.hid h
  have hx0 := BX.start w v0 v1 v2 v3 v4 v5 v6 v7
  obtain ⟨b0, b1, b2, b3, b4, b5, b6, b7⟩ := hx0.boxF
  have X0 := Lib.hid hx0
  have HP : Hid (plainL T r = (isRune r && !markL T.marks r && decide (wholeI T.pairs r < 0) && !ofL r T.drops && decide (fromI T.folds r < 0))) := Lib.hid rfl
  have h1 : Hid (∀ w0, Calls Tryz.prog 78 #[.int .i32 r] w0 fun e w' => e = .returned (.bool (isRune r)) ∧ w0 = w') := Lib.hid (fun w0 => ref_Rune r w0)
  have h2 : Hid (∀ w0, Below w.heap.size w w0 → Calls Tryz.prog 81 #[.agg #[v0, v1, v2, v3, v4, v5, v6, v7], .int .i32 r] w0 fun e w' => e = .returned (.bool (markL T.marks r)) ∧ Below w0.heap.size w0 w') := Lib.hid (fun w0 hb => ref_mark T.marks (HT.out.marks.below hb) r)
  have h3 : Hid (∀ w0, Below w.heap.size w w0 → Calls Tryz.prog 84 #[.agg #[v0, v1, v2, v3, v4, v5, v6, v7], .int .i32 r] w0 fun e w' => e = .returned (.int .i64 (wholeI T.pairs r)) ∧ Below w0.heap.size w0 w') := Lib.hid (fun w0 hb => ref_Whole T.pairs (HT.out.pairs.below hb) r)
  have h4 : Hid (∀ w0, Below w.heap.size w w0 → Calls Tryz.prog 83 #[.int .i32 r, v6] w0 fun e w' => e = .returned (.bool (ofL r T.drops)) ∧ Below w0.heap.size w0 w') := Lib.hid (fun w0 hb => (ref_Of T.drops (HT.out.drops.below hb) r).mono (fun e w' h => ⟨h.1, by obtain ⟨q, rfl⟩ := h.2; exact below_dr w0 q⟩))
  have h5 : Hid (∀ w0, Below w.heap.size w w0 → Calls Tryz.prog 80 #[v4, .int .i32 r] w0 fun e w' => e = .returned (.int .i64 (fromI T.folds r)) ∧ Below w0.heap.size w0 w') := Lib.hid (fun w0 hb => (ref_From T.folds (HT.out.folds.below hb) r).mono (fun e w' h => ⟨h.1, by obtain ⟨q, rfl⟩ := h.2; exact below_dr w0 q⟩))
  generalize isRune r = x1 at *
  generalize markL T.marks r = x2 at *
  generalize wholeI T.pairs r = x3 at *
  generalize ofL r T.drops = x4 at *
  generalize fromI T.folds r = x5 at *
  clear h hx0
  go_enter Tryz.func86, Tryz.ntmps86
  cases x1 with
  | false =>
    go_wp2_with (go_at_call 78; refine (h1.out _).mono ?_; rintro e w' ⟨rfl, rfl⟩)
    go_ret
    exact ⟨by rw [show plainL T r = false by rw [HP.out]; simp]; rfl, X0.out.below⟩
  | true =>
    go_wp2_with fail
    refine (h1.out _).mono ?_
    rintro e w' ⟨rfl, rfl⟩
    cases x2 with
    | true =>
      go_wp2_with fail
      refine (h2.out _ X0.out.below).mono ?_
      rintro e w1 ⟨rfl, hb1⟩
      have X1 := Lib.hid (X0.out.step hb1)
      clear b0 b1 b2 b3 b4 b5 b6 b7
      obtain ⟨b0, b1, b2, b3, b4, b5, b6, b7⟩ := X1.out.boxF
      go_wp2_with fail
      go_ret
      exact ⟨by rw [show plainL T r = false by rw [HP.out]; simp]; rfl, X1.out.below⟩
    | false =>
      go_wp2_with fail
      refine (h2.out _ X0.out.below).mono ?_
      rintro e w1 ⟨rfl, hb1⟩
      have X1 := Lib.hid (X0.out.step hb1)
      clear b0 b1 b2 b3 b4 b5 b6 b7
      obtain ⟨b0, b1, b2, b3, b4, b5, b6, b7⟩ := X1.out.boxF
      by_cases g3 : x3 < 0
      · have G3 := Lib.hid g3
        go_wp2_with fail
        refine (h3.out _ X1.out.below).mono ?_
        rintro e w2 ⟨rfl, hb2⟩
        have X2 := Lib.hid (X1.out.step hb2)
        clear b0 b1 b2 b3 b4 b5 b6 b7
        obtain ⟨b0, b1, b2, b3, b4, b5, b6, b7⟩ := X2.out.boxF
        cases x4 with
        | true =>
          go_wp2_with fail
          refine (h4.out _ X2.out.below).mono ?_
          rintro e w3 ⟨rfl, hb3⟩
          have X3 := Lib.hid (X2.out.step hb3)
          clear b0 b1 b2 b3 b4 b5 b6 b7
          obtain ⟨b0, b1, b2, b3, b4, b5, b6, b7⟩ := X3.out.boxF
          go_wp2_with fail
          go_ret
          exact ⟨by rw [show plainL T r = false by rw [HP.out]; simp]; rfl, X3.out.below⟩
        | false =>
          go_wp2_with fail
          refine (h4.out _ X2.out.below).mono ?_
          rintro e w3 ⟨rfl, hb3⟩
          have X3 := Lib.hid (X2.out.step hb3)
          clear b0 b1 b2 b3 b4 b5 b6 b7
          obtain ⟨b0, b1, b2, b3, b4, b5, b6, b7⟩ := X3.out.boxF
          go_wp2_with fail
          refine (h5.out _ X3.out.below).mono ?_
          rintro e w4 ⟨rfl, hb4⟩
          have X4 := Lib.hid (X3.out.step hb4)
          clear b0 b1 b2 b3 b4 b5 b6 b7
          obtain ⟨b0, b1, b2, b3, b4, b5, b6, b7⟩ := X4.out.boxF
          go_wp2_with fail
          go_ret
          exact ⟨by rw [show plainL T r = decide (x5 < 0) by rw [HP.out, decide_eq_true G3.out]; rfl]; rfl, X4.out.below⟩
      · have G3 := Lib.hid g3
        go_wp2_with fail
        refine (h3.out _ X1.out.below).mono ?_
        rintro e w2 ⟨rfl, hb2⟩
        have X2 := Lib.hid (X1.out.step hb2)
        clear b0 b1 b2 b3 b4 b5 b6 b7
        obtain ⟨b0, b1, b2, b3, b4, b5, b6, b7⟩ := X2.out.boxF
        go_wp2_with fail
        go_ret
        exact ⟨by rw [show plainL T r = false by rw [HP.out, decide_eq_false (show ¬ x3 < 0 by have := G3.out; omega)]; rfl]; rfl, X2.out.below⟩

end
section
open Go.RowKit
set_option linter.unusedVariables false
/-- does a text hold a set rune -/
def setsOf (s : ByteArray) : Bool := match runesOf s with | none => false | some rs => rs.any setR

set_option maxRecDepth 100000 in
set_option maxHeartbeats 4000000 in
theorem ref_sets (HRU : RunesOK) (s : ByteArray) (w : World) (hm : s.size ≤ 2097152) :
    Calls Tryz.prog 126 #[.string s] w fun e w' => e = .returned (.bool (setsOf s)) ∧ Below w.heap.size w w' := by
  have HU := Lib.hid (HRU s w hm)
  unfold RunesRes at HU
  have Hx : Hid (setsOf s = match runesOf s with | none => false | some rs => rs.any setR) := Lib.hid rfl
  go_enter Tryz.func126, Tryz.ntmps126
  go_wp2_with fail
  refine HU.out.mono ?_
  rintro e w2 ⟨hr, hb2⟩
  obtain ⟨rs, A, c, b, rfl, hat, hlen, hv⟩ : ∃ (rs : List Int) (A : Option Addr) (c : Nat) (b : Bool), e = .returned (.tuple #[.slice A rs.length c, .bool b]) ∧ RunesAtZ w2 A rs ∧ rs.length ≤ s.size ∧ setsOf s = rs.any setR := by
    cases hru : runesOf s with
    | none =>
      rw [hru] at hr
      exact ⟨[], none, 0, false, hr, fun h => absurd h (by simp), Nat.zero_le _, by rw [Hx.out, hru]; rfl⟩
    | some rs =>
      rw [hru] at hr
      obtain ⟨A, c, h1, h2, h3⟩ := hr
      exact ⟨rs, A, c, true, h1, h2, h3, by rw [Hx.out, hru]⟩
  obtain ⟨n, hn⟩ : ∃ n, rs.length = n := ⟨_, rfl⟩
  rw [hn] at hlen
  rw [hn]
  have Hn := Lib.hid hn
  have Hat := Lib.hid hat
  have Hv := Lib.hid hv
  have Hb2 := Lib.hid hb2
  have HS := Lib.hid (fun r w => ref_set r w)
  clear hn hat hv hb2 hr HU Hx
  go_wp2_with fail
  go_loopw [5] (fun i wr => ∃ k : Nat, k ≤ n ∧ i = .int .i64 (k : Int) ∧ (rs.take k).any setR = false ∧ wr = w2) (fun i _ => n - (intOf i).toNat)
  case atStart => exact ⟨0, Nat.zero_le _, rfl, by simp, rfl⟩
  case round =>
    obtain ⟨k, hk, rfl, hany, rfl⟩ := hrel
    have Hany := Lib.hid hany
    clear hany
    by_cases hlt : k < n
    · obtain ⟨a, rfl, hg, hc⟩ := Hat.out (by rw [Hn.out]; omega)
      have c0 := hc k (by rw [Hn.out]; exact hlt)
      obtain ⟨r, hr⟩ : ∃ r, rs[k]? = some r := ⟨_, List.getElem?_eq_getElem (by rw [Hn.out]; exact hlt)⟩
      rw [show rs.getD k 0 = r by rw [List.getD_eq_getElem?_getD, hr]; rfl] at c0
      have Hs := Lib.hid (any_take_succ rs setR k r hr)
      have Hm : Hid (setR r = true → rs.any setR = true) := Lib.hid (fun h => any_of_get hr h)
      have k0 : (0 : Int) ≤ (k : Int) := by omega
      have k1 : (k : Int) < (n : Int) := by omega
      clear hc hr
      cases hst : setR r with
      | true =>
        have H1 : Hid (∀ w0, Calls Tryz.prog 127 #[.int .i32 r] w0 fun e w' => e = .returned (.bool true) ∧ w0 = w') := Lib.hid (fun w0 => by have h := HS.out r w0; rw [hst] at h; exact h)
        go_wp2_with (go_at_call 127; refine (H1.out _).mono ?_; rintro e w' ⟨rfl, rfl⟩)
        go_ret
        exact ⟨by rw [Hv.out, Hm.out hst]; rfl, Hb2.out⟩
      | false =>
        have H1 : Hid (∀ w0, Calls Tryz.prog 127 #[.int .i32 r] w0 fun e w' => e = .returned (.bool false) ∧ w0 = w') := Lib.hid (fun w0 => by have h := HS.out r w0; rw [hst] at h; exact h)
        go_wp2_with (go_at_call 127; refine (H1.out _).mono ?_; rintro e w' ⟨rfl, rfl⟩)
        go_roundw
        case rel => exact ⟨k + 1, by omega, by go_num, by rw [Hs.out, Hany.out, hst]; rfl, trivial⟩
        case measure => simp [intOf]; omega
    · have hkn : n = k := by omega
      subst hkn
      go_wp2_with fail
      go_ret
      exact ⟨by rw [Hv.out, take_all Hany.out Hn.out]; rfl, Hb2.out⟩

end
section
open Go.RowKit
set_option linter.unusedVariables false
def comB (T : Tab) (j : Nat) : Bool := j == 2 || ofL (45 + (j : Int)) T.common
def comW (T : Tab) : Option (Int × Int × Int) := if (List.range 13).all (comB T) = true then none else some (5, 2, 0)
def lowM (_ : Nat) (m : MarkT) : Int := if lowR m.r = true then 5 else 0
def lowP (_ : Nat) (p : PairT) : Int := if lowR p.whole = true then 5 else 0
def rowF (_ : Nat) (m : MapT) : Int := if (lowR m.frm = true ∧ (m.frm < 65 ∨ 90 < m.frm)) ∨ setsOf m.to = true then 5 else 0
def rowL (_ : Nat) (m : MapT) : Int := if setR m.frm = true ∨ setsOf m.to = true then 5 else 0
def rowsW (T : Tab) : Option (Int × Int × Int) := orW (comW T) (orW (scan lowM 3 0 T.marks) (orW (scan lowP 4 0 T.pairs) (orW (scan rowF 5 0 T.folds) (scan rowL 6 0 T.looks))))
theorem comW_bad {T : Tab} {k : Nat} (hk : k < 13) (h : comB T k = false) : comW T = some (5, 2, 0) := by
  unfold comW
  rw [if_neg]
  intro hall
  have := List.all_eq_true.1 hall k (List.mem_range.2 hk)
  rw [h] at this; cases this
theorem comW_good {T : Tab} (h : ∀ j, j < 13 → comB T j = true) : comW T = none := by
  unfold comW
  rw [if_pos]
  exact List.all_eq_true.2 (fun j hj => h j (List.mem_range.1 hj))

set_option maxRecDepth 100000 in
set_option maxHeartbeats 8000000 in
theorem ref_rows (HRU : RunesOK) {w : World} {v0 v1 v2 v3 v4 v5 v6 v7 : Value} (T : Tab) (h : TabAt w v0 v1 v2 v3 v4 v5 v6 v7 T) (hok : TabOk T) :
    Calls Tryz.prog 87 #[.agg #[v0, v1, v2, v3, v4, v5, v6, v7]] w fun e w' => e = .returned (wrongV (rowsW T)) ∧ Below w.heap.size w w' := by
  have HO := Lib.hid hok
  obtain ⟨A2, c2, rfl, hn2⟩ := h.marks.form
  obtain ⟨A3, c3, rfl, hn3⟩ := h.pairs.form
  obtain ⟨A4, c4, rfl, hn4⟩ := h.folds.form
  obtain ⟨A5, c5, rfl, hn5⟩ := h.looks.form
  have HT := Lib.hid h
  obtain ⟨n2, hln2⟩ : ∃ n, T.marks.length = n := ⟨_, rfl⟩
  rw [hln2] at HT hn2
  rw [hln2]
  have HLn2 := Lib.hid hln2
  clear hln2
  obtain ⟨n3, hln3⟩ : ∃ n, T.pairs.length = n := ⟨_, rfl⟩
  rw [hln3] at HT hn3
  rw [hln3]
  have HLn3 := Lib.hid hln3
  clear hln3
  obtain ⟨n4, hln4⟩ : ∃ n, T.folds.length = n := ⟨_, rfl⟩
  rw [hln4] at HT hn4
  rw [hln4]
  have HLn4 := Lib.hid hln4
  clear hln4
  obtain ⟨n5, hln5⟩ : ∃ n, T.looks.length = n := ⟨_, rfl⟩
  rw [hln5] at HT hn5
  rw [hln5]
  have HLn5 := Lib.hid hln5
  clear hln5
  clear h hok
  go_enter Tryz.func87, Tryz.ntmps87
  go_wp2_with fail
  go_loopw [3] (fun i wr => ∃ k : Nat, k ≤ 13 ∧ i = .int .i32 (45 + (k : Int)) ∧ (∀ j, j < k → comB T j = true) ∧ RS w v0 v1 (.slice A2 n2 c2) (.slice A3 n3 c3) (.slice A4 n4 c4) (.slice A5 n5 c5) v6 v7 wr) (fun i _ => 13 - ((intOf i).toNat - 45))
  case atStart => exact ⟨0, Nat.zero_le _, rfl, fun j h => absurd h (Nat.not_lt_zero _), RS.start _ _ _ _ _ _ _ _ _⟩
  case round =>
    obtain ⟨k, hk, rfl, hno, hrs⟩ := hrel
    have Hno := Lib.hid hno
    have Hr := Lib.hid hrs
    obtain ⟨b0, b1, b2, b3, b4, b5, b6, b7⟩ := hrs.boxF
    by_cases hlt : k < 13
    · have k1 : (45 : Int) + (k : Int) ≤ 57 := by omega
      have hof := ref_Of T.common (HT.out.common.below hrs.below) (45 + (k : Int))
      have HO1 := Lib.hid hof
      clear hno hrs hof
      have Hs : Hid (comB T k = true → ∀ j, j < k + 1 → comB T j = true) := Lib.hid (fun h j hj => by
        by_cases e : j = k
        · rw [e]; exact h
        · exact Hno.out j (by omega))
      by_cases h2 : k = 2
      · have t1 : ((45 : Int) + (k : Int) != 47) = false := by rw [bne_eq_false_iff_eq]; omega
        have H2 := Lib.hid h2
        clear h2
        go_wp2_with fail
        go_roundw
        case rel => exact ⟨k + 1, by omega, by go_num, Hs.out (by unfold comB; rw [H2.out]; rfl), Hr.out⟩
        case measure => simp [intOf]; omega
      · have t1 : ((45 : Int) + (k : Int) != 47) = true := by rw [bne_iff_ne]; omega
        have H2 := Lib.hid h2
        have H3 : Hid (comB T k = ofL (45 + (k : Int)) T.common) := Lib.hid (by unfold comB; rw [show (k == 2) = false by simpa using h2]; rfl)
        clear h2
        cases hof : ofL (45 + (k : Int)) T.common with
        | false =>
          have H1 : Hid (Calls Tryz.prog 83 #[.int .i32 (45 + (k : Int)), v1] wr fun e w' => e = .returned (.bool false) ∧ ∃ q, wr.drewN q = w') := Lib.hid (by have h := HO1.out; rw [hof] at h; exact h)
          obtain ⟨r1, r2, r3, f1, f2, f3⟩ := Hr.out.resF
          go_wp2_with (go_at_call 83; refine H1.out.mono ?_; rintro e w2 ⟨rfl, nq, rfl⟩)
          obtain ⟨hB, hW⟩ := ((Hr.out.step (below_dr wr nq))).ret (.int .i64 5) (.int .i64 2) (.int .i64 0)
          obtain ⟨s1, s2, s3, -, -, -⟩ := wrong_facts hB
          refine bodyPost_ret (v := .agg #[.int .i64 5, .int .i64 2, .int .i64 0]) ?_ rfl ⟨?_, hW⟩
          · simp [results, Tryz.results87, go_sem, s1, s2, s3]
          · rw [show rowsW T = some (5, 2, 0) by unfold rowsW; rw [comW_bad hlt (by rw [H3.out]; exact hof)]; rfl]
            rfl
        | true =>
          have H1 : Hid (Calls Tryz.prog 83 #[.int .i32 (45 + (k : Int)), v1] wr fun e w' => e = .returned (.bool true) ∧ ∃ q, wr.drewN q = w') := Lib.hid (by have h := HO1.out; rw [hof] at h; exact h)
          go_wp2_with (go_at_call 83; refine H1.out.mono ?_; rintro e w2 ⟨rfl, nq, rfl⟩)
          go_roundw
          case rel => exact ⟨k + 1, by omega, by go_num, Hs.out (by rw [H3.out]; exact hof), Hr.out.step (below_dr wr nq)⟩
          case measure => simp [intOf]; omega
    · have hkn : k = 13 := by omega
      have HC0 : Hid (comW T = none) := Lib.hid (comW_good (by rw [← hkn]; exact hno))
      have k1 : ¬ (45 : Int) + (k : Int) ≤ 57 := by omega
      obtain ⟨zz, hzz⟩ : ∃ z : Int, (45 : Int) + (k : Int) = z := ⟨_, rfl⟩
      rw [hzz] at k1 ⊢
      clear hno hrs Hno hkn hlt hk hzz
      go_wp2_with fail
      clear k1
      clear b0 b1 b2 b3 b4 b5 b6 b7
      go_loopw [4] (fun i wr => ∃ k : Nat, k ≤ n2 ∧ i = .int .i64 (k : Int) ∧ NoneTo (lowM) T.marks k ∧ RS w v0 v1 (.slice A2 n2 c2) (.slice A3 n3 c3) (.slice A4 n4 c4) (.slice A5 n5 c5) v6 v7 wr) (fun i _ => n2 - (intOf i).toNat)
      case atStart => exact ⟨0, Nat.zero_le _, rfl, NoneTo.zero _ _, Hr.out⟩
      case round =>
        clear Hr
        obtain ⟨k, hk, rfl, hno, hrs⟩ := hrel
        have Hno := Lib.hid hno
        have Hr := Lib.hid hrs
        obtain ⟨b0, b1, b2, b3, b4, b5, b6, b7⟩ := hrs.boxF
        by_cases hlt : k < n2
        · obtain ⟨m, hm⟩ : ∃ m, T.marks[k]? = some m := ⟨_, List.getElem?_eq_getElem (by rw [HLn2.out]; exact hlt)⟩
          obtain ⟨a, rfl, e0, e1⟩ := el2 HT.out.marks hrs.below hm rfl
          have Hm := Lib.hid hm
          have k0 : (0 : Int) ≤ (k : Int) := by omega
          have k1 : (k : Int) < (n2 : Int) := by omega
          have HLw := Lib.hid (fun r b (hb : lowR r = b) w0 => (ref_low r w0).mono (R' := fun e w' => e = .returned (.bool b) ∧ w0 = w') (fun e w' h => ⟨by rw [← hb]; exact h.1, h.2⟩))
          clear hno hrs hm
          cases hr : lowR m.r with
          | true =>
            have H0 : Hid (lowM k m = 5) := Lib.hid (by unfold lowM; rw [if_pos hr])
            obtain ⟨r1, r2, r3, f1, f2, f3⟩ := Hr.out.resF
            go_wp2_with (go_at_call 125; refine (HLw.out _ _ (by assumption) _).mono ?_; rintro e w' ⟨rfl, rfl⟩)
            obtain ⟨hB, hW⟩ := (Hr.out).ret (.int .i64 5) (.int .i64 3) (.int .i64 (k : Int))
            obtain ⟨s1, s2, s3, -, -, -⟩ := wrong_facts hB
            refine bodyPost_ret (v := .agg #[.int .i64 5, .int .i64 3, .int .i64 (k : Int)]) ?_ rfl ⟨?_, hW⟩
            · simp [results, Tryz.results87, go_sem, s1, s2, s3]
            · rw [show rowsW T = some (5, 3, (k : Int)) by unfold rowsW; rw [HC0.out, Hno.out.found Hm.out (by rw [H0.out]; decide) 3, H0.out]; first | done | rfl]
              rfl
          | false =>
            have H0 : Hid (lowM k m = 0) := Lib.hid (by unfold lowM; rw [if_neg (by rw [hr]; simp)])
            go_wp2_with (go_at_call 125; refine (HLw.out _ _ (by assumption) _).mono ?_; rintro e w' ⟨rfl, rfl⟩)
            go_roundw
            case rel => exact ⟨k + 1, by omega, by go_num, Hno.out.succ Hm.out H0.out, Hr.out⟩
            case measure => simp [intOf]; omega
        · have hkn : n2 = k := by omega
          subst hkn
          have HN1 : Hid (scan (lowM) 3 0 T.marks = none) := Lib.hid (NoneTo.all (by rw [HLn2.out]; exact Hno.out) 3)
          clear Hno hno hrs
          go_wp2_with fail
          clear b0 b1 b2 b3 b4 b5 b6 b7
          go_loopw [5] (fun i wr => ∃ k : Nat, k ≤ n3 ∧ i = .int .i64 (k : Int) ∧ NoneTo (lowP) T.pairs k ∧ RS w v0 v1 (.slice A2 n2 c2) (.slice A3 n3 c3) (.slice A4 n4 c4) (.slice A5 n5 c5) v6 v7 wr) (fun i _ => n3 - (intOf i).toNat)
          case atStart => exact ⟨0, Nat.zero_le _, rfl, NoneTo.zero _ _, Hr.out⟩
          case round =>
            clear Hr
            obtain ⟨k, hk, rfl, hno, hrs⟩ := hrel
            have Hno := Lib.hid hno
            have Hr := Lib.hid hrs
            obtain ⟨b0, b1, b2, b3, b4, b5, b6, b7⟩ := hrs.boxF
            by_cases hlt : k < n3
            · obtain ⟨m, hm⟩ : ∃ m, T.pairs[k]? = some m := ⟨_, List.getElem?_eq_getElem (by rw [HLn3.out]; exact hlt)⟩
              obtain ⟨a, rfl, e0, e1, e2⟩ := el3 HT.out.pairs hrs.below hm rfl
              have Hm := Lib.hid hm
              have k0 : (0 : Int) ≤ (k : Int) := by omega
              have k1 : (k : Int) < (n3 : Int) := by omega
              have HLw := Lib.hid (fun r b (hb : lowR r = b) w0 => (ref_low r w0).mono (R' := fun e w' => e = .returned (.bool b) ∧ w0 = w') (fun e w' h => ⟨by rw [← hb]; exact h.1, h.2⟩))
              clear hno hrs hm
              cases hr : lowR m.whole with
              | true =>
                have H0 : Hid (lowP k m = 5) := Lib.hid (by unfold lowP; rw [if_pos hr])
                obtain ⟨r1, r2, r3, f1, f2, f3⟩ := Hr.out.resF
                go_wp2_with (go_at_call 125; refine (HLw.out _ _ (by assumption) _).mono ?_; rintro e w' ⟨rfl, rfl⟩)
                obtain ⟨hB, hW⟩ := (Hr.out).ret (.int .i64 5) (.int .i64 4) (.int .i64 (k : Int))
                obtain ⟨s1, s2, s3, -, -, -⟩ := wrong_facts hB
                refine bodyPost_ret (v := .agg #[.int .i64 5, .int .i64 4, .int .i64 (k : Int)]) ?_ rfl ⟨?_, hW⟩
                · simp [results, Tryz.results87, go_sem, s1, s2, s3]
                · rw [show rowsW T = some (5, 4, (k : Int)) by unfold rowsW; rw [HC0.out, HN1.out, Hno.out.found Hm.out (by rw [H0.out]; decide) 4, H0.out]; first | done | rfl]
                  rfl
              | false =>
                have H0 : Hid (lowP k m = 0) := Lib.hid (by unfold lowP; rw [if_neg (by rw [hr]; simp)])
                go_wp2_with (go_at_call 125; refine (HLw.out _ _ (by assumption) _).mono ?_; rintro e w' ⟨rfl, rfl⟩)
                go_roundw
                case rel => exact ⟨k + 1, by omega, by go_num, Hno.out.succ Hm.out H0.out, Hr.out⟩
                case measure => simp [intOf]; omega
            · have hkn : n3 = k := by omega
              subst hkn
              have HN2 : Hid (scan (lowP) 4 0 T.pairs = none) := Lib.hid (NoneTo.all (by rw [HLn3.out]; exact Hno.out) 4)
              clear Hno hno hrs
              go_wp2_with fail
              clear b0 b1 b2 b3 b4 b5 b6 b7
              go_loopw [6, 7] (fun i _ wr => ∃ k : Nat, k ≤ n4 ∧ i = .int .i64 (k : Int) ∧ NoneTo (rowF) T.folds k ∧ RS w v0 v1 (.slice A2 n2 c2) (.slice A3 n3 c3) (.slice A4 n4 c4) (.slice A5 n5 c5) v6 v7 wr) (fun i _ _ => n4 - (intOf i).toNat)
              case atStart => exact ⟨0, Nat.zero_le _, rfl, NoneTo.zero _ _, Hr.out⟩
              case round =>
                clear Hr
                obtain ⟨k, hk, rfl, hno, hrs⟩ := hrel
                have Hno := Lib.hid hno
                have Hr := Lib.hid hrs
                obtain ⟨b0, b1, b2, b3, b4, b5, b6, b7⟩ := hrs.boxF
                by_cases hlt : k < n4
                · obtain ⟨m, hm⟩ : ∃ m, T.folds[k]? = some m := ⟨_, List.getElem?_eq_getElem (by rw [HLn4.out]; exact hlt)⟩
                  obtain ⟨a, rfl, e0, e1⟩ := el2 HT.out.folds hrs.below hm rfl
                  have Hm := Lib.hid hm
                  have k0 : (0 : Int) ≤ (k : Int) := by omega
                  have k1 : (k : Int) < (n4 : Int) := by omega
                  have HLw := Lib.hid (fun r b (hb : lowR r = b) w0 => (ref_low r w0).mono (R' := fun e w' => e = .returned (.bool b) ∧ w0 = w') (fun e w' h => ⟨by rw [← hb]; exact h.1, h.2⟩))
                  have hsz := (HO.out.folds m (List.mem_of_getElem? hm)).2
                  have HSt := Lib.hid (fun b (hb : setsOf m.to = b) w0 => (ref_sets HRU m.to w0 hsz).mono (R' := fun e w' => e = .returned (.bool b) ∧ Below w0.heap.size w0 w') (fun e w' h => ⟨by rw [← hb]; exact h.1, h.2⟩))
                  clear hno hrs hm
                  cases hr : lowR m.frm with
                  | false =>
                    cases hs : setsOf m.to with
                    | true =>
                      have H0 : Hid (rowF k m = 5) := Lib.hid (by unfold rowF; rw [if_pos (.inr hs)])
                      go_wp2_with (first | (go_at_call 125; refine (HLw.out _ _ (by assumption) _).mono ?_; rintro e w' ⟨rfl, rfl⟩) | (go_at_call 126; refine (HSt.out _ (by assumption) _).mono ?_; rintro e w2 ⟨rfl, hb2⟩; obtain ⟨r1, r2, r3, f1, f2, f3⟩ := (Hr.out.step hb2).resF))
                      obtain ⟨hB, hW⟩ := ((Hr.out.step hb2)).ret (.int .i64 5) (.int .i64 5) (.int .i64 (k : Int))
                      obtain ⟨s1, s2, s3, -, -, -⟩ := wrong_facts hB
                      refine bodyPost_ret (v := .agg #[.int .i64 5, .int .i64 5, .int .i64 (k : Int)]) ?_ rfl ⟨?_, hW⟩
                      · simp [results, Tryz.results87, go_sem, s1, s2, s3]
                      · rw [show rowsW T = some (5, 5, (k : Int)) by unfold rowsW; rw [HC0.out, HN1.out, HN2.out, Hno.out.found Hm.out (by rw [H0.out]; decide) 5, H0.out]; first | done | rfl]
                        rfl
                    | false =>
                      have H0 : Hid (rowF k m = 0) := Lib.hid (by unfold rowF; rw [if_neg (by rw [hs]; rw [hr]; simp)])
                      go_wp2_with (first | (go_at_call 125; refine (HLw.out _ _ (by assumption) _).mono ?_; rintro e w' ⟨rfl, rfl⟩) | (go_at_call 126; refine (HSt.out _ (by assumption) _).mono ?_; rintro e w2 ⟨rfl, hb2⟩))
                      go_roundw
                      case rel => exact ⟨k + 1, by omega, by go_num, Hno.out.succ Hm.out H0.out, Hr.out.step hb2⟩
                      case measure => simp [intOf]; omega
                  | true =>
                    by_cases h1 : m.frm < 65
                    · skip
                      have H0 : Hid (rowF k m = 5) := Lib.hid (by unfold rowF; rw [if_pos (.inl ⟨hr, by omega⟩)])
                      obtain ⟨r1, r2, r3, f1, f2, f3⟩ := Hr.out.resF
                      go_wp2_with (go_at_call 125; refine (HLw.out _ _ (by assumption) _).mono ?_; rintro e w' ⟨rfl, rfl⟩)
                      obtain ⟨hB, hW⟩ := (Hr.out).ret (.int .i64 5) (.int .i64 5) (.int .i64 (k : Int))
                      obtain ⟨s1, s2, s3, -, -, -⟩ := wrong_facts hB
                      refine bodyPost_ret (v := .agg #[.int .i64 5, .int .i64 5, .int .i64 (k : Int)]) ?_ rfl ⟨?_, hW⟩
                      · simp [results, Tryz.results87, go_sem, s1, s2, s3]
                      · rw [show rowsW T = some (5, 5, (k : Int)) by unfold rowsW; rw [HC0.out, HN1.out, HN2.out, Hno.out.found Hm.out (by rw [H0.out]; decide) 5, H0.out]; first | done | rfl]
                        rfl
                    · by_cases h2 : 90 < m.frm
                      · skip
                        have H0 : Hid (rowF k m = 5) := Lib.hid (by unfold rowF; rw [if_pos (.inl ⟨hr, by omega⟩)])
                        obtain ⟨r1, r2, r3, f1, f2, f3⟩ := Hr.out.resF
                        go_wp2_with (go_at_call 125; refine (HLw.out _ _ (by assumption) _).mono ?_; rintro e w' ⟨rfl, rfl⟩)
                        obtain ⟨hB, hW⟩ := (Hr.out).ret (.int .i64 5) (.int .i64 5) (.int .i64 (k : Int))
                        obtain ⟨s1, s2, s3, -, -, -⟩ := wrong_facts hB
                        refine bodyPost_ret (v := .agg #[.int .i64 5, .int .i64 5, .int .i64 (k : Int)]) ?_ rfl ⟨?_, hW⟩
                        · simp [results, Tryz.results87, go_sem, s1, s2, s3]
                        · rw [show rowsW T = some (5, 5, (k : Int)) by unfold rowsW; rw [HC0.out, HN1.out, HN2.out, Hno.out.found Hm.out (by rw [H0.out]; decide) 5, H0.out]; first | done | rfl]
                          rfl
                      · skip
                        cases hs : setsOf m.to with
                        | true =>
                          have H0 : Hid (rowF k m = 5) := Lib.hid (by unfold rowF; rw [if_pos (.inr hs)])
                          go_wp2_with (first | (go_at_call 125; refine (HLw.out _ _ (by assumption) _).mono ?_; rintro e w' ⟨rfl, rfl⟩) | (go_at_call 126; refine (HSt.out _ (by assumption) _).mono ?_; rintro e w2 ⟨rfl, hb2⟩; obtain ⟨r1, r2, r3, f1, f2, f3⟩ := (Hr.out.step hb2).resF))
                          obtain ⟨hB, hW⟩ := ((Hr.out.step hb2)).ret (.int .i64 5) (.int .i64 5) (.int .i64 (k : Int))
                          obtain ⟨s1, s2, s3, -, -, -⟩ := wrong_facts hB
                          refine bodyPost_ret (v := .agg #[.int .i64 5, .int .i64 5, .int .i64 (k : Int)]) ?_ rfl ⟨?_, hW⟩
                          · simp [results, Tryz.results87, go_sem, s1, s2, s3]
                          · rw [show rowsW T = some (5, 5, (k : Int)) by unfold rowsW; rw [HC0.out, HN1.out, HN2.out, Hno.out.found Hm.out (by rw [H0.out]; decide) 5, H0.out]; first | done | rfl]
                            rfl
                        | false =>
                          have H0 : Hid (rowF k m = 0) := Lib.hid (by unfold rowF; rw [if_neg (by rw [hs]; rintro (⟨_, h⟩ | h) <;> first | omega | cases h)])
                          go_wp2_with (first | (go_at_call 125; refine (HLw.out _ _ (by assumption) _).mono ?_; rintro e w' ⟨rfl, rfl⟩) | (go_at_call 126; refine (HSt.out _ (by assumption) _).mono ?_; rintro e w2 ⟨rfl, hb2⟩))
                          go_roundw
                          case rel => exact ⟨k + 1, by omega, by go_num, Hno.out.succ Hm.out H0.out, Hr.out.step hb2⟩
                          case measure => simp [intOf]; omega
                · have hkn : n4 = k := by omega
                  subst hkn
                  have HN3 : Hid (scan (rowF) 5 0 T.folds = none) := Lib.hid (NoneTo.all (by rw [HLn4.out]; exact Hno.out) 5)
                  clear Hno hno hrs
                  go_wp2_with fail
                  clear b0 b1 b2 b3 b4 b5 b6 b7
                  go_loopw [8] (fun i wr => ∃ k : Nat, k ≤ n5 ∧ i = .int .i64 (k : Int) ∧ NoneTo (rowL) T.looks k ∧ RS w v0 v1 (.slice A2 n2 c2) (.slice A3 n3 c3) (.slice A4 n4 c4) (.slice A5 n5 c5) v6 v7 wr) (fun i _ => n5 - (intOf i).toNat)
                  case atStart => exact ⟨0, Nat.zero_le _, rfl, NoneTo.zero _ _, Hr.out⟩
                  case round =>
                    clear Hr
                    obtain ⟨k, hk, rfl, hno, hrs⟩ := hrel
                    have Hno := Lib.hid hno
                    have Hr := Lib.hid hrs
                    obtain ⟨b0, b1, b2, b3, b4, b5, b6, b7⟩ := hrs.boxF
                    by_cases hlt : k < n5
                    · obtain ⟨m, hm⟩ : ∃ m, T.looks[k]? = some m := ⟨_, List.getElem?_eq_getElem (by rw [HLn5.out]; exact hlt)⟩
                      obtain ⟨a, rfl, e0, e1⟩ := el2 HT.out.looks hrs.below hm rfl
                      have Hm := Lib.hid hm
                      have k0 : (0 : Int) ≤ (k : Int) := by omega
                      have k1 : (k : Int) < (n5 : Int) := by omega
                      have HLw := Lib.hid (fun r b (hb : setR r = b) w0 => (ref_set r w0).mono (R' := fun e w' => e = .returned (.bool b) ∧ w0 = w') (fun e w' h => ⟨by rw [← hb]; exact h.1, h.2⟩))
                      have hsz := (HO.out.looks m (List.mem_of_getElem? hm)).2
                      have HSt := Lib.hid (fun b (hb : setsOf m.to = b) w0 => (ref_sets HRU m.to w0 hsz).mono (R' := fun e w' => e = .returned (.bool b) ∧ Below w0.heap.size w0 w') (fun e w' h => ⟨by rw [← hb]; exact h.1, h.2⟩))
                      clear hno hrs hm
                      cases hr : setR m.frm with
                      | true =>
                        have H0 : Hid (rowL k m = 5) := Lib.hid (by unfold rowL; rw [if_pos (.inl hr)])
                        obtain ⟨r1, r2, r3, f1, f2, f3⟩ := Hr.out.resF
                        go_wp2_with (go_at_call 127; refine (HLw.out _ _ (by assumption) _).mono ?_; rintro e w' ⟨rfl, rfl⟩)
                        obtain ⟨hB, hW⟩ := (Hr.out).ret (.int .i64 5) (.int .i64 6) (.int .i64 (k : Int))
                        obtain ⟨s1, s2, s3, -, -, -⟩ := wrong_facts hB
                        refine bodyPost_ret (v := .agg #[.int .i64 5, .int .i64 6, .int .i64 (k : Int)]) ?_ rfl ⟨?_, hW⟩
                        · simp [results, Tryz.results87, go_sem, s1, s2, s3]
                        · rw [show rowsW T = some (5, 6, (k : Int)) by unfold rowsW; rw [HC0.out, HN1.out, HN2.out, HN3.out, Hno.out.found Hm.out (by rw [H0.out]; decide) 6, H0.out]; first | done | rfl]
                          rfl
                      | false =>
                        cases hs : setsOf m.to with
                        | true =>
                          have H0 : Hid (rowL k m = 5) := Lib.hid (by unfold rowL; rw [if_pos (.inr hs)])
                          go_wp2_with (first | (go_at_call 127; refine (HLw.out _ _ (by assumption) _).mono ?_; rintro e w' ⟨rfl, rfl⟩) | (go_at_call 126; refine (HSt.out _ (by assumption) _).mono ?_; rintro e w2 ⟨rfl, hb2⟩; obtain ⟨r1, r2, r3, f1, f2, f3⟩ := (Hr.out.step hb2).resF))
                          obtain ⟨hB, hW⟩ := ((Hr.out.step hb2)).ret (.int .i64 5) (.int .i64 6) (.int .i64 (k : Int))
                          obtain ⟨s1, s2, s3, -, -, -⟩ := wrong_facts hB
                          refine bodyPost_ret (v := .agg #[.int .i64 5, .int .i64 6, .int .i64 (k : Int)]) ?_ rfl ⟨?_, hW⟩
                          · simp [results, Tryz.results87, go_sem, s1, s2, s3]
                          · rw [show rowsW T = some (5, 6, (k : Int)) by unfold rowsW; rw [HC0.out, HN1.out, HN2.out, HN3.out, Hno.out.found Hm.out (by rw [H0.out]; decide) 6, H0.out]; first | done | rfl]
                            rfl
                        | false =>
                          have H0 : Hid (rowL k m = 0) := Lib.hid (by unfold rowL; rw [if_neg (by rw [hs]; rw [hr]; simp)])
                          go_wp2_with (first | (go_at_call 127; refine (HLw.out _ _ (by assumption) _).mono ?_; rintro e w' ⟨rfl, rfl⟩) | (go_at_call 126; refine (HSt.out _ (by assumption) _).mono ?_; rintro e w2 ⟨rfl, hb2⟩))
                          go_roundw
                          case rel => exact ⟨k + 1, by omega, by go_num, Hno.out.succ Hm.out H0.out, Hr.out.step hb2⟩
                          case measure => simp [intOf]; omega
                    · have hkn : n5 = k := by omega
                      subst hkn
                      have HN4 : Hid (scan (rowL) 6 0 T.looks = none) := Lib.hid (NoneTo.all (by rw [HLn5.out]; exact Hno.out) 6)
                      obtain ⟨r1, r2, r3, f1, f2, f3⟩ := Hr.out.resF
                      clear Hno hno hrs
                      go_wp2_with fail
                      obtain ⟨hB, hW⟩ := (Hr.out).ret (.int .i64 0) (.int .i64 0) (.int .i64 0)
                      obtain ⟨s1, s2, s3, -, -, -⟩ := wrong_facts hB
                      refine bodyPost_ret (v := .agg #[.int .i64 0, .int .i64 0, .int .i64 0]) ?_ rfl ⟨?_, hW⟩
                      · simp [results, Tryz.results87, go_sem, s1, s2, s3]
                      · rw [show rowsW T = none by unfold rowsW; rw [HC0.out, HN1.out, HN2.out, HN3.out, HN4.out]; first | done | rfl]
                        rfl

end
end Go.Proofs.YtjmkdimbbacnfaaGreatDoor
