/- guisetop.few, guisekeep6.Large, guisekeep.Of. (Printed by gen_few.py.) Plain words for the spots of a text, over lists of bytes: no program, no memory. Plain laws of a text's spots: how they follow each other; lines. Plain laws: a text cut at a spot's beginning has the spots that it had. Plain laws: a byte that is no continuation byte begins a spot; the last spot is what is decoded from the end. Plain laws: where a text may be cut, by the decoder's answers near that place; what that says of two texts joined. Plain laws: runes to bytes and back; the text without bad bytes; the model's conversions. strings.Builder: copyCheck, WriteString, WriteRune at this dump (the shelf's walks at its own numbers). -/
import Derived.Test.YtjmkdimbbacnfaaGreatDoorGTabW
import Derived.Test.YtjmkdimbbacnfaaGreatDoorGTabK
import Derived.Test.YtjmkdimbbacnfaaGreatDoorGShA
import Derived.Test.YtjmkdimbbacnfaaGreatDoorGRefC
import Derived.BigRegion
import Derived.Lib.TrimUEq
import Derived.Lib.MapLaws
import Derived.Lib.RuneCount
import Derived.Lib.TrimAscii
import Derived.Lib.RuneBytes
import Derived.Lib.QuoteLoop
import Derived.Laws.Cover4
import Derived.Laws.IdiomStrings
namespace Go.Proofs.YtjmkdimbbacnfaaGreatDoor
section
open Go.RowKit
set_option linter.unusedVariables false
def scrN (l : List ScrT) (k : Nat) : Nat := ((l.take k).map fun s => 1 + s.spans.length).sum
theorem scrN_succ {l : List ScrT} {k : Nat} {x : ScrT} (h : l[k]? = some x) : scrN l (k + 1) = scrN l k + 1 + x.spans.length := by
  unfold scrN
  rw [List.take_add_one, h]
  simp
  omega
theorem scrN_all {l : List ScrT} {n : Nat} (h : l.length ≤ n) : scrN l n = scrN l l.length := by
  unfold scrN
  rw [List.take_of_length_le h, List.take_of_length_le (Nat.le_refl _)]
/-- more than a statement looks at -/
def rowsN (T : Tab) : Nat := T.common.length + T.marks.length + T.pairs.length + T.folds.length + T.looks.length + T.drops.length + T.allowed.length
def largeT (T : Tab) : Bool := decide (6000 < rowsN T + scrN T.scripts 200) || decide (100 < T.scripts.length)
def fewL (s : ByteArray) (n : Nat) : ByteArray := if n < s.size then s.extract 0 n else s
theorem top_few {w : World} (s : ByteArray) (n : Nat) (hs : s.size ≤ 2097152) (hn : n ≤ 2097152) :
    Calls Tryz.prog 6 #[.string s, .int .i64 (n : Int)] w fun e w' => e = .returned (.string (fewL s n)) ∧ Below w.heap.size w w' := by
  have k0 : (0 : Int) ≤ (n : Int) := by omega
  by_cases h : n < s.size
  · have k1 : (n : Int) < (s.size : Int) := by omega
    have k2 : (n : Int) ≤ (s.size : Int) := by omega
    go_enter Tryz.func6, Tryz.ntmps6
    go_wp2_with fail
    go_ret
    exact ⟨by unfold fewL; rw [if_pos h]; first | rfl | simp, Below.refl _ _⟩
  · have k1 : ¬ (n : Int) < (s.size : Int) := by omega
    go_enter Tryz.func6, Tryz.ntmps6
    go_wp2_with fail
    go_ret
    exact ⟨by unfold fewL; rw [if_neg h]; rfl, Below.refl _ _⟩
set_option maxRecDepth 100000 in
set_option maxHeartbeats 8000000 in
theorem keep_Large {w : World} {v0 v1 v2 v3 v4 v5 v6 v7 : Value} (T : Tab) (h : TabAt w v0 v1 v2 v3 v4 v5 v6 v7 T) :
    Calls Tryz.prog 9 #[.agg #[v0, v1, v2, v3, v4, v5, v6, v7]] w fun e w' => e = .returned (.bool (largeT T)) ∧ Below w.heap.size w w' := by
  have HT := Lib.hid h
  obtain ⟨A1, c1, rfl, hm1⟩ := h.common.form
  obtain ⟨A2, c2, rfl, hm2⟩ := h.marks.form
  obtain ⟨A3, c3, rfl, hm3⟩ := h.pairs.form
  obtain ⟨A4, c4, rfl, hm4⟩ := h.folds.form
  obtain ⟨A5, c5, rfl, hm5⟩ := h.looks.form
  obtain ⟨A6, c6, rfl, hm6⟩ := h.drops.form
  obtain ⟨A7, c7, rfl, hm7⟩ := h.allowed.form
  obtain ⟨scs, hl, hL, hs⟩ := h.scripts
  obtain ⟨A0, c0, rfl, hm0⟩ := hL.form
  have hz : (T.scripts.zip scs).length = T.scripts.length := by rw [List.length_zip, hl, Nat.min_self]
  rw [hz] at hm0
  obtain ⟨R, hR⟩ : ∃ R, rowsN T = R := ⟨_, rfl⟩
  have hR' := hR
  unfold rowsN at hR'
  obtain ⟨n1, hn1⟩ : ∃ n, T.common.length = n := ⟨_, rfl⟩
  simp only [hn1] at hm1 hR' HT ⊢
  obtain ⟨n2, hn2⟩ : ∃ n, T.marks.length = n := ⟨_, rfl⟩
  simp only [hn2] at hm2 hR' HT ⊢
  obtain ⟨n3, hn3⟩ : ∃ n, T.pairs.length = n := ⟨_, rfl⟩
  simp only [hn3] at hm3 hR' HT ⊢
  obtain ⟨n4, hn4⟩ : ∃ n, T.folds.length = n := ⟨_, rfl⟩
  simp only [hn4] at hm4 hR' HT ⊢
  obtain ⟨n5, hn5⟩ : ∃ n, T.looks.length = n := ⟨_, rfl⟩
  simp only [hn5] at hm5 hR' HT ⊢
  obtain ⟨n6, hn6⟩ : ∃ n, T.drops.length = n := ⟨_, rfl⟩
  simp only [hn6] at hm6 hR' HT ⊢
  obtain ⟨n7, hn7⟩ : ∃ n, T.allowed.length = n := ⟨_, rfl⟩
  simp only [hn7] at hm7 hR' HT ⊢
  obtain ⟨n0, hn0⟩ : ∃ n, T.scripts.length = n := ⟨_, rfl⟩
  simp only [hz, hn0] at hm0 HT hL ⊢
  have HL := Lib.hid hL
  have Hs := Lib.hid hs
  have Hl := Lib.hid hl
  have Hn0 := Lib.hid hn0
  have HR := Lib.hid hR
  clear hL hs hl hn0 h hz hn1 hn2 hn3 hn4 hn5 hn6 hn7 hR
  have g0 : (0 : Int) ≤ (n0 : Int) := by omega
  have g1 : (0 : Int) ≤ (n1 : Int) := by omega
  have g2 : (0 : Int) ≤ (n2 : Int) := by omega
  have g3 : (0 : Int) ≤ (n3 : Int) := by omega
  have g4 : (0 : Int) ≤ (n4 : Int) := by omega
  have g5 : (0 : Int) ≤ (n5 : Int) := by omega
  have g6 : (0 : Int) ≤ (n6 : Int) := by omega
  have g7 : (0 : Int) ≤ (n7 : Int) := by omega
  have Hbox : Hid (Blk (w.alloc (.cells #[.slice A0 n0 c0, .slice A1 n1 c1, .slice A2 n2 c2, .slice A3 n3 c3, .slice A4 n4 c4, .slice A5 n5 c5, .slice A6 n6 c6, .slice A7 n7 c7] 28)) w.heap.size 28 #[.slice A0 n0 c0, .slice A1 n1 c1, .slice A2 n2 c2, .slice A3 n3 c3, .slice A4 n4 c4, .slice A5 n5 c5, .slice A6 n6 c6, .slice A7 n7 c7]) := Lib.hid (Blk.new w _ _)
  go_enter Tryz.func9, Tryz.ntmps9
  go_wp2_with fail
  have hB0 : Below w.heap.size w (w.alloc (.cells #[.slice A0 n0 c0, .slice A1 n1 c1, .slice A2 n2 c2, .slice A3 n3 c3, .slice A4 n4 c4, .slice A5 n5 c5, .slice A6 n6 c6, .slice A7 n7 c7] 28)) := (Below.refl _ w).alloc (Nat.le_refl _) _
  obtain ⟨W0, hW0⟩ : ∃ W, (w.alloc (.cells #[.slice A0 n0 c0, .slice A1 n1 c1, .slice A2 n2 c2, .slice A3 n3 c3, .slice A4 n4 c4, .slice A5 n5 c5, .slice A6 n6 c6, .slice A7 n7 c7] 28)) = W := ⟨_, rfl⟩
  rw [hW0] at Hbox hB0 ⊢
  have HB0 := Lib.hid hB0
  clear hB0 hW0
  go_loopw [3, 4] (fun a i wr => ∃ (k : Nat) (N : Int), k ≤ n0 ∧ k ≤ 200 ∧ i = .int .i64 (k : Int) ∧ a = .int .i64 N ∧ N = (R + scrN T.scripts k : Nat) ∧ R + scrN T.scripts k ≤ 20000000 + k * 3000000 ∧ Below w.heap.size w wr ∧ Blk wr w.heap.size 28 #[.slice A0 n0 c0, .slice A1 n1 c1, .slice A2 n2 c2, .slice A3 n3 c3, .slice A4 n4 c4, .slice A5 n5 c5, .slice A6 n6 c6, .slice A7 n7 c7]) (fun _ i _ => n0 - (intOf i).toNat)
  case atStart => exact ⟨0, _, Nat.zero_le _, Nat.zero_le _, rfl, rfl, by simp [scrN]; omega, by simp [scrN]; omega, HB0.out, Hbox.out⟩
  case round =>
    clear Hbox HB0
    obtain ⟨k, N, hk, hk2, rfl, rfl, hN0, hN1, hb, hbx⟩ := hrel
    obtain ⟨S, hS⟩ : ∃ S, scrN T.scripts k = S := ⟨_, rfl⟩
    rw [hS] at hN0 hN1
    have HS := Lib.hid hS
    have hNb : 0 ≤ N ∧ N ≤ 20000000 + k * 3000000 := by omega
    have HN0 := Lib.hid hN0
    clear hS hN0
    have b0 : wr.cell? ⟨w.heap.size, 0, none⟩ = some (.slice A0 n0 c0) := hbx.cell 0
    have Hb := Lib.hid hb
    have Hbx := Lib.hid hbx
    clear hb hbx
    have k0 : (0 : Int) ≤ (k : Int) := by omega
    by_cases hlt : k < n0
    · have k1 : (k : Int) < (n0 : Int) := by omega
      by_cases h2 : k < 200
      · have k2 : (k : Int) < 200 := by omega
        obtain ⟨x, hx⟩ : ∃ x, T.scripts[k]? = some x := ⟨_, List.getElem?_eq_getElem (by rw [Hn0.out]; exact hlt)⟩
        obtain ⟨v, hv⟩ : ∃ v, scs[k]? = some v := ⟨_, List.getElem?_eq_getElem (by rw [Hl.out, Hn0.out]; exact hlt)⟩
        obtain ⟨a, rfl, -, e1⟩ := el2 (enc := fun p : ScrT × Value => [Value.string p.1.name, p.2]) (l := T.scripts.zip scs) (k := k) (m := (x, v)) HL.out Hb.out (by rw [List.getElem?_zip_eq_some]; exact ⟨hx, hv⟩) rfl
        obtain ⟨A9, c9, rfl, hm9⟩ := (Hs.out k x v hx hv).form
        obtain ⟨n9, hn9⟩ : ∃ n, x.spans.length = n := ⟨_, rfl⟩
        rw [hn9] at e1 hm9
        have HS1 := Lib.hid (scrN_succ hx)
        rw [hn9] at HS1
        clear hx hv hn9
        go_wp2_with fail
        go_roundw
        case rel => exact ⟨k + 1, _, by omega, by omega, by go_num, rfl, by rw [HS1.out, HS.out]; have := HN0.out; omega, by rw [HS1.out, HS.out]; omega, Hb.out, Hbx.out⟩
        case measure => simp [intOf]; omega
      · have k2 : ¬ (k : Int) < 200 := by omega
        have e200 : k = 200 := by omega
        have Hla : Hid (largeT T = (decide ((6000 : Int) < N) || decide ((100 : Int) < (n0 : Int)))) := Lib.hid (by
          subst e200
          unfold largeT
          rw [HR.out, HS.out, Hn0.out, HN0.out]
          congr 1 <;> (apply decide_eq_decide.2; omega))
        clear e200
        by_cases h6 : (6000 : Int) < N
        · go_wp2_with fail
          go_ret
          exact ⟨by rw [Hla.out]; simp [h6], Hb.out⟩
        · by_cases h7 : (100 : Int) < (n0 : Int)
          · go_wp2_with fail
            go_ret
            exact ⟨by rw [Hla.out]; simp [h7], Hb.out⟩
          · omega
    · have k1 : ¬ (k : Int) < (n0 : Int) := by omega
      have Hla : Hid (largeT T = (decide ((6000 : Int) < N) || decide ((100 : Int) < (n0 : Int)))) := Lib.hid (by
        have e : scrN T.scripts 200 = S := by rw [← HS.out, scrN_all (show T.scripts.length ≤ 200 by rw [Hn0.out]; omega), Hn0.out]; congr 1; omega
        unfold largeT
        rw [HR.out, e, Hn0.out, HN0.out]
        congr 1 <;> (try (apply decide_eq_decide.2; omega)))
      by_cases h6 : (6000 : Int) < N
      · go_wp2_with fail
        go_ret
        exact ⟨by rw [Hla.out]; simp [h6], Hb.out⟩
      · by_cases h7 : (100 : Int) < (n0 : Int)
        · go_wp2_with fail
          go_ret
          exact ⟨by rw [Hla.out]; simp [h7], Hb.out⟩
        · go_wp2_with fail
          go_ret
          exact ⟨by rw [Hla.out]; simp [h6, h7], Hb.out⟩

theorem wrongV_some (a b c : Int) : wrongV (some (a, b, c)) = .agg #[.int .i64 a, .int .i64 b, .int .i64 c] := rfl
theorem wrongV_none : wrongV none = .agg #[.int .i64 0, .int .i64 0, .int .i64 0] := rfl
theorem checkW_ne {T : Tab} : ∀ x y z, checkW T = some (x, y, z) → x ≠ 0 := orW_ne longW_ne (orW_ne formsW_ne (orW_ne twiceW_ne (orW_ne pairsW_ne (orW_ne dropsW_ne (orW_ne tosW_ne houseW_ne)))))
theorem box_facts {w : World} {g : Nat} {t : TypeId} {v0 v1 v2 v3 v4 v5 v6 v7 : Value} (h : Blk w g t #[v0, v1, v2, v3, v4, v5, v6, v7]) : w.cell? ⟨g, 0, none⟩ = some v0 ∧ w.cell? ⟨g, 1, none⟩ = some v1 ∧ w.cell? ⟨g, 2, none⟩ = some v2 ∧ w.cell? ⟨g, 3, none⟩ = some v3 ∧ w.cell? ⟨g, 4, none⟩ = some v4 ∧ w.cell? ⟨g, 5, none⟩ = some v5 ∧ w.cell? ⟨g, 6, none⟩ = some v6 ∧ w.cell? ⟨g, 7, none⟩ = some v7 := ⟨h.cell 0, h.cell 1, h.cell 2, h.cell 3, h.cell 4, h.cell 5, h.cell 6, h.cell 7⟩
theorem NewAns.bad' {n : Nat} {T : Tab} {e : Ending} {w : World} {x : Int × Int × Int} (h : checkW T = some x) (ha : NewAns n T e w) : e = .returned (.tuple #[.pointer none, wrongV (some x)]) := by unfold NewAns at ha; rw [h] at ha; exact ha
theorem NewAns.good' {n : Nat} {T : Tab} {e : Ending} {w : World} (h : checkW T = none) (ha : NewAns n T e w) : ∃ b, e = .returned (.tuple #[.pointer (some ⟨b, 0, none⟩), wrongV none]) ∧ BookAt w n b T := by unfold NewAns at ha; rw [h] at ha; exact ha
def upT (T : Tab) : Bool := !largeT T && (checkW T).isNone
/-- guisekeep.Of's answer: no Book, and that is right; or a Book of a right table -/
def OfAns (n : Nat) (T : Tab) (e : Ending) (w : World) : Prop := if upT T = true then ∃ b, e = .returned (.tuple #[.pointer (some ⟨b, 0, none⟩), .bool true, .bool true]) ∧ BookAt w n b T else e = .returned (.tuple #[.pointer none, .bool false, .bool true])
theorem OfAns.no {n : Nat} {T : Tab} {w : World} (h : upT T = false) : OfAns n T (.returned (.tuple #[.pointer none, .bool false, .bool true])) w := by unfold OfAns; rw [h]; rfl
theorem OfAns.yes {n b : Nat} {T : Tab} {w : World} (h : upT T = true) (hb : BookAt w n b T) : OfAns n T (.returned (.tuple #[.pointer (some ⟨b, 0, none⟩), .bool true, .bool true])) w := by unfold OfAns; rw [if_pos h]; exact ⟨b, rfl, hb⟩
theorem BookAt.belowW {w w' : World} {n b : Nat} {T : Tab} (h : BookAt w n b T) (hb : Below w.heap.size w w') : BookAt w' n b T := by
  obtain ⟨m1, m2, m3, m4, m5, u0, u1, u2, u3, u4, u5, u6, u7, h1, h2, h3, h4, h5, h6, ht, hM⟩ := h
  exact ⟨m1, m2, m3, m4, m5, u0, u1, u2, u3, u4, u5, u6, u7, h1, h2, h3, h4, h5, h6, ht.below hb, hM.below hb⟩
theorem BookAt.mono {w : World} {n m b : Nat} {T : Tab} (h : BookAt w n b T) (hm : m ≤ n) : BookAt w m b T := by
  obtain ⟨m1, m2, m3, m4, m5, u0, u1, u2, u3, u4, u5, u6, u7, h1, h2, h3, h4, h5, h6, ht, hM⟩ := h
  exact ⟨m1, m2, m3, m4, m5, u0, u1, u2, u3, u4, u5, u6, u7, by omega, by omega, by omega, by omega, by omega, by omega, ht, hM⟩
set_option maxRecDepth 100000 in
set_option maxHeartbeats 8000000 in
theorem keep_Of {w : World} {v0 v1 v2 v3 v4 v5 v6 v7 : Value} (T : Tab) (h : TabAt w v0 v1 v2 v3 v4 v5 v6 v7 T) (hok : TabOk T) (hT : Lib.Utf8Tabs 0 1 w) :
    Calls Tryz.prog 4 #[.agg #[v0, v1, v2, v3, v4, v5, v6, v7]] w fun e w' => OfAns w.heap.size T e w' ∧ Below w.heap.size w w' := by
  have HT := Lib.hid h
  have HO := Lib.hid hok
  have HU := Lib.hid hT
  clear h hok hT
  have hbx0 := Blk.new w 28 #[v0, v1, v2, v3, v4, v5, v6, v7]
  have hb0 : Below w.heap.size w (w.alloc (.cells #[v0, v1, v2, v3, v4, v5, v6, v7] 28)) := (Below.refl _ w).alloc (Nat.le_refl _) _
  have Hbx := Lib.hid hbx0
  have HB0 := Lib.hid hb0
  clear hb0 hbx0
  cases hlg : largeT T with
  | true =>
    have HLg := Lib.hid hlg
    clear hlg
    go_enter Tryz.func4, Tryz.ntmps4
    go_wp2_with (go_at_call 9; refine (keep_Large T (HT.out.below HB0.out)).mono ?_; rintro e w1 ⟨rfl, hb1⟩; rw [HLg.out])
    refine bodyPost_ret (v := .tuple #[.pointer none, .bool false, .bool true]) ?_ rfl ⟨OfAns.no (by unfold upT; rw [HLg.out]; rfl), below_trans HB0.out hb1⟩
    simp [results, Tryz.results4, go_sem]
  | false =>
    have HLg := Lib.hid hlg
    clear hlg
    cases hck : checkW T with
    | some x =>
      obtain ⟨xa, xb, xc⟩ := x
      have h1 : (xa == 0) = false := by have := checkW_ne _ _ _ hck; simpa using this
      have HK := Lib.hid hck
      clear hck
      go_enter Tryz.func4, Tryz.ntmps4
      go_wp2_with (first | (go_at_call 9; refine (keep_Large T (HT.out.below HB0.out)).mono ?_; rintro e w1 ⟨rfl, hb1⟩; rw [HLg.out]; have Hb1 := Lib.hid hb1; have Hbn1 := Lib.hid (below_trans HB0.out hb1); obtain ⟨b0, b1, b2, b3, b4, b5, b6, b7⟩ := box_facts (Hbx.out.below (hb1)); clear hb1) | (go_at_call 10; refine (tab_New T (HT.out.below Hbn1.out) HO.out (Utf8Tabs_below HU.out Hbn1.out)).mono ?_; rintro e w2 ⟨hb2, ha2⟩; replace ha2 := NewAns.bad' HK.out ha2; rw [wrongV_some] at ha2; subst ha2; have Hb2 := Lib.hid (((below_trans Hb1.out hb2)).alloc ((below_trans Hb1.out hb2).size) (.cells #[.int .i64 xa, .int .i64 xb, .int .i64 xc] 40)); have Hbn2 := Lib.hid (below_trans HB0.out Hb2.out); have Hc2 := Lib.hid (below_trans Hbn1.out hb2); clear b0 b1 b2 b3 b4 b5 b6 b7; obtain ⟨b0, b1, b2, b3, b4, b5, b6, b7⟩ := box_facts (Hbx.out.below (Hb2.out))) | (go_at_call 11; refine (ref_Check T (HT.out.below Hbn2.out) HO.out).mono ?_; rintro e w3 ⟨rfl, hb3⟩; rw [HK.out]; (first | rw [wrongV_some] | rw [wrongV_none]); have hq := ((Blk.new w2 40 #[.int .i64 xa, .int .i64 xb, .int .i64 xc]).below hb3).below ((Below.refl _ w3).alloc (Nat.le_refl _) (.cells #[.int .i64 xa, .int .i64 xb, .int .i64 xc] 40)); obtain ⟨x1, x2, x3, -, -, -⟩ := wrong_facts hq; obtain ⟨y1, y2, y3, -, -, -⟩ := wrong_facts (Blk.new w3 40 #[.int .i64 xa, .int .i64 xb, .int .i64 xc]); have Hb4 := Lib.hid (below_trans Hbn2.out ((hb3.alloc hb3.size (.cells #[.int .i64 xa, .int .i64 xb, .int .i64 xc] 40)))); have Hb3 := Lib.hid hb3; clear hq hb3 b0 b1 b2 b3 b4 b5 b6 b7))
      obtain ⟨W, hW⟩ : ∃ W, w3.alloc (.cells #[.int .i64 xa, .int .i64 xb, .int .i64 xc] 40) = W := ⟨_, rfl⟩
      rw [hW] at x1 x2 x3 y1 y2 y3 Hb4 ⊢
      go_big_region
      go_wp2_with fail
      refine bodyPost_ret (v := .tuple #[.pointer none, .bool false, .bool true]) ?_ rfl ⟨OfAns.no (by unfold upT; rw [HK.out]; cases largeT T <;> rfl), Below.drew Hb4.out⟩
      simp [results, Tryz.results4, go_sem]
    | none =>
      have HK := Lib.hid hck
      clear hck
      go_enter Tryz.func4, Tryz.ntmps4
      go_wp2_with (first | (go_at_call 9; refine (keep_Large T (HT.out.below HB0.out)).mono ?_; rintro e w1 ⟨rfl, hb1⟩; rw [HLg.out]; have Hb1 := Lib.hid hb1; have Hbn1 := Lib.hid (below_trans HB0.out hb1); obtain ⟨b0, b1, b2, b3, b4, b5, b6, b7⟩ := box_facts (Hbx.out.below (hb1)); clear hb1) | (go_at_call 10; refine (tab_New T (HT.out.below Hbn1.out) HO.out (Utf8Tabs_below HU.out Hbn1.out)).mono ?_; rintro e w2 ⟨hb2, ha2⟩; obtain ⟨b, he2, hbk⟩ := NewAns.good' HK.out ha2; rw [wrongV_none] at he2; subst he2; have Hb2 := Lib.hid (((below_trans Hb1.out hb2)).alloc ((below_trans Hb1.out hb2).size) (.cells #[.int .i64 0, .int .i64 0, .int .i64 0] 40)); have Hbn2 := Lib.hid (below_trans HB0.out Hb2.out); have Hc2 := Lib.hid (below_trans Hbn1.out hb2); have Hbk := Lib.hid hbk; clear hbk; clear b0 b1 b2 b3 b4 b5 b6 b7; obtain ⟨b0, b1, b2, b3, b4, b5, b6, b7⟩ := box_facts (Hbx.out.below (Hb2.out))) | (go_at_call 11; refine (ref_Check T (HT.out.below Hbn2.out) HO.out).mono ?_; rintro e w3 ⟨rfl, hb3⟩; rw [HK.out]; (first | rw [wrongV_some] | rw [wrongV_none]); have hq := ((Blk.new w2 40 #[.int .i64 0, .int .i64 0, .int .i64 0]).below hb3).below ((Below.refl _ w3).alloc (Nat.le_refl _) (.cells #[.int .i64 0, .int .i64 0, .int .i64 0] 40)); obtain ⟨x1, x2, x3, -, -, -⟩ := wrong_facts hq; obtain ⟨y1, y2, y3, -, -, -⟩ := wrong_facts (Blk.new w3 40 #[.int .i64 0, .int .i64 0, .int .i64 0]); have Hb4 := Lib.hid (below_trans Hbn2.out ((hb3.alloc hb3.size (.cells #[.int .i64 0, .int .i64 0, .int .i64 0] 40)))); have Hb3 := Lib.hid hb3; clear hq hb3 b0 b1 b2 b3 b4 b5 b6 b7))
      refine bodyPost_ret (v := .tuple #[.pointer (some ⟨b, 0, none⟩), .bool true, .bool true]) ?_ rfl ⟨OfAns.yes (by unfold upT; rw [HK.out, HLg.out]; rfl) ((Hbk.out.mono Hbn1.out.size).belowW (((Below.refl _ w2).alloc (Nat.le_refl _) _).trans (Below.mono (Hb3.out.alloc Hb3.out.size _) (by rw [World.size_alloc]; omega)))), Hb4.out⟩
      simp [results, Tryz.results4, go_sem]

end
section
open Go.Lib
set_option linter.unusedVariables false
/-- a spot: its rune, where it begins, how many bytes, whether it is bad -/
structure Spt where
  r : Nat
  pos : Nat
  n : Nat
  bad : Bool

def isBad (d : Nat × Nat) : Bool := d.1 == 65533 && d.2 == 1

/-- the spot that begins at a place -/
def sptOf (p : Nat) (l : List UInt8) : Spt := ⟨(decodeL l).1, p, (decodeL l).2, isBad (decodeL l)⟩

theorem decodeL_drop_lt (l : List UInt8) (h : ¬ l = []) : (l.drop (decodeL l).2).length < l.length := by
  have h1 := decodeL_width l
  have h2 : 0 < l.length := List.length_pos_iff.2 h
  rw [List.length_drop]
  omega

def spotsAt (p : Nat) (l : List UInt8) : List Spt :=
  if h : l = [] then [] else sptOf p l :: spotsAt (p + (decodeL l).2) (l.drop (decodeL l).2)
  termination_by l.length
  decreasing_by exact decodeL_drop_lt l h

theorem spotsAt_nil (p : Nat) : spotsAt p [] = [] := by rw [spotsAt]; simp
theorem spotsAt_cons (p : Nat) (l : List UInt8) (h : l ≠ []) : spotsAt p l = sptOf p l :: spotsAt (p + (decodeL l).2) (l.drop (decodeL l).2) := by
  rw [spotsAt]; simp [h]

def spots (l : List UInt8) : List Spt := spotsAt 0 l

/-- an induction over the spots of a text -/
theorem spots_ind {M : List UInt8 → Prop} (h0 : M []) (h1 : ∀ l, l ≠ [] → M (l.drop (decodeL l).2) → M l) (l : List UInt8) : M l := by
  generalize hn : l.length = n
  induction n using Nat.strongRecOn generalizing l with
  | _ n ih =>
    by_cases h : l = []
    · subst h; exact h0
    · exact h1 l h (ih _ (by rw [← hn]; exact decodeL_drop_lt l h) _ rfl)

theorem spotsAt_length_le (l : List UInt8) : ∀ p, (spotsAt p l).length ≤ l.length := by
  induction l using spots_ind with
  | h0 => intro p; simp [spotsAt_nil]
  | h1 l hl ih =>
    intro p
    have h1 := decodeL_drop_lt l hl
    have h2 := ih (p + (decodeL l).2)
    rw [spotsAt_cons p l hl]
    simp only [List.length_cons]
    omega
theorem spots_length_le (l : List UInt8) : (spots l).length ≤ l.length := spotsAt_length_le l 0

theorem decN_le4 (n b0 b1 b2 b3 : Nat) : (decodeN n b0 b1 b2 b3).2 ≤ 4 := by
  unfold decodeN
  repeat' split
  all_goals simp
theorem decodeL_le4 (l : List UInt8) : (decodeL l).2 ≤ 4 := by rw [decodeL_N]; exact decN_le4 _ _ _ _ _

theorem spotsAt_range (l : List UInt8) : ∀ p x, x ∈ spotsAt p l → x.r ≤ 1114111 ∧ p ≤ x.pos ∧ 1 ≤ x.n ∧ x.n ≤ 4 ∧ x.pos + x.n ≤ p + l.length := by
  induction l using spots_ind with
  | h0 => intro p x hx; simp [spotsAt_nil] at hx
  | h1 l hl ih =>
    intro p x hx
    have h1 := decodeL_width l
    have h2 := decodeL_le l hl
    have h3 := decodeL_rune l
    have h4 := decodeL_le4 l
    rw [spotsAt_cons p l hl] at hx
    rcases List.mem_cons.1 hx with rfl | hx
    · simp only [sptOf]; omega
    · have := ih _ x hx
      rw [List.length_drop] at this
      omega

/-- where each spot begins, and the end -/
def byteStarts (L : List Spt) (n : Nat) : List Nat := L.map (·.pos) ++ [n]


end
section
open Go.Lib
set_option linter.unusedVariables false
theorem spotsAt_zero (p : Nat) (l : List UInt8) (h : l ≠ []) : (spotsAt p l)[0]? = some (sptOf p l) := by rw [spotsAt_cons p l h]; rfl
theorem spotsAt_pos (p : Nat) (l : List UInt8) (h : l ≠ []) : 0 < (spotsAt p l).length := by rw [spotsAt_cons p l h]; simp

/-- each spot is the decoder's answer where it begins; the next one begins where it ends -/
theorem spotsAt_get (l : List UInt8) : ∀ (p i : Nat) (x : Spt), (spotsAt p l)[i]? = some x →
    p ≤ x.pos ∧ x = sptOf x.pos (l.drop (x.pos - p)) ∧ l.drop (x.pos - p) ≠ [] ∧ (i + 1 < (spotsAt p l).length → ((spotsAt p l)[i + 1]?).map (·.pos) = some (x.pos + x.n)) ∧ (i + 1 = (spotsAt p l).length → x.pos + x.n = p + l.length) := by
  induction l using spots_ind with
  | h0 => intro p i x h; rw [spotsAt_nil] at h; simp at h
  | h1 l hl ih =>
    intro p i x h
    have hw := decodeL_le l hl
    rw [spotsAt_cons p l hl] at h ⊢
    cases i with
    | zero =>
      simp only [List.getElem?_cons_zero, Option.some.injEq] at h
      subst h
      refine ⟨Nat.le_refl _, ?_, ?_, fun hlt => ?_, fun he => ?_⟩
      · show sptOf p l = sptOf p (l.drop (p - p)); rw [Nat.sub_self, List.drop_zero]
      · show l.drop (p - p) ≠ []; rw [Nat.sub_self, List.drop_zero]; exact hl
      · simp only [List.length_cons] at hlt
        have hne : l.drop (decodeL l).2 ≠ [] := fun e => by rw [e, spotsAt_nil] at hlt; simp at hlt
        rw [Nat.zero_add, List.getElem?_cons_succ, spotsAt_zero _ _ hne]
        rfl
      · simp only [List.length_cons] at he
        have hne : l.drop (decodeL l).2 = [] := by
          by_cases e : l.drop (decodeL l).2 = []
          · exact e
          · have := spotsAt_pos (p + (decodeL l).2) _ e; omega
        have h2 := congrArg List.length hne
        rw [List.length_drop] at h2
        simp only [List.length_nil] at h2
        show p + (decodeL l).2 = p + l.length
        omega
    | succ i =>
      rw [List.getElem?_cons_succ] at h
      obtain ⟨a, b, c, d, e⟩ := ih _ i x h
      have e1 : (l.drop (decodeL l).2).drop (x.pos - (p + (decodeL l).2)) = l.drop (x.pos - p) := by
        rw [List.drop_drop]; congr 1; omega
      rw [e1] at b c
      refine ⟨by omega, b, c, fun hlt => ?_, fun he => ?_⟩
      · rw [List.getElem?_cons_succ]; exact d (by simp only [List.length_cons] at hlt; omega)
      · have := e (by simp only [List.length_cons] at he; omega)
        rw [List.length_drop] at this
        omega

/-- where the i-th spot begins (the end, behind the last one) -/
def posL (l : List UInt8) (i : Nat) : Nat := (byteStarts (spots l) l.length).getD i 0
theorem posL_at (l : List UInt8) (i : Nat) (x : Spt) (h : (spots l)[i]? = some x) : posL l i = x.pos := by
  have hlt : i < (spots l).length := (List.getElem?_eq_some_iff.1 h).1
  unfold posL byteStarts
  rw [List.getD_eq_getElem?_getD, List.getElem?_append_left (by simpa using hlt), List.getElem?_map, h]
  rfl
theorem posL_end (l : List UInt8) : posL l (spots l).length = l.length := by
  unfold posL byteStarts
  rw [List.getD_eq_getElem?_getD, List.getElem?_append_right (by simp)]
  simp
theorem posL_zero (l : List UInt8) : posL l 0 = 0 := by
  by_cases h : l = []
  · subst h
    have := posL_end []
    simpa [spots, spotsAt_nil] using this
  · rw [posL_at l 0 (sptOf 0 l) (spotsAt_zero 0 l h)]; rfl
theorem posL_succ (l : List UInt8) (i : Nat) (x : Spt) (h : (spots l)[i]? = some x) : posL l (i + 1) = posL l i + x.n := by
  have hlt : i < (spots l).length := (List.getElem?_eq_some_iff.1 h).1
  obtain ⟨_, _, _, d, e⟩ := spotsAt_get l 0 i x h
  rw [posL_at l i x h]
  by_cases hl : i + 1 < (spots l).length
  · obtain ⟨y, hy⟩ : ∃ y, (spots l)[i + 1]? = some y := ⟨_, List.getElem?_eq_getElem hl⟩
    have hd := d hl
    rw [show (spotsAt 0 l)[i + 1]? = some y from hy] at hd
    rw [posL_at l (i + 1) y hy]
    simpa using hd
  · have h1 : i + 1 = (spots l).length := by omega
    rw [h1, posL_end]
    have := e h1
    omega
theorem spots_some (l : List UInt8) (i : Nat) (h : i < (spots l).length) : ∃ x, (spots l)[i]? = some x ∧ 1 ≤ x.n := by
  obtain ⟨x, hx⟩ : ∃ x, (spots l)[i]? = some x := ⟨_, List.getElem?_eq_getElem h⟩
  exact ⟨x, hx, (spotsAt_range l 0 x (List.mem_of_getElem? hx)).2.2.1⟩
theorem posL_lt (l : List UInt8) (i j : Nat) (h : i < j) (hj : j ≤ (spots l).length) : posL l i < posL l j := by
  obtain ⟨d, rfl⟩ : ∃ d, j = i + 1 + d := ⟨j - i - 1, by omega⟩
  induction d with
  | zero =>
    obtain ⟨x, hx, hn⟩ := spots_some l i (by omega)
    have := posL_succ l i x hx
    simp only [Nat.add_zero]
    omega
  | succ d ih =>
    have h1 := ih (by omega) (by omega)
    obtain ⟨x, hx, hn⟩ := spots_some l (i + 1 + d) (by omega)
    have := posL_succ l _ x hx
    have e : i + 1 + (d + 1) = i + 1 + d + 1 := by omega
    rw [e]
    omega
end
section
open Go.Lib
set_option linter.unusedVariables false
end
section
open Go.Lib
set_option linter.unusedVariables false
/-- what a spot is, by its place -/
theorem spot_dec (l : List UInt8) (i : Nat) (x : Spt) (h : (spots l)[i]? = some x) : x = sptOf x.pos (l.drop x.pos) ∧ x.pos = posL l i ∧ x.pos + x.n = posL l (i + 1) ∧ x.pos < l.length := by
  obtain ⟨_, h2, h3, _, _⟩ := spotsAt_get l 0 i x h
  have hp := posL_at l i x h
  rw [Nat.sub_zero] at h2 h3
  refine ⟨h2, hp.symm, by rw [posL_succ l i x h, hp], ?_⟩
  rcases Nat.lt_or_ge x.pos l.length with c | c
  · exact c
  · exact absurd (List.drop_eq_nil_of_le c) h3
end
section
open Go.Lib
set_option linter.unusedVariables false
end
section
open Go.Lib
set_option linter.unusedVariables false
/-- a rune that may be encoded -/
def IsRune (r : Int) : Prop := (0 ≤ r ∧ r < 55296) ∨ (57343 < r ∧ r ≤ 1114111)
instance (r : Int) : Decidable (IsRune r) := by unfold IsRune; exact inferInstance
theorem byteZ (z : Int) (h0 : 0 ≤ z) (h : z < 256) : (z.toNat.toUInt8).toNat = z.toNat := by
  show (UInt8.ofNat z.toNat).toNat = _
  rw [UInt8.toNat_ofNat']
  exact Nat.mod_eq_of_lt (by omega)
/-- runes, one behind the other -/
def encL (ns : List Int) : List UInt8 := ns.flatMap encodeRune
theorem encL_cons (n : Int) (ns : List Int) : encL (n :: ns) = encodeRune n ++ encL ns := by simp [encL]
theorem encL_append (a b : List Int) : encL (a ++ b) = encL a ++ encL b := by simp [encL]

theorem dN1 (n b0 b1 b2 b3 : Nat) (h : b0 < 128) : decodeN n b0 b1 b2 b3 = (b0, 1) := by unfold decodeN; rw [if_pos h]
theorem dN2 (n b0 b1 b2 b3 r : Nat) (hn : 1 < n) (h0 : b0 = 192 + r / 64) (h1 : b1 = 128 + r % 64) (hr : 128 ≤ r ∧ r ≤ 2047) : decodeN n b0 b1 b2 b3 = (r, 2) := by
  unfold decodeN
  rw [if_neg (by omega), if_pos ⟨by omega, by omega, by omega⟩, if_pos (by omega)]
  exact Prod.ext (by dsimp only; omega) rfl
theorem dN3 (n b0 b1 b2 b3 r : Nat) (hn : 2 < n) (h0 : b0 = 224 + r / 4096) (h1 : b1 = 128 + r / 64 % 64) (h2 : b2 = 128 + r % 64) (hr : (2048 ≤ r ∧ r < 55296) ∨ (57343 < r ∧ r ≤ 65535)) : decodeN n b0 b1 b2 b3 = (r, 3) := by
  unfold decodeN
  rw [if_neg (by omega), if_neg (by omega), if_pos ⟨by omega, ⟨by omega, by omega⟩, by omega, by omega⟩, if_pos (by omega)]
  exact Prod.ext (by dsimp only; omega) rfl
theorem dN4 (n b0 b1 b2 b3 r : Nat) (hn : 3 < n) (h0 : b0 = 240 + r / 262144) (h1 : b1 = 128 + r / 4096 % 64) (h2 : b2 = 128 + r / 64 % 64) (h3 : b3 = 128 + r % 64) (hr : 65536 ≤ r ∧ r ≤ 1114111) : decodeN n b0 b1 b2 b3 = (r, 4) := by
  unfold decodeN
  rw [if_neg (by omega), if_neg (by omega), if_neg (by omega), if_pos ⟨by omega, ⟨by omega, by omega⟩, ⟨by omega, by omega⟩, by omega, by omega⟩, if_pos (by omega)]
  exact Prod.ext (by dsimp only; omega) rfl
/-- a rune's bytes are decoded as the rune -/
theorem dec_enc (r : Nat) (hv : r < 55296 ∨ 57343 < r ∧ r ≤ 1114111) (t : List UInt8) : decodeL (encodeRune (r : Int) ++ t) = (r, (encodeRune (r : Int)).length) := by
  rw [decodeL_N]
  unfold encodeRune
  by_cases c1 : r ≤ 127
  · rw [encodeRuneZ_one (by omega) (by omega)]
    simp only [List.map_cons, List.map_nil, List.cons_append, List.nil_append, List.getD_cons_zero, List.length_cons, List.length_nil]
    rw [byteZ _ (by omega) (by omega), dN1 _ _ _ _ _ (by omega)]
    rfl
  · by_cases c2 : r ≤ 2047
    · rw [encodeRuneZ_two (by omega) (by omega)]
      simp only [List.map_cons, List.map_nil, List.cons_append, List.nil_append, List.getD_cons_zero, List.getD_cons_succ, List.length_cons, List.length_nil]
      rw [byteZ _ (by omega) (by omega), byteZ _ (by omega) (by omega)]
      exact dN2 _ _ _ _ _ _ (by omega) (by omega) (by omega) (by omega)
    · by_cases c3 : r ≤ 65535
      · rw [encodeRuneZ_three (by omega)]
        simp only [List.map_cons, List.map_nil, List.cons_append, List.nil_append, List.getD_cons_zero, List.getD_cons_succ, List.length_cons, List.length_nil]
        rw [byteZ _ (by omega) (by omega), byteZ _ (by omega) (by omega), byteZ _ (by omega) (by omega)]
        exact dN3 _ _ _ _ _ _ (by omega) (by omega) (by omega) (by omega) (by omega)
      · rw [encodeRuneZ_four (by omega) (by omega)]
        simp only [List.map_cons, List.map_nil, List.cons_append, List.nil_append, List.getD_cons_zero, List.getD_cons_succ, List.length_cons, List.length_nil]
        rw [byteZ _ (by omega) (by omega), byteZ _ (by omega) (by omega), byteZ _ (by omega) (by omega), byteZ _ (by omega) (by omega)]
        exact dN4 _ _ _ _ _ _ (by omega) (by omega) (by omega) (by omega) (by omega) (by omega)
theorem encodeRune_pos (r : Int) : 1 ≤ (encodeRune r).length ∧ (encodeRune r).length ≤ 4 := by
  have := encodeRuneZ_length r
  simpa [encodeRune] using this
/-- the runes of a text -/
def runesN (l : List UInt8) : List Nat := (spots l).map (·.r)
def runesI (l : List UInt8) : List Int := (runesN l).map Int.ofNat
theorem runesI_length (l : List UInt8) : (runesI l).length = (spots l).length := by simp [runesI, runesN]
theorem encL_length (ns : List Int) : (encL ns).length ≤ 4 * ns.length := by
  induction ns with
  | nil => simp [encL]
  | cons n ns ih => rw [encL_cons, List.length_append, List.length_cons]; have := encodeRune_pos n; omega

/-! ### the model's conversions -/
theorem encode_list (r : Int) : (Utf8.encode r).data.toList = encodeRune r := by
  unfold Utf8.encode
  by_cases hv : Utf8.valid r = true
  · have h2 : (0 ≤ r ∧ r < 55296) ∨ (57344 ≤ r ∧ r ≤ 1114111) := by simpa [Utf8.valid] using hv
    simp only [hv, if_true]
    obtain ⟨n, rfl⟩ : ∃ n : Nat, r = n := ⟨r.toNat, by omega⟩
    simp only [Int.toNat_natCast]
    unfold encodeRune
    by_cases h1 : n < 128
    · rw [if_pos h1, encodeRuneZ_one (by omega) (by omega)]; rfl
    · by_cases h3 : n < 2048
      · rw [if_neg h1, if_pos h3, encodeRuneZ_two (by omega) (by omega)]
        simp only [List.map_cons, List.map_nil]
        rw [show (192 + (n : Int) / 64).toNat = 192 + n / 64 by omega, show (128 + (n : Int) % 64).toNat = 128 + n % 64 by omega]
      · by_cases h4 : n < 65536
        · rw [if_neg h1, if_neg h3, if_pos h4, encodeRuneZ_three (by omega)]
          simp only [List.map_cons, List.map_nil]
          rw [show (224 + (n : Int) / 4096).toNat = 224 + n / 4096 by omega, show (128 + (n : Int) / 64 % 64).toNat = 128 + n / 64 % 64 by omega, show (128 + (n : Int) % 64).toNat = 128 + n % 64 by omega]
        · rw [if_neg h1, if_neg h3, if_neg h4, encodeRuneZ_four (by omega) (by omega)]
          simp only [List.map_cons, List.map_nil]
          rw [show (240 + (n : Int) / 262144).toNat = 240 + n / 262144 by omega, show (128 + (n : Int) / 4096 % 64).toNat = 128 + n / 4096 % 64 by omega, show (128 + (n : Int) / 64 % 64).toNat = 128 + n / 64 % 64 by omega, show (128 + (n : Int) % 64).toNat = 128 + n % 64 by omega]
  · have h2 : ¬ ((0 ≤ r ∧ r < 55296) ∨ (57344 ≤ r ∧ r ≤ 1114111)) := by simpa [Utf8.valid] using hv
    have hf : Utf8.valid r = false := by simpa using hv
    simp only [hf, Bool.false_eq_true, if_false]
    unfold encodeRune
    rw [encodeRuneZ_bad (by omega)]
    decide
theorem runesBytes_list (ns : List Int) : (runesBytes ns).data.toList = encL ns := by
  have key : ∀ (ns : List Int) (s : ByteArray), (ns.foldl (fun r n => r ++ Utf8.encode n) s).data.toList = s.data.toList ++ encL ns := by
    intro ns
    induction ns with
    | nil => intro s; simp [encL]
    | cons n ns ih =>
      intro s
      rw [List.foldl_cons, ih, encL_cons, ByteArray.data_append, Array.toList_append, encode_list, List.append_assoc]
  unfold runesBytes
  rw [key]
  rfl
theorem runesBytes_eq (ns : List Int) : runesBytes ns = ⟨(encL ns).toArray⟩ := by
  rw [← runesBytes_list]
theorem drop_ne (s : ByteArray) (p : Nat) (h : p < s.size) : s.data.toList.drop p ≠ [] := by
  intro e
  have h1 := congrArg List.length e
  rw [List.length_drop, Array.length_toList] at h1
  have h2 : s.data.size = s.size := rfl
  simp only [List.length_nil] at h1
  omega
theorem runesFrom_spots (s : ByteArray) : ∀ (f p : Nat) (acc : Array Value), s.size - p ≤ f → Conv.runesFrom s f p acc = acc ++ ((spotsAt p (s.data.toList.drop p)).map fun x => Value.int .i32 (x.r : Int)).toArray
  | 0, p, acc, h => by
    rw [List.drop_eq_nil_of_le (by rw [Array.length_toList]; show s.size ≤ p; omega), spotsAt_nil]
    simp [Conv.runesFrom]
  | f + 1, p, acc, h => by
    unfold Conv.runesFrom
    by_cases hp : p < s.size
    · rw [if_pos hp, spotsAt_cons p _ (drop_ne s p hp)]
      have hw := decodeL_width (s.data.toList.drop p)
      have hd := decodeL_drop s p
      have ih := runesFrom_spots s f (p + (Utf8.decode s p).2) (acc.push (.int .i32 (Int.ofNat (Utf8.decode s p).1))) (by rw [← hd]; omega)
      dsimp only
      rw [ih, List.drop_drop, hd]
      apply Array.ext'
      simp [sptOf, hd]
    · rw [if_neg hp, List.drop_eq_nil_of_le (by rw [Array.length_toList]; show s.size ≤ p; omega), spotsAt_nil]
      simp
theorem runesFrom_all (s : ByteArray) : Conv.runesFrom s s.size 0 #[] = ((runesI s.data.toList).map (Value.int .i32)).toArray := by
  rw [runesFrom_spots s s.size 0 #[] (by omega)]
  simp [runesI, runesN, spots, Function.comp_def]

end
section
open Go.Shelf Go.RowKit
set_option linter.unusedVariables false
set_option maxHeartbeats 1000000 in
set_option maxRecDepth 100000 in
theorem bld_used (b : Nat) (w : World) (h0 : w.cell? ⟨b, 0, none⟩ = some (.pointer (some ⟨b, 0, none⟩))) :
    Calls Tryz.prog 51 #[.pointer (some ⟨b, 0, none⟩)] w fun e w' => e = .returned (.tuple #[]) ∧ w' = w := by
  obtain ⟨j, hj, _⟩ := Option.map_eq_some_iff.1 Tryz.Builder_Extra_169.sizeBuilder
  go_enter Tryz.func51, Tryz.ntmps51
  go_wp2
  rw [Lib.run_neq_ptr_same w _ Tryz.underlying49 hj]
  go_wp2
  go_end0
  exact ⟨rfl, rfl⟩
set_option maxHeartbeats 1000000 in
set_option maxRecDepth 100000 in
theorem bld_fresh (b : Nat) (w : World) (h0 : w.cell? ⟨b, 0, none⟩ = some (.pointer none)) (hsh : w.shape? b = some (52, 2)) (hfz : w.frozen? ⟨b, 0, none⟩ = false) :
    Calls Tryz.prog 51 #[.pointer (some ⟨b, 0, none⟩)] w fun e w' => e = .returned (.tuple #[]) ∧ w' = w.setCell ⟨b, 0, none⟩ (.pointer (some ⟨b, 0, none⟩)) := by
  obtain ⟨j, hj, hjs⟩ := Option.map_eq_some_iff.1 Tryz.Builder_Extra_169.sizeBuilder
  go_enter Tryz.func51, Tryz.ntmps51
  go_wp2
  rw [Lib.run_to_unsafe w ⟨b, 0, none⟩ Tryz.underlying49 Tryz.underlying170 hj (by rw [hjs]; decide) hsh (Nat.zero_lt_succ 1)]
  simp only [Result.andThen]
  rw [Oper.upon_value]
  go_wp2
  rw [run_callFunc_extern Tryz.func115 (by kernel_rfl) (by kernel_rfl) (by kernel_rfl) (e := Extern.AbiNoEscape.same) (by kernel_rfl)]
  rw [Lib.run_noEscape]
  simp only [Result.andThen]
  rw [Oper.upon_value]
  go_wp2
  rw [Lib.run_from_unsafe w ⟨b, 0, none⟩ Tryz.underlying170 Tryz.underlying49 hj hsh Tryz.Builder_Extra_169.liesBuilder]
  simp only [Result.andThen]
  rw [Oper.upon_value]
  go_wp2
  go_end0
  exact ⟨rfl, rfl⟩
theorem bld_check (B b : Nat) (bs : List Value) (w : World) (h : Lib.IsBuilderF 52 5 B b bs w) :
    Calls Tryz.prog 51 #[.pointer (some ⟨b, 0, none⟩)] w fun e w' => e = .returned (.tuple #[]) ∧ (Lib.BuilderAtF 52 5 B b (.pointer (some ⟨b, 0, none⟩)) bs w' ∧ Below B w w' ∧ Lib.OthersKept 5 (some b) w w') := by
  rcases h with h | h
  · refine (bld_fresh b w h.cell0 h.shape h.frozen0).mono ?_
    rintro e w' ⟨rfl, rfl⟩
    exact ⟨rfl, h.used _, (Below.refl B w).setCell (p := ⟨b, 0, none⟩) h.1 _, (Lib.OthersKept.refl _ _ w).setCell ⟨b, 0, none⟩ rfl _⟩
  · refine (bld_used b w h.cell0).mono ?_
    rintro e w' ⟨rfl, rfl⟩
    exact ⟨rfl, h, Below.refl B _, Lib.OthersKept.refl _ _ _⟩
set_option maxHeartbeats 2000000 in
set_option maxRecDepth 100000 in
theorem bld_WriteString (B b : Nat) (bs : List Value) (s : ByteArray) (w : World) (h : Lib.IsBuilderF 52 5 B b bs w) (hlen : bs.length + s.size ≤ 140737488355328) (hBw : B ≤ w.heap.size) :
    Calls Tryz.prog 19 #[.pointer (some ⟨b, 0, none⟩), .string s] w fun e w' => e = .returned (.tuple #[.int .i64 s.size, .nilIface]) ∧ (Lib.BuilderAtF 52 5 B b (.pointer (some ⟨b, 0, none⟩)) (bs ++ Lib.strCells s) w' ∧ Below B w w' ∧ Lib.OthersKept 5 (some b) w w') := by
  obtain ⟨i0, hi, hz0, hz1, hz2⟩ := info_parts Tryz.Builder_Extra_169.infoByte
  go_enter Tryz.func19, Tryz.ntmps19
  go_wp2_with (go_at_call 51; refine (bld_check B b bs _ h).mono ?_)
  rintro e w1 ⟨rfl, h1, hb1, hk1⟩
  obtain ⟨hB, v, hbk, hown, hne⟩ := h1
  have c0 : w1.cell? ⟨b, 0, none⟩ = some (.pointer (some ⟨b, 0, none⟩)) := by rw [Lib.cell_of_heap hbk]; rfl
  have c1 : w1.cell? ⟨b, 1, none⟩ = some v := by rw [Lib.cell_of_heap hbk]; rfl
  go_wp2_with (at_builtin; refine Lib.wpList_append_own_stringF _ rfl _ _ 50 9 rfl B 5 i0 Tryz.underlying50 Tryz.underlying9 hi hz0 hz1 hz2 _ _ _ rfl hown s rfl ?c3 ?c4 ?c5 ?_)
  case c3 => unfold maxLen; omega
  case c4 => omega
  case c5 => have := hb1.size; omega
  intro v' w2 hown' hgrow _
  have hlt : b < w1.heap.size := by
    rcases Nat.lt_or_ge b w1.heap.size with h' | h'
    · exact h'
    · simp [Array.getElem?_eq_none h'] at hbk
  have hb2 : w2.heap[b]? = some (.cells #[.pointer (some ⟨b, 0, none⟩), v] 52 (0, 0)) := by
    rw [hgrow.block b hlt (fun e => hne e.symm)]
    exact hbk
  have d0 : w2.cell? ⟨b, 0, none⟩ = some (.pointer (some ⟨b, 0, none⟩)) := by rw [Lib.cell_of_heap hb2]; rfl
  have d1 : w2.cell? ⟨b, 1, none⟩ = some v := by rw [Lib.cell_of_heap hb2]; rfl
  have f1 : w2.frozen? ⟨b, 1, none⟩ = false := Lib.frozen_of_heap hb2 1
  obtain ⟨ao, n', cap, rfl⟩ : ∃ ao n' cap, v' = .slice ao n' cap := by
    rcases hown'.2 with ⟨hv, _⟩ | ⟨g, cap, cur, fz, hv, _⟩
    · exact ⟨_, _, _, hv⟩
    · exact ⟨_, _, _, hv⟩
  go_wp2
  go_ret2
  refine ⟨rfl, ?_, ?_, (hk1.grown hgrow (Lib.ownsRowF_kind hown)).setCell ⟨b, 1, none⟩ rfl _⟩
  · exact Lib.BuilderAtF.put (T := 52) (e := 5) hB hb2 (bs' := bs ++ Lib.strCells s) (by simpa [Lib.strCells_length] using hown') (by decide)
  · exact (hb1.grown hgrow (by have := hb1.size; omega) (fun k hk => (hown.lt k hk).1)).setCell (p := ⟨b, 1, none⟩) hB _
set_option maxHeartbeats 2000000 in
set_option maxRecDepth 100000 in
theorem bld_WriteRune (B b : Nat) (bs : List Value) (r : Int) (hr0 : -2147483648 ≤ r) (hr1 : r ≤ 2147483647) (w : World) (h : Lib.IsBuilderF 52 5 B b bs w) (hlen : bs.length + 4 ≤ 140737488355328) (hBw : B ≤ w.heap.size) :
    Calls Tryz.prog 50 #[.pointer (some ⟨b, 0, none⟩), .int .i32 r] w fun e w' => (∃ m : Int, e = .returned (.tuple #[.int .i64 m, .nilIface])) ∧ (Lib.BuilderAtF 52 5 B b (.pointer (some ⟨b, 0, none⟩)) (bs ++ Lib.runeCells r) w' ∧ Below B w w' ∧ Lib.OthersKept 5 (some b) w w') := by
  have hk4 := Lib.runeCells_le r
  go_enter Tryz.func50, Tryz.ntmps50
  go_wp2_with (go_at_call 51; refine (bld_check B b bs _ h).mono ?_)
  rintro e w1 ⟨rfl, h1, hb1, hk1⟩
  obtain ⟨hB, v, hbk, hown, hne⟩ := h1
  obtain ⟨ao, cap, rfl⟩ : ∃ ao cap, v = .slice ao bs.length cap := by
    rcases hown.2 with ⟨hv, h0⟩ | ⟨g, cap, cur, fz, hv, _⟩
    · exact ⟨none, 0, by rw [hv, h0]⟩
    · exact ⟨_, _, hv⟩
  have c0 : w1.cell? ⟨b, 0, none⟩ = some (.pointer (some ⟨b, 0, none⟩)) := by rw [Lib.cell_of_heap hbk]; rfl
  have c1 : w1.cell? ⟨b, 1, none⟩ = some (.slice ao bs.length cap) := by rw [Lib.cell_of_heap hbk]; rfl
  go_wp2_with (go_at_call 114; refine (Tryz.utf8_AppendRune_row B _ bs.length bs r hr0 hr1 _ hown hlen (by have := hb1.size; omega)).mono ?_)
  rintro e w2 ⟨v', rfl, hown', o, hgrow⟩
  have hlt : b < w1.heap.size := by
    rcases Nat.lt_or_ge b w1.heap.size with h' | h'
    · exact h'
    · simp [Array.getElem?_eq_none h'] at hbk
  have hb2 : w2.heap[b]? = some (.cells #[.pointer (some ⟨b, 0, none⟩), .slice ao bs.length cap] 52 (0, 0)) := by
    rw [hgrow.block b (by simp; omega) (fun e => hne e.symm), Lib.alloc_old w1 _ b hlt]
    exact hbk
  have d0 : w2.cell? ⟨b, 0, none⟩ = some (.pointer (some ⟨b, 0, none⟩)) := by rw [Lib.cell_of_heap hb2]; rfl
  have d1 : w2.cell? ⟨b, 1, none⟩ = some (.slice ao bs.length cap) := by rw [Lib.cell_of_heap hb2]; rfl
  have f1 : w2.frozen? ⟨b, 1, none⟩ = false := Lib.frozen_of_heap hb2 1
  obtain ⟨g, cap', rfl⟩ : ∃ g cap', v' = .slice (some ⟨g, 0, none⟩) (bs.length + (Lib.runeCells r).length) cap' := by
    rcases hown'.2 with ⟨_, h0⟩ | ⟨g, cap', cur, fz, hv, _⟩
    · omega
    · exact ⟨g, cap', hv⟩
  go_wp2
  go_ret2
  refine ⟨⟨_, rfl⟩, ?_, ?_, ((hk1.alloc _).grown hgrow (Lib.ownsRowF_kind (hown.alloc _))).setCell ⟨b, 1, none⟩ rfl _⟩
  · exact Lib.BuilderAtF.put (T := 52) (e := 5) hB hb2 (bs' := bs ++ Lib.runeCells r) (by simpa using hown') (by decide)
  · exact ((hb1.alloc (by have := hb1.size; omega) _).grown hgrow (by have := hb1.size; simp; omega) (fun k hk => (hown.lt k hk).1)).setCell (p := ⟨b, 1, none⟩) hB _

end
end Go.Proofs.YtjmkdimbbacnfaaGreatDoor
