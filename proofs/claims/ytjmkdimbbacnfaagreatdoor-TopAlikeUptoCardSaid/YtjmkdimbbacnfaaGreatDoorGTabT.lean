/- tables.check: house. (Printed by gen_chouse.py.) -/
import Derived.Test.YtjmkdimbbacnfaaGreatDoorGTabS
namespace Go.Proofs.YtjmkdimbbacnfaaGreatDoor
open Go.RowKit
set_option linter.unusedVariables false
theorem idx_runes (s : ByteArray) : ∀ (fuel pos : Nat) (rs : List Int), s.size ≤ pos + fuel → runesFrom s pos = some rs → decide (0 ≤ Lib.idxFuncFrom (fun x => setR (x : Int)) true s fuel pos) = rs.any setR
  | 0, pos, rs, h, hr => by
    rw [runesFrom_end (by omega)] at hr
    cases hr; rfl
  | fuel + 1, pos, rs, h, hr => by
    unfold Lib.idxFuncFrom
    by_cases hp : pos < s.size
    · rw [if_pos hp]
      obtain ⟨rest, rfl, hr2⟩ := runesFrom_cons hp hr
      have hw := Lib.decode_width_pos s pos hp
      have ih := idx_runes s fuel (pos + (Utf8.decode s pos).2) rest (by omega) hr2
      rw [List.any_cons, ← ih]
      by_cases hx : setR ((Utf8.decode s pos).1 : Int) = true
      · rw [if_pos hx, hx]; simp
      · rw [if_neg hx]
        have hx2 : setR ((Utf8.decode s pos).1 : Int) = false := by simpa using hx
        rw [hx2]; rfl
    · rw [if_neg hp]
      rw [runesFrom_end (by omega)] at hr
      cases hr; rfl
theorem fixed_arm (s : ByteArray) (rs : List Int) (hr : runesOf s = some rs) (b : Bool) (hb : setsOf s = b) (w : World) :
    Calls Tryz.prog 63 #[.string s, .func (.func 64) #[] #[]] w fun e w' => e = .returned (.bool b) ∧ Below w.heap.size w w' := by
  refine (Tryz.strings_ContainsFunc_grows 64 #[] (enters_of Tryz.func64 (by kernel_rfl) rfl) (fun x => setR (x : Int)) s w (fun W x _ _ => ?_)).mono (fun e w' h => ⟨?_, h.2⟩)
  · exact (tab_fixed (x : Int) W).mono (fun e w' h => ⟨h.1, by rw [← h.2]; exact Below.refl _ _⟩)
  · rw [h.1, ← hb]
    unfold Lib.idxFunc setsOf
    rw [idx_runes s s.size 0 rs (by omega) (by rw [runesFrom_zero]; exact hr), hr]
/-- the digits' text, the letters' text -/
def dg (p : Nat) : Int := if p < 2 then 45 + (p : Int) else 46 + (p : Int)
def lt_ (p : Nat) : Int := if p = 0 then 45 else if p ≤ 10 then 47 + (p : Int) else 86 + (p : Int)
theorem dig_at (p : Nat) (h : p < 12) : Utf8.decode ⟨#[45, 46, 48, 49, 50, 51, 52, 53, 54, 55, 56, 57]⟩ p = ((dg p).toNat, 1) := by
  have hd : ∀ p, p < 12 → byt ⟨#[45, 46, 48, 49, 50, 51, 52, 53, 54, 55, 56, 57]⟩ p = (dg p).toNat ∧ byt ⟨#[45, 46, 48, 49, 50, 51, 52, 53, 54, 55, 56, 57]⟩ p < 128 := by decide
  rw [dec_ascii (hd p h).2, (hd p h).1]
theorem let_at (p : Nat) (h : p < 37) : Utf8.decode ⟨#[45, 48, 49, 50, 51, 52, 53, 54, 55, 56, 57, 97, 98, 99, 100, 101, 102, 103, 104, 105, 106, 107, 108, 109, 110, 111, 112, 113, 114, 115, 116, 117, 118, 119, 120, 121, 122]⟩ p = ((lt_ p).toNat, 1) := by
  have hd : ∀ p, p < 37 → byt ⟨#[45, 48, 49, 50, 51, 52, 53, 54, 55, 56, 57, 97, 98, 99, 100, 101, 102, 103, 104, 105, 106, 107, 108, 109, 110, 111, 112, 113, 114, 115, 116, 117, 118, 119, 120, 121, 122]⟩ p = (lt_ p).toNat ∧ byt ⟨#[45, 48, 49, 50, 51, 52, 53, 54, 55, 56, 57, 97, 98, 99, 100, 101, 102, 103, 104, 105, 106, 107, 108, 109, 110, 111, 112, 113, 114, 115, 116, 117, 118, 119, 120, 121, 122]⟩ p < 128 := by decide
  rw [dec_ascii (hd p h).2, (hd p h).1]
theorem dg_range (p : Nat) (h : p < 12) : 0 ≤ dg p ∧ dg p ≤ 57 := by unfold dg; split <;> omega
theorem lt_range (p : Nat) (h : p < 37) : 45 ≤ lt_ p ∧ lt_ p ≤ 122 ∧ letR (lt_ p) = true := by
  refine ⟨?_, ?_, ?_⟩
  · unfold lt_; repeat' split
    all_goals omega
  · unfold lt_; repeat' split
    all_goals omega
  · unfold lt_ letR; rw [decide_eq_true_eq]; repeat' split
    all_goals omega
theorem com_bad {T : Tab} {p : Nat} (hp : p < 12) (h : ofL (dg p) T.common = false) : comW T = some (5, 2, 0) := by
  by_cases h2 : p < 2
  · refine comW_bad (k := p) (by omega) ?_
    unfold comB
    rw [show (45 : Int) + (p : Int) = dg p by unfold dg; rw [if_pos h2], h]
    simp; omega
  · refine comW_bad (k := p + 1) (by omega) ?_
    unfold comB
    rw [show (45 : Int) + ((p + 1 : Nat) : Int) = dg p by unfold dg; rw [if_neg h2]; omega, h]
    simp; omega
theorem com_good {T : Tab} (h : ∀ p, p < 12 → ofL (dg p) T.common = true) : comW T = none := by
  refine comW_good fun j hj => ?_
  unfold comB
  by_cases h2 : j = 2
  · subst h2; rfl
  · by_cases h3 : j < 2
    · have := h j (by omega)
      rw [show (45 : Int) + (j : Int) = dg j by unfold dg; rw [if_pos h3], this]; simp
    · have := h (j - 1) (by omega)
      rw [show (45 : Int) + (j : Int) = dg (j - 1) by unfold dg; rw [if_neg (by omega)]; omega, this]; simp
theorem all_bad {T : Tab} {p : Nat} (hp : p < 37) (h : ofL (lt_ p) T.allowed = false) : allW T = some (5, 8, 0) := by
  obtain ⟨h1, h2, h3⟩ := lt_range p hp
  refine allW_bad (k := (lt_ p - 45).toNat) (by omega) ?_
  unfold allB
  rw [show (45 : Int) + (((lt_ p - 45).toNat : Nat) : Int) = lt_ p by omega, h3, h]; rfl
theorem all_good {T : Tab} (h : ∀ p, p < 37 → ofL (lt_ p) T.allowed = true) : allW T = none := by
  refine allW_good fun j hj => ?_
  unfold allB
  cases hl : letR (45 + (j : Int)) with
  | false => rfl
  | true =>
    unfold letR at hl
    have hl := of_decide_eq_true hl
    have : ∃ p, p < 37 ∧ lt_ p = 45 + (j : Int) := by
      rcases hl with e | e | e
      · exact ⟨0, by omega, by unfold lt_; rw [if_pos rfl]; omega⟩
      · exact ⟨j - 2, by omega, by unfold lt_; rw [if_neg (by omega), if_pos (by omega)]; omega⟩
      · exact ⟨j - 41, by omega, by unfold lt_; rw [if_neg (by omega), if_neg (by omega)]; omega⟩
    obtain ⟨p, hp, e⟩ := this
    rw [← e, h p hp]; rfl
theorem orW_assoc (a b c : Option (Int × Int × Int)) : orW (orW a b) c = orW a (orW b c) := by cases a <;> rfl
theorem houseW_ord (T : Tab) : houseW T = orW (comW T) (orW (scan lowM 3 0 T.marks) (orW (scan lowP 4 0 T.pairs) (orW (scan rowF 5 0 T.folds) (orW (scan rowL 6 0 T.looks) (orW (scan dropH 7 0 T.drops) (orW (scan allowH 8 0 T.allowed) (allW T))))))) := by
  unfold houseW rowsW
  simp only [orW_assoc]
set_option maxRecDepth 100000 in
theorem let_index (r : Int) (h0 : 0 ≤ r) (h1 : r < 128) : decide (0 ≤ Lib.indexByte (⟨#[45, 48, 49, 50, 51, 52, 53, 54, 55, 56, 57, 97, 98, 99, 100, 101, 102, 103, 104, 105, 106, 107, 108, 109, 110, 111, 112, 113, 114, 115, 116, 117, 118, 119, 120, 121, 122]⟩ : ByteArray).data.toList r.toNat.toUInt8) = letR r := by
  obtain ⟨n, rfl⟩ : ∃ n : Nat, r = (n : Int) := ⟨r.toNat, by omega⟩
  have hd : ∀ n : Nat, n < 128 → decide (0 ≤ Lib.indexByte (⟨#[45, 48, 49, 50, 51, 52, 53, 54, 55, 56, 57, 97, 98, 99, 100, 101, 102, 103, 104, 105, 106, 107, 108, 109, 110, 111, 112, 113, 114, 115, 116, 117, 118, 119, 120, 121, 122]⟩ : ByteArray).data.toList (n : Int).toNat.toUInt8) = letR (n : Int) := by decide
  exact hd n (by omega)

set_option maxRecDepth 100000 in
set_option maxHeartbeats 8000000 in
theorem chk_house {w : World} {v0 v1 v2 v3 v4 v5 v6 v7 : Value} (T : Tab) (h : TabAt w v0 v1 v2 v3 v4 v5 v6 v7 T) (hok : TabOk T) (c b : Nat) (hc : Blk w c 68 #[v0, v1, v2, v3, v4, v5, v6, v7, .pointer (some ⟨b, 0, none⟩)]) (hco : InOrder T.common) (hal : InOrder T.allowed) (hf : scan mapAt 5 0 T.folds = none) (hlk : scan mapAt 6 0 T.looks = none) :
    Calls Tryz.prog 30 #[.pointer (some ⟨c, 0, none⟩)] w fun e w' => e = .returned (wrongV (houseW T)) ∧ Below w.heap.size w w' := by
  have HCO := Lib.hid hco
  have HAL := Lib.hid hal
  have HF5 := Lib.hid hf
  have HF6 := Lib.hid hlk
  clear hco hal hf hlk
  have HO := Lib.hid hok
  obtain ⟨A0, c0, rfl, hn0⟩ := h.formS
  obtain ⟨A1, c1, rfl, hn1⟩ := h.common.form
  obtain ⟨A2, c2, rfl, hn2⟩ := h.marks.form
  obtain ⟨A3, c3, rfl, hn3⟩ := h.pairs.form
  obtain ⟨A4, c4, rfl, hn4⟩ := h.folds.form
  obtain ⟨A5, c5, rfl, hn5⟩ := h.looks.form
  obtain ⟨A6, c6, rfl, hn6⟩ := h.drops.form
  obtain ⟨A7, c7, rfl, hn7⟩ := h.allowed.form
  have HT := Lib.hid h
  obtain ⟨n0, hln0⟩ : ∃ n, T.scripts.length = n := ⟨_, rfl⟩
  rw [hln0] at HT hc hn0
  have HLn0 := Lib.hid hln0
  clear hln0
  obtain ⟨n1, hln1⟩ : ∃ n, T.common.length = n := ⟨_, rfl⟩
  rw [hln1] at HT hc hn1
  have HLn1 := Lib.hid hln1
  clear hln1
  obtain ⟨n2, hln2⟩ : ∃ n, T.marks.length = n := ⟨_, rfl⟩
  rw [hln2] at HT hc hn2
  have HLn2 := Lib.hid hln2
  clear hln2
  obtain ⟨n3, hln3⟩ : ∃ n, T.pairs.length = n := ⟨_, rfl⟩
  rw [hln3] at HT hc hn3
  have HLn3 := Lib.hid hln3
  clear hln3
  obtain ⟨n4, hln4⟩ : ∃ n, T.folds.length = n := ⟨_, rfl⟩
  rw [hln4] at HT hc hn4
  have HLn4 := Lib.hid hln4
  clear hln4
  obtain ⟨n5, hln5⟩ : ∃ n, T.looks.length = n := ⟨_, rfl⟩
  rw [hln5] at HT hc hn5
  have HLn5 := Lib.hid hln5
  clear hln5
  obtain ⟨n6, hln6⟩ : ∃ n, T.drops.length = n := ⟨_, rfl⟩
  rw [hln6] at HT hc hn6
  have HLn6 := Lib.hid hln6
  clear hln6
  obtain ⟨n7, hln7⟩ : ∃ n, T.allowed.length = n := ⟨_, rfl⟩
  rw [hln7] at HT hc hn7
  have HLn7 := Lib.hid hln7
  clear hln7
  have HC := Lib.hid hc
  have HS0 := Lib.hid (CS.start w)
  obtain ⟨d0, d1, d2, d3, d4, d5, d6, d7, d8⟩ := chk_facts (hc.below HS0.out.below)
  clear h hok hc
  go_enter Tryz.func30, Tryz.ntmps30
  go_wp2_with fail
  obtain ⟨W0, hW0⟩ : ∃ W0, w.alloc (.cells #[.int .i64 0, .int .i64 0, .int .i64 0] 40) = W0 := ⟨_, rfl⟩
  have hz0 : (w.alloc (.cells #[.int .i64 0, .int .i64 0, .int .i64 0] 40)).heap.size = w.heap.size + 1 := by simp
  rw [hW0] at HS0 d0 d1 d2 d3 d4 d5 d6 d7 d8 hz0 ⊢
  have Hz0 := Lib.hid hz0
  have Hst : Hid (ItAt W0 (w.heap.size + 1) ⟨#[45, 46, 48, 49, 50, 51, 52, 53, 54, 55, 56, 57]⟩ 0 (W0.iter ⟨#[45, 46, 48, 49, 50, 51, 52, 53, 54, 55, 56, 57]⟩ 0)) := Lib.hid (by rw [← hz0]; exact ItAt.start (Below.refl _ _))
  clear hW0 hz0 d0 d1 d2 d3 d4 d5 d6 d7 d8
  have Hs0 := HS0
  clear HS0
  go_loopw [4] (fun _ wr => ∃ p : Nat, p ≤ 12 ∧ Hid (∀ q, q < p → ofL (dg q) T.common = true) ∧ ItAt W0 (w.heap.size + 1) ⟨#[45, 46, 48, 49, 50, 51, 52, 53, 54, 55, 56, 57]⟩ p wr) (fun _ wr => 12 - wr.iterPos ((w.heap.size + 1)))
  case atStart => exact ⟨0, Nat.zero_le _, Lib.hid (fun q h => absurd h (Nat.not_lt_zero _)), Hst.out⟩
  case round =>
    obtain ⟨p, hp, hall, hit⟩ := hrel
    by_cases hlt : p < 12
    · have hnx := fun ty => Lib.run_next_any_at (P := Tryz.prog) wr ((w.heap.size + 1)) ⟨#[45, 46, 48, 49, 50, 51, 52, 53, 54, 55, 56, 57]⟩ p ty hit.it hlt
      rw [dig_at p hlt] at hnx
      have hrg := dg_range p hlt
      simp only [show (((dg p).toNat : Nat) : Int) = dg p by omega] at hnx
      have hn1 := hit.next (by have := Hz0.out; omega) (p + 1)
      have hpos := hit.pos
      generalize wr.iterAt ((w.heap.size + 1)) ⟨#[45, 46, 48, 49, 50, 51, 52, 53, 54, 55, 56, 57]⟩ (p + 1) = w3 at *
      have hs3 := Hs0.out.step hn1.below
      obtain ⟨d0, d1, d2, d3, d4, d5, d6, d7, d8⟩ := chk_facts (HC.out.below hs3.below)
      have HOf := Lib.hid (fun z (hz : ofL (dg p) T.common = z) => (tab_of T.common (HT.out.common.below hs3.below) HCO.out (dg p)).mono (R' := fun e w' => e = .returned (.bool z) ∧ Below w3.heap.size w3 w') (fun e w' h => ⟨by rw [← hz]; exact h.1, h.2⟩))
      have Hn1 := Lib.hid hn1
      have Hpos := Lib.hid hpos
      have Hits := Lib.hid hit
      have HB1 : Hid (Below W0.heap.size W0 w3) := Lib.hid hn1.below
      have Hr := Hs0
      clear hit hn1 hpos hs3
      cases hz : ofL (dg p) T.common with
      | false =>
        go_wp2_with (first | (go_at_call 60; refine (HOf.out _ (by assumption)).mono ?_; rintro e w2 ⟨rfl, hb2⟩; have HB2 := Lib.hid (Below.trans HB1.out (hb2.mono HB1.out.size))) | (go_at_call 53; refine (tab_wrong _ _ _ _).mono ?_; rintro e w9 ⟨rfl, hb9⟩; have h9 := (Hr.out.step HB2.out).step hb9; obtain ⟨r1, r2, r3, f1, f2, f3⟩ := h9.resF; have H9 := Lib.hid h9; clear h9))
        obtain ⟨hB, hW⟩ := (H9.out).ret (.int .i64 5) (.int .i64 2) (.int .i64 0)
        obtain ⟨s1, s2, s3, -, -, -⟩ := wrong_facts hB
        refine bodyPost_ret (v := .agg #[.int .i64 5, .int .i64 2, .int .i64 0]) ?_ rfl ⟨?_, hW⟩
        · simp [results, Tryz.results30, go_sem, s1, s2, s3]
        · rw [show houseW T = some (5, 2, 0) by rw [houseW_ord]; rw [com_bad hlt hz]; first | done | rfl]
          rfl
      | true =>
        go_wp2_with (go_at_call 60; refine (HOf.out _ (by assumption)).mono ?_; rintro e w2 ⟨rfl, hb2⟩; have HB2 := Lib.hid (Below.trans HB1.out (hb2.mono HB1.out.size)))
        go_roundw
        case rel =>
          refine ⟨p + 1, by omega, Lib.hid (fun q hq => ?_), Hn1.out.step hb2⟩
          by_cases e : q = p
          · rw [e]; exact hz
          · exact hall.out q (by omega)
        case measure => rw [(Hn1.out.step hb2).pos, Hpos.out]; omega
    · obtain rfl : p = 12 := by omega
      have hnx := fun ty => Lib.run_next_end_at (P := Tryz.prog) wr ((w.heap.size + 1)) ⟨#[45, 46, 48, 49, 50, 51, 52, 53, 54, 55, 56, 57]⟩ 12 ty hit.it (by decide)
      have Hr := Lib.hid (Hs0.out.step hit.below)
      have Hits := Lib.hid hit
      clear hit
      have HC0 : Hid (comW T = none) := Lib.hid (com_good hall.out)
      obtain ⟨d0, d1, d2, d3, d4, d5, d6, d7, d8⟩ := chk_facts (HC.out.below Hr.out.below)
      go_wp2_with fail
      go_loopw [39] (fun i wr => ∃ k : Nat, k ≤ n2 ∧ i = .int .i64 (k : Int) ∧ NoneTo (lowM) T.marks k ∧ CS w wr) (fun i _ => n2 - (intOf i).toNat)
      case atStart => exact ⟨0, Nat.zero_le _, rfl, NoneTo.zero _ _, Hr.out⟩
      case round =>
        clear Hr
        obtain ⟨k, hk, rfl, hno, hrs⟩ := hrel
        have Hno := Lib.hid hno
        have Hr := Lib.hid hrs
        by_cases hlt : k < n2
        · obtain ⟨m, hm⟩ : ∃ m, T.marks[k]? = some m := ⟨_, List.getElem?_eq_getElem (by rw [HLn2.out]; exact hlt)⟩
          obtain ⟨a, rfl, e0, e1⟩ := el2 HT.out.marks hrs.below hm rfl
          have Hm := Lib.hid hm
          have k0 : (0 : Int) ≤ (k : Int) := by omega
          have k1 : (k : Int) < (n2 : Int) := by omega
          have HE := Lib.hid ((Below.refl _ wr).alloc (Nat.le_refl _) (.cells #[.int .i32 m.r, .int .i64 m.c] 75))
          have Hx := Lib.hid (Blk.new wr 75 #[.int .i32 m.r, .int .i64 m.c])
          have HLw := Lib.hid (fun r b (hb : lowR r = b) w0 => (tab_low r w0).mono (R' := fun e w' => e = .returned (.bool b) ∧ w0 = w') (fun e w' h => ⟨by rw [← hb]; exact h.1, h.2⟩))
          clear hno hrs hm
          cases hr : lowR m.r with
          | true =>
            have H0 : Hid (lowM k m = 5) := Lib.hid (by unfold lowM; rw [if_pos hr])
            go_wp2_with (first | (go_at_call 62; refine (HLw.out _ _ (by assumption) _).mono ?_; rintro e w' ⟨rfl, rfl⟩) | (go_at_call 53; refine (tab_wrong _ _ _ _).mono ?_; rintro e w9 ⟨rfl, hb9⟩; have h9 := (Hr.out.step HE.out).step hb9; obtain ⟨r1, r2, r3, f1, f2, f3⟩ := h9.resF; have H9 := Lib.hid h9; clear h9))
            obtain ⟨hB, hW⟩ := (H9.out).ret (.int .i64 5) (.int .i64 3) (.int .i64 (k : Int))
            obtain ⟨s1, s2, s3, -, -, -⟩ := wrong_facts hB
            refine bodyPost_ret (v := .agg #[.int .i64 5, .int .i64 3, .int .i64 (k : Int)]) ?_ rfl ⟨?_, hW⟩
            · simp [results, Tryz.results30, go_sem, s1, s2, s3]
            · rw [show houseW T = some (5, 3, (k : Int)) by rw [houseW_ord]; rw [HC0.out, Hno.out.found Hm.out (by rw [H0.out]; decide) 3, H0.out]; first | done | rfl]
              rfl
          | false =>
            have H0 : Hid (lowM k m = 0) := Lib.hid (by unfold lowM; rw [if_neg (by rw [hr]; simp)])
            go_wp2_with (go_at_call 62; refine (HLw.out _ _ (by assumption) _).mono ?_; rintro e w' ⟨rfl, rfl⟩)
            go_roundw
            case rel => exact ⟨k + 1, by omega, by go_num, Hno.out.succ Hm.out H0.out, Hr.out.step HE.out⟩
            case measure => simp [intOf]; omega
        · have hkn : n2 = k := by omega
          subst hkn
          have HN1 : Hid (scan (lowM) 3 0 T.marks = none) := Lib.hid (NoneTo.all (by rw [HLn2.out]; exact Hno.out) 3)
          obtain ⟨d0, d1, d2, d3, d4, d5, d6, d7, d8⟩ := chk_facts (HC.out.below Hr.out.below)
          clear Hno hno hrs
          go_wp2_with fail
          go_loopw [56] (fun i wr => ∃ k : Nat, k ≤ n3 ∧ i = .int .i64 (k : Int) ∧ NoneTo (lowP) T.pairs k ∧ CS w wr) (fun i _ => n3 - (intOf i).toNat)
          case atStart => exact ⟨0, Nat.zero_le _, rfl, NoneTo.zero _ _, Hr.out⟩
          case round =>
            clear Hr
            obtain ⟨k, hk, rfl, hno, hrs⟩ := hrel
            have Hno := Lib.hid hno
            have Hr := Lib.hid hrs
            by_cases hlt : k < n3
            · obtain ⟨m, hm⟩ : ∃ m, T.pairs[k]? = some m := ⟨_, List.getElem?_eq_getElem (by rw [HLn3.out]; exact hlt)⟩
              obtain ⟨a, rfl, e0, e1, e2⟩ := el3 HT.out.pairs hrs.below hm rfl
              have Hm := Lib.hid hm
              have k0 : (0 : Int) ≤ (k : Int) := by omega
              have k1 : (k : Int) < (n3 : Int) := by omega
              have HE := Lib.hid ((Below.refl _ wr).alloc (Nat.le_refl _) (.cells #[.int .i32 m.whole, .int .i32 m.base, .int .i32 m.mark] 77))
              have Hx := Lib.hid (Blk.new wr 77 #[.int .i32 m.whole, .int .i32 m.base, .int .i32 m.mark])
              have HLw := Lib.hid (fun r b (hb : lowR r = b) w0 => (tab_low r w0).mono (R' := fun e w' => e = .returned (.bool b) ∧ w0 = w') (fun e w' h => ⟨by rw [← hb]; exact h.1, h.2⟩))
              clear hno hrs hm
              cases hr : lowR m.whole with
              | true =>
                have H0 : Hid (lowP k m = 5) := Lib.hid (by unfold lowP; rw [if_pos hr])
                go_wp2_with (first | (go_at_call 62; refine (HLw.out _ _ (by assumption) _).mono ?_; rintro e w' ⟨rfl, rfl⟩) | (go_at_call 53; refine (tab_wrong _ _ _ _).mono ?_; rintro e w9 ⟨rfl, hb9⟩; have h9 := (Hr.out.step HE.out).step hb9; obtain ⟨r1, r2, r3, f1, f2, f3⟩ := h9.resF; have H9 := Lib.hid h9; clear h9))
                obtain ⟨hB, hW⟩ := (H9.out).ret (.int .i64 5) (.int .i64 4) (.int .i64 (k : Int))
                obtain ⟨s1, s2, s3, -, -, -⟩ := wrong_facts hB
                refine bodyPost_ret (v := .agg #[.int .i64 5, .int .i64 4, .int .i64 (k : Int)]) ?_ rfl ⟨?_, hW⟩
                · simp [results, Tryz.results30, go_sem, s1, s2, s3]
                · rw [show houseW T = some (5, 4, (k : Int)) by rw [houseW_ord]; rw [HC0.out, HN1.out, Hno.out.found Hm.out (by rw [H0.out]; decide) 4, H0.out]; first | done | rfl]
                  rfl
              | false =>
                have H0 : Hid (lowP k m = 0) := Lib.hid (by unfold lowP; rw [if_neg (by rw [hr]; simp)])
                go_wp2_with (go_at_call 62; refine (HLw.out _ _ (by assumption) _).mono ?_; rintro e w' ⟨rfl, rfl⟩)
                go_roundw
                case rel => exact ⟨k + 1, by omega, by go_num, Hno.out.succ Hm.out H0.out, Hr.out.step HE.out⟩
                case measure => simp [intOf]; omega
            · have hkn : n3 = k := by omega
              subst hkn
              have HN2 : Hid (scan (lowP) 4 0 T.pairs = none) := Lib.hid (NoneTo.all (by rw [HLn3.out]; exact Hno.out) 4)
              obtain ⟨d0, d1, d2, d3, d4, d5, d6, d7, d8⟩ := chk_facts (HC.out.below Hr.out.below)
              clear Hno hno hrs
              go_wp2_with fail
              go_loopw [73] (fun i wr => ∃ k : Nat, k ≤ n4 ∧ i = .int .i64 (k : Int) ∧ NoneTo (rowF) T.folds k ∧ CS w wr) (fun i _ => n4 - (intOf i).toNat)
              case atStart => exact ⟨0, Nat.zero_le _, rfl, NoneTo.zero _ _, Hr.out⟩
              case round =>
                clear Hr
                obtain ⟨k, hk, rfl, hno, hrs⟩ := hrel
                have Hno := Lib.hid hno
                have Hr := Lib.hid hrs
                by_cases hlt : k < n4
                · obtain ⟨m, hm⟩ : ∃ m, T.folds[k]? = some m := ⟨_, List.getElem?_eq_getElem (by rw [HLn4.out]; exact hlt)⟩
                  obtain ⟨a, rfl, e0, e1⟩ := el2 HT.out.folds hrs.below hm rfl
                  have Hm := Lib.hid hm
                  have k0 : (0 : Int) ≤ (k : Int) := by omega
                  have k1 : (k : Int) < (n4 : Int) := by omega
                  have HE := Lib.hid ((Below.refl _ wr).alloc (Nat.le_refl _) (.cells #[.int .i32 m.frm, .string m.to] 79))
                  have Hx := Lib.hid (Blk.new wr 79 #[.int .i32 m.frm, .string m.to])
                  have HLw := Lib.hid (fun r b (hb : lowR r = b) w0 => (tab_low r w0).mono (R' := fun e w' => e = .returned (.bool b) ∧ w0 = w') (fun e w' h => ⟨by rw [← hb]; exact h.1, h.2⟩))
                  have h0 := runesD_of (scan_zero HF5.out k m hm)
                  rw [runesFrom_zero] at h0
                  have HSt := Lib.hid (fun b (hb : setsOf m.to = b) w0 => fixed_arm m.to _ h0 b hb w0)
                  clear hno hrs hm h0
                  cases hr : lowR m.frm with
                  | false =>
                    cases hs : setsOf m.to with
                    | true =>
                      have H0 : Hid (rowF k m = 5) := Lib.hid (by unfold rowF; rw [if_pos (.inr hs)])
                      go_wp2_with (first | (first | (go_at_call 62; refine (HLw.out _ _ (by assumption) _).mono ?_; rintro e w' ⟨rfl, rfl⟩) | (go_at_call 63; refine (HSt.out _ (by assumption) _).mono ?_; rintro e w2 ⟨rfl, hb2⟩; have HB2 := Lib.hid (below_trans HE.out hb2))) | (go_at_call 53; refine (tab_wrong _ _ _ _).mono ?_; rintro e w9 ⟨rfl, hb9⟩; have h9 := (Hr.out.step HB2.out).step hb9; obtain ⟨r1, r2, r3, f1, f2, f3⟩ := h9.resF; have H9 := Lib.hid h9; clear h9))
                      obtain ⟨hB, hW⟩ := (H9.out).ret (.int .i64 5) (.int .i64 5) (.int .i64 (k : Int))
                      obtain ⟨s1, s2, s3, -, -, -⟩ := wrong_facts hB
                      refine bodyPost_ret (v := .agg #[.int .i64 5, .int .i64 5, .int .i64 (k : Int)]) ?_ rfl ⟨?_, hW⟩
                      · simp [results, Tryz.results30, go_sem, s1, s2, s3]
                      · rw [show houseW T = some (5, 5, (k : Int)) by rw [houseW_ord]; rw [HC0.out, HN1.out, HN2.out, Hno.out.found Hm.out (by rw [H0.out]; decide) 5, H0.out]; first | done | rfl]
                        rfl
                    | false =>
                      have H0 : Hid (rowF k m = 0) := Lib.hid (by unfold rowF; rw [if_neg (by rw [hs]; rw [hr]; simp)])
                      go_wp2_with (first | (go_at_call 62; refine (HLw.out _ _ (by assumption) _).mono ?_; rintro e w' ⟨rfl, rfl⟩) | (go_at_call 63; refine (HSt.out _ (by assumption) _).mono ?_; rintro e w2 ⟨rfl, hb2⟩; have HB2 := Lib.hid (below_trans HE.out hb2)))
                      go_roundw
                      case rel => exact ⟨k + 1, by omega, by go_num, Hno.out.succ Hm.out H0.out, Hr.out.step HB2.out⟩
                      case measure => simp [intOf]; omega
                  | true =>
                    by_cases h1 : m.frm < 65
                    · skip
                      have H0 : Hid (rowF k m = 5) := Lib.hid (by unfold rowF; rw [if_pos (.inl ⟨hr, by omega⟩)])
                      go_wp2_with (first | (go_at_call 62; refine (HLw.out _ _ (by assumption) _).mono ?_; rintro e w' ⟨rfl, rfl⟩) | (go_at_call 53; refine (tab_wrong _ _ _ _).mono ?_; rintro e w9 ⟨rfl, hb9⟩; have h9 := (Hr.out.step HE.out).step hb9; obtain ⟨r1, r2, r3, f1, f2, f3⟩ := h9.resF; have H9 := Lib.hid h9; clear h9))
                      obtain ⟨hB, hW⟩ := (H9.out).ret (.int .i64 5) (.int .i64 5) (.int .i64 (k : Int))
                      obtain ⟨s1, s2, s3, -, -, -⟩ := wrong_facts hB
                      refine bodyPost_ret (v := .agg #[.int .i64 5, .int .i64 5, .int .i64 (k : Int)]) ?_ rfl ⟨?_, hW⟩
                      · simp [results, Tryz.results30, go_sem, s1, s2, s3]
                      · rw [show houseW T = some (5, 5, (k : Int)) by rw [houseW_ord]; rw [HC0.out, HN1.out, HN2.out, Hno.out.found Hm.out (by rw [H0.out]; decide) 5, H0.out]; first | done | rfl]
                        rfl
                    · by_cases h2 : 90 < m.frm
                      · skip
                        have H0 : Hid (rowF k m = 5) := Lib.hid (by unfold rowF; rw [if_pos (.inl ⟨hr, by omega⟩)])
                        go_wp2_with (first | (go_at_call 62; refine (HLw.out _ _ (by assumption) _).mono ?_; rintro e w' ⟨rfl, rfl⟩) | (go_at_call 53; refine (tab_wrong _ _ _ _).mono ?_; rintro e w9 ⟨rfl, hb9⟩; have h9 := (Hr.out.step HE.out).step hb9; obtain ⟨r1, r2, r3, f1, f2, f3⟩ := h9.resF; have H9 := Lib.hid h9; clear h9))
                        obtain ⟨hB, hW⟩ := (H9.out).ret (.int .i64 5) (.int .i64 5) (.int .i64 (k : Int))
                        obtain ⟨s1, s2, s3, -, -, -⟩ := wrong_facts hB
                        refine bodyPost_ret (v := .agg #[.int .i64 5, .int .i64 5, .int .i64 (k : Int)]) ?_ rfl ⟨?_, hW⟩
                        · simp [results, Tryz.results30, go_sem, s1, s2, s3]
                        · rw [show houseW T = some (5, 5, (k : Int)) by rw [houseW_ord]; rw [HC0.out, HN1.out, HN2.out, Hno.out.found Hm.out (by rw [H0.out]; decide) 5, H0.out]; first | done | rfl]
                          rfl
                      · skip
                        cases hs : setsOf m.to with
                        | true =>
                          have H0 : Hid (rowF k m = 5) := Lib.hid (by unfold rowF; rw [if_pos (.inr hs)])
                          go_wp2_with (first | (first | (go_at_call 62; refine (HLw.out _ _ (by assumption) _).mono ?_; rintro e w' ⟨rfl, rfl⟩) | (go_at_call 63; refine (HSt.out _ (by assumption) _).mono ?_; rintro e w2 ⟨rfl, hb2⟩; have HB2 := Lib.hid (below_trans HE.out hb2))) | (go_at_call 53; refine (tab_wrong _ _ _ _).mono ?_; rintro e w9 ⟨rfl, hb9⟩; have h9 := (Hr.out.step HB2.out).step hb9; obtain ⟨r1, r2, r3, f1, f2, f3⟩ := h9.resF; have H9 := Lib.hid h9; clear h9))
                          obtain ⟨hB, hW⟩ := (H9.out).ret (.int .i64 5) (.int .i64 5) (.int .i64 (k : Int))
                          obtain ⟨s1, s2, s3, -, -, -⟩ := wrong_facts hB
                          refine bodyPost_ret (v := .agg #[.int .i64 5, .int .i64 5, .int .i64 (k : Int)]) ?_ rfl ⟨?_, hW⟩
                          · simp [results, Tryz.results30, go_sem, s1, s2, s3]
                          · rw [show houseW T = some (5, 5, (k : Int)) by rw [houseW_ord]; rw [HC0.out, HN1.out, HN2.out, Hno.out.found Hm.out (by rw [H0.out]; decide) 5, H0.out]; first | done | rfl]
                            rfl
                        | false =>
                          have H0 : Hid (rowF k m = 0) := Lib.hid (by unfold rowF; rw [if_neg (by rw [hs]; rintro (⟨_, h⟩ | h) <;> first | omega | cases h)])
                          go_wp2_with (first | (go_at_call 62; refine (HLw.out _ _ (by assumption) _).mono ?_; rintro e w' ⟨rfl, rfl⟩) | (go_at_call 63; refine (HSt.out _ (by assumption) _).mono ?_; rintro e w2 ⟨rfl, hb2⟩; have HB2 := Lib.hid (below_trans HE.out hb2)))
                          go_roundw
                          case rel => exact ⟨k + 1, by omega, by go_num, Hno.out.succ Hm.out H0.out, Hr.out.step HB2.out⟩
                          case measure => simp [intOf]; omega
                · have hkn : n4 = k := by omega
                  subst hkn
                  have HN3 : Hid (scan (rowF) 5 0 T.folds = none) := Lib.hid (NoneTo.all (by rw [HLn4.out]; exact Hno.out) 5)
                  obtain ⟨d0, d1, d2, d3, d4, d5, d6, d7, d8⟩ := chk_facts (HC.out.below Hr.out.below)
                  clear Hno hno hrs
                  go_wp2_with fail
                  go_loopw [105] (fun i wr => ∃ k : Nat, k ≤ n5 ∧ i = .int .i64 (k : Int) ∧ NoneTo (rowL) T.looks k ∧ CS w wr) (fun i _ => n5 - (intOf i).toNat)
                  case atStart => exact ⟨0, Nat.zero_le _, rfl, NoneTo.zero _ _, Hr.out⟩
                  case round =>
                    clear Hr
                    obtain ⟨k, hk, rfl, hno, hrs⟩ := hrel
                    have Hno := Lib.hid hno
                    have Hr := Lib.hid hrs
                    by_cases hlt : k < n5
                    · obtain ⟨m, hm⟩ : ∃ m, T.looks[k]? = some m := ⟨_, List.getElem?_eq_getElem (by rw [HLn5.out]; exact hlt)⟩
                      obtain ⟨a, rfl, e0, e1⟩ := el2 HT.out.looks hrs.below hm rfl
                      have Hm := Lib.hid hm
                      have k0 : (0 : Int) ≤ (k : Int) := by omega
                      have k1 : (k : Int) < (n5 : Int) := by omega
                      have HE := Lib.hid ((Below.refl _ wr).alloc (Nat.le_refl _) (.cells #[.int .i32 m.frm, .string m.to] 79))
                      have Hx := Lib.hid (Blk.new wr 79 #[.int .i32 m.frm, .string m.to])
                      have HLw := Lib.hid (fun r b (hb : setR r = b) w0 => (tab_fixed r w0).mono (R' := fun e w' => e = .returned (.bool b) ∧ w0 = w') (fun e w' h => ⟨by rw [← hb]; exact h.1, h.2⟩))
                      have h0 := runesD_of (scan_zero HF6.out k m hm)
                      rw [runesFrom_zero] at h0
                      have HSt := Lib.hid (fun b (hb : setsOf m.to = b) w0 => fixed_arm m.to _ h0 b hb w0)
                      clear hno hrs hm h0
                      cases hr : setR m.frm with
                      | true =>
                        have H0 : Hid (rowL k m = 5) := Lib.hid (by unfold rowL; rw [if_pos (.inl hr)])
                        go_wp2_with (first | (go_at_call 64; refine (HLw.out _ _ (by assumption) _).mono ?_; rintro e w' ⟨rfl, rfl⟩) | (go_at_call 53; refine (tab_wrong _ _ _ _).mono ?_; rintro e w9 ⟨rfl, hb9⟩; have h9 := (Hr.out.step HE.out).step hb9; obtain ⟨r1, r2, r3, f1, f2, f3⟩ := h9.resF; have H9 := Lib.hid h9; clear h9))
                        obtain ⟨hB, hW⟩ := (H9.out).ret (.int .i64 5) (.int .i64 6) (.int .i64 (k : Int))
                        obtain ⟨s1, s2, s3, -, -, -⟩ := wrong_facts hB
                        refine bodyPost_ret (v := .agg #[.int .i64 5, .int .i64 6, .int .i64 (k : Int)]) ?_ rfl ⟨?_, hW⟩
                        · simp [results, Tryz.results30, go_sem, s1, s2, s3]
                        · rw [show houseW T = some (5, 6, (k : Int)) by rw [houseW_ord]; rw [HC0.out, HN1.out, HN2.out, HN3.out, Hno.out.found Hm.out (by rw [H0.out]; decide) 6, H0.out]; first | done | rfl]
                          rfl
                      | false =>
                        cases hs : setsOf m.to with
                        | true =>
                          have H0 : Hid (rowL k m = 5) := Lib.hid (by unfold rowL; rw [if_pos (.inr hs)])
                          go_wp2_with (first | (first | (go_at_call 64; refine (HLw.out _ _ (by assumption) _).mono ?_; rintro e w' ⟨rfl, rfl⟩) | (go_at_call 63; refine (HSt.out _ (by assumption) _).mono ?_; rintro e w2 ⟨rfl, hb2⟩; have HB2 := Lib.hid (below_trans HE.out hb2))) | (go_at_call 53; refine (tab_wrong _ _ _ _).mono ?_; rintro e w9 ⟨rfl, hb9⟩; have h9 := (Hr.out.step HB2.out).step hb9; obtain ⟨r1, r2, r3, f1, f2, f3⟩ := h9.resF; have H9 := Lib.hid h9; clear h9))
                          obtain ⟨hB, hW⟩ := (H9.out).ret (.int .i64 5) (.int .i64 6) (.int .i64 (k : Int))
                          obtain ⟨s1, s2, s3, -, -, -⟩ := wrong_facts hB
                          refine bodyPost_ret (v := .agg #[.int .i64 5, .int .i64 6, .int .i64 (k : Int)]) ?_ rfl ⟨?_, hW⟩
                          · simp [results, Tryz.results30, go_sem, s1, s2, s3]
                          · rw [show houseW T = some (5, 6, (k : Int)) by rw [houseW_ord]; rw [HC0.out, HN1.out, HN2.out, HN3.out, Hno.out.found Hm.out (by rw [H0.out]; decide) 6, H0.out]; first | done | rfl]
                            rfl
                        | false =>
                          have H0 : Hid (rowL k m = 0) := Lib.hid (by unfold rowL; rw [if_neg (by rw [hs]; rw [hr]; simp)])
                          go_wp2_with (first | (go_at_call 64; refine (HLw.out _ _ (by assumption) _).mono ?_; rintro e w' ⟨rfl, rfl⟩) | (go_at_call 63; refine (HSt.out _ (by assumption) _).mono ?_; rintro e w2 ⟨rfl, hb2⟩; have HB2 := Lib.hid (below_trans HE.out hb2)))
                          go_roundw
                          case rel => exact ⟨k + 1, by omega, by go_num, Hno.out.succ Hm.out H0.out, Hr.out.step HB2.out⟩
                          case measure => simp [intOf]; omega
                    · have hkn : n5 = k := by omega
                      subst hkn
                      have HN4 : Hid (scan (rowL) 6 0 T.looks = none) := Lib.hid (NoneTo.all (by rw [HLn5.out]; exact Hno.out) 6)
                      obtain ⟨d0, d1, d2, d3, d4, d5, d6, d7, d8⟩ := chk_facts (HC.out.below Hr.out.below)
                      clear Hno hno hrs
                      go_wp2_with fail
                      go_loopw [127] (fun i wr => ∃ k : Nat, k ≤ n6 ∧ i = .int .i64 (k : Int) ∧ NoneTo (dropH) T.drops k ∧ CS w wr) (fun i _ => n6 - (intOf i).toNat)
                      case atStart => exact ⟨0, Nat.zero_le _, rfl, NoneTo.zero _ _, Hr.out⟩
                      case round =>
                        clear Hr
                        obtain ⟨k, hk, rfl, hno, hrs⟩ := hrel
                        have Hno := Lib.hid hno
                        have Hr := Lib.hid hrs
                        by_cases hlt : k < n6
                        · obtain ⟨m, hm⟩ : ∃ m, T.drops[k]? = some m := ⟨_, List.getElem?_eq_getElem (by rw [HLn6.out]; exact hlt)⟩
                          obtain ⟨a, rfl, e0, e1⟩ := el2 HT.out.drops hrs.below hm rfl
                          have Hm := Lib.hid hm
                          have k0 : (0 : Int) ≤ (k : Int) := by omega
                          have k1 : (k : Int) < (n6 : Int) := by omega
                          have HE := Lib.hid ((Below.refl _ wr).alloc (Nat.le_refl _) (.cells #[.int .i32 m.lo, .int .i32 m.hi] 73))
                          have Hx := Lib.hid (Blk.new wr 73 #[.int .i32 m.lo, .int .i32 m.hi])
                          clear hno hrs hm
                          by_cases h1 : m.lo < 128
                          · skip
                            have H0 : Hid (dropH k m = 5) := Lib.hid (by unfold dropH; rw [if_pos (.inl h1)])
                            go_wp2_with (go_at_call 53; refine (tab_wrong _ _ _ _).mono ?_; rintro e w9 ⟨rfl, hb9⟩; have h9 := (Hr.out.step HE.out).step hb9; obtain ⟨r1, r2, r3, f1, f2, f3⟩ := h9.resF; have H9 := Lib.hid h9; clear h9)
                            obtain ⟨hB, hW⟩ := (H9.out).ret (.int .i64 5) (.int .i64 7) (.int .i64 (k : Int))
                            obtain ⟨s1, s2, s3, -, -, -⟩ := wrong_facts hB
                            refine bodyPost_ret (v := .agg #[.int .i64 5, .int .i64 7, .int .i64 (k : Int)]) ?_ rfl ⟨?_, hW⟩
                            · simp [results, Tryz.results30, go_sem, s1, s2, s3]
                            · rw [show houseW T = some (5, 7, (k : Int)) by rw [houseW_ord]; rw [HC0.out, HN1.out, HN2.out, HN3.out, HN4.out, Hno.out.found Hm.out (by rw [H0.out]; decide) 7, H0.out]; first | done | rfl]
                              rfl
                          · by_cases h2 : m.lo ≤ 65533
                            · by_cases h3 : 65533 ≤ m.hi
                              · skip
                                have H0 : Hid (dropH k m = 5) := Lib.hid (by unfold dropH; rw [if_pos (.inr ⟨h2, h3⟩)])
                                go_wp2_with (go_at_call 53; refine (tab_wrong _ _ _ _).mono ?_; rintro e w9 ⟨rfl, hb9⟩; have h9 := (Hr.out.step HE.out).step hb9; obtain ⟨r1, r2, r3, f1, f2, f3⟩ := h9.resF; have H9 := Lib.hid h9; clear h9)
                                obtain ⟨hB, hW⟩ := (H9.out).ret (.int .i64 5) (.int .i64 7) (.int .i64 (k : Int))
                                obtain ⟨s1, s2, s3, -, -, -⟩ := wrong_facts hB
                                refine bodyPost_ret (v := .agg #[.int .i64 5, .int .i64 7, .int .i64 (k : Int)]) ?_ rfl ⟨?_, hW⟩
                                · simp [results, Tryz.results30, go_sem, s1, s2, s3]
                                · rw [show houseW T = some (5, 7, (k : Int)) by rw [houseW_ord]; rw [HC0.out, HN1.out, HN2.out, HN3.out, HN4.out, Hno.out.found Hm.out (by rw [H0.out]; decide) 7, H0.out]; first | done | rfl]
                                  rfl
                              · skip
                                have H0 : Hid (dropH k m = 0) := Lib.hid (by unfold dropH; rw [if_neg (by omega)])
                                go_wp2_with fail
                                go_roundw
                                case rel => exact ⟨k + 1, by omega, by go_num, Hno.out.succ Hm.out H0.out, Hr.out.step HE.out⟩
                                case measure => simp [intOf]; omega
                            · skip
                              have H0 : Hid (dropH k m = 0) := Lib.hid (by unfold dropH; rw [if_neg (by omega)])
                              go_wp2_with fail
                              go_roundw
                              case rel => exact ⟨k + 1, by omega, by go_num, Hno.out.succ Hm.out H0.out, Hr.out.step HE.out⟩
                              case measure => simp [intOf]; omega
                        · have hkn : n6 = k := by omega
                          subst hkn
                          have HN5 : Hid (scan (dropH) 7 0 T.drops = none) := Lib.hid (NoneTo.all (by rw [HLn6.out]; exact Hno.out) 7)
                          obtain ⟨d0, d1, d2, d3, d4, d5, d6, d7, d8⟩ := chk_facts (HC.out.below Hr.out.below)
                          clear Hno hno hrs
                          go_wp2_with fail
                          go_loopw [154] (fun i wr => ∃ k : Nat, k ≤ n7 ∧ i = .int .i64 (k : Int) ∧ NoneTo (allowH) T.allowed k ∧ CS w wr) (fun i _ => n7 - (intOf i).toNat)
                          case atStart => exact ⟨0, Nat.zero_le _, rfl, NoneTo.zero _ _, Hr.out⟩
                          case round =>
                            clear Hr
                            obtain ⟨k, hk, rfl, hno, hrs⟩ := hrel
                            have Hno := Lib.hid hno
                            have Hr := Lib.hid hrs
                            by_cases hlt : k < n7
                            · obtain ⟨m, hm⟩ : ∃ m, T.allowed[k]? = some m := ⟨_, List.getElem?_eq_getElem (by rw [HLn7.out]; exact hlt)⟩
                              obtain ⟨a, rfl, e0, e1⟩ := el2 HT.out.allowed hrs.below hm rfl
                              have Hm := Lib.hid hm
                              have k0 : (0 : Int) ≤ (k : Int) := by omega
                              have k1 : (k : Int) < (n7 : Int) := by omega
                              have HE := Lib.hid ((Below.refl _ wr).alloc (Nat.le_refl _) (.cells #[.int .i32 m.lo, .int .i32 m.hi] 73))
                              have Hx := Lib.hid (Blk.new wr 73 #[.int .i32 m.lo, .int .i32 m.hi])
                              have hi := HO.out.allowed m (List.mem_of_getElem? hm)
                              obtain ⟨⟨i1, i2⟩, i3, i4⟩ := hi
                              have hlo := (isRune_iff _).1 (HAL.out.runes m (List.mem_of_getElem? hm)).1
                              clear hno hrs hm
                              go_wp2_with fail
                              obtain ⟨wo, rfl⟩ : ∃ x, x = wr := ⟨_, rfl⟩
                              obtain ⟨W1, hW1⟩ : ∃ W1, wo.alloc (.cells #[.int .i32 m.lo, .int .i32 m.hi] 73) = W1 := ⟨_, rfl⟩
                              rw [hW1] at HE Hx ⊢
                              have x1 : W1.cell? ⟨wo.heap.size, 1, none⟩ = some (.int .i32 m.hi) := Hx.out.cell 1
                              clear hW1 e0 e1 Hx
                              go_loopw [17] (fun r wr => ∃ q : Nat, r = .int .i32 (m.lo + (q : Int)) ∧ (q = 0 ∨ (m.lo + ((q : Int) - 1) ≤ m.hi ∧ m.lo + ((q : Int) - 1) < 128)) ∧ Hid (∀ j, j < q → letR (m.lo + (j : Int)) = true) ∧ wr = W1) (fun r _ => (129 - intOf r).toNat)
                              case atStart => exact ⟨0, by simp, .inl rfl, Lib.hid (fun j h => absurd h (Nat.not_lt_zero _)), rfl⟩
                              case round =>
                                obtain ⟨q, rfl, hqb, hlet, rfl⟩ := hrel
                                obtain ⟨z, hz⟩ : ∃ z : Int, m.lo + (q : Int) = z := ⟨_, rfl⟩
                                rw [hz]
                                have Hz := Lib.hid hz
                                have z0 : 0 ≤ z := by omega
                                have z1 : z ≤ 2147483646 := by rcases hqb with h | h <;> omega
                                have Hqb := Lib.hid hqb
                                clear hqb hz
                                by_cases h1 : z ≤ m.hi
                                · by_cases h2 : z < 128
                                  · skip
                                    have hmin : z ≤ min m.hi 127 := by omega
                                    have HCr := Lib.hid (fun b (hb : letR z = b) w0 => (Tryz.strings_ContainsRune_ascii ⟨#[45, 48, 49, 50, 51, 52, 53, 54, 55, 56, 57, 97, 98, 99, 100, 101, 102, 103, 104, 105, 106, 107, 108, 109, 110, 111, 112, 113, 114, 115, 116, 117, 118, 119, 120, 121, 122]⟩ z w0 z0 h2).mono (R' := fun e w' => e = .returned (.bool b) ∧ w0 = w') (fun e w' h => ⟨by rw [← hb, ← let_index z z0 h2]; exact h.1, h.2.symm⟩))
                                    cases hl : letR z with
                                    | false =>
                                      have H0 : Hid (allowH k m = 5) := Lib.hid (by unfold allowH; rw [if_pos (spanBad_yes (j := q) (by rw [Hz.out]; exact h1) (by rw [Hz.out]; exact h2) (by rw [Hz.out]; exact hl))])
                                      go_wp2_with (first | (go_at_call 65; refine (HCr.out _ (by assumption) _).mono ?_; rintro e w' ⟨rfl, rfl⟩) | (go_at_call 53; refine (tab_wrong _ _ _ _).mono ?_; rintro e w9 ⟨rfl, hb9⟩; have h9 := (Hr.out.step HE.out).step hb9; obtain ⟨r1, r2, r3, f1, f2, f3⟩ := h9.resF; have H9 := Lib.hid h9; clear h9))
                                      obtain ⟨hB, hW⟩ := (H9.out).ret (.int .i64 5) (.int .i64 8) (.int .i64 (k : Int))
                                      obtain ⟨s1, s2, s3, -, -, -⟩ := wrong_facts hB
                                      refine bodyPost_ret (v := .agg #[.int .i64 5, .int .i64 8, .int .i64 (k : Int)]) ?_ rfl ⟨?_, hW⟩
                                      · simp [results, Tryz.results30, go_sem, s1, s2, s3]
                                      · rw [show houseW T = some (5, 8, (k : Int)) by rw [houseW_ord]; rw [HC0.out, HN1.out, HN2.out, HN3.out, HN4.out, HN5.out, Hno.out.found Hm.out (by rw [H0.out]; decide) 8, H0.out]; first | done | rfl]
                                        rfl
                                    | true =>
                                      go_wp2_with (go_at_call 65; refine (HCr.out _ (by assumption) _).mono ?_; rintro e w' ⟨rfl, rfl⟩)
                                      go_roundw
                                      case rel =>
                                        have hz := Hz.out
                                        refine ⟨q + 1, by go_num, .inr ⟨by omega, by omega⟩, Lib.hid (fun j hj => ?_), trivial⟩
                                        by_cases e : j = q
                                        · rw [e, Hz.out]; exact hl
                                        · exact hlet.out j (by omega)
                                      case measure => simp [intOf]; omega
                                  · skip
                                    have hmin : ¬ z ≤ min m.hi 127 := by omega
                                    have H0 : Hid (allowH k m = 0) := Lib.hid (by unfold allowH; rw [if_neg (by rw [spanBad_no hlet.out (by rw [Hz.out]; omega)]; decide)])
                                    go_wp2_with fail
                                    go_roundw
                                    case rel => exact ⟨k + 1, by omega, by go_num, Hno.out.succ Hm.out H0.out, Hr.out.step HE.out⟩
                                    case measure => simp [intOf]; omega
                                · skip
                                  have hmin : ¬ z ≤ min m.hi 127 := by omega
                                  have H0 : Hid (allowH k m = 0) := Lib.hid (by unfold allowH; rw [if_neg (by rw [spanBad_no hlet.out (by rw [Hz.out]; omega)]; decide)])
                                  go_wp2_with fail
                                  go_roundw
                                  case rel => exact ⟨k + 1, by omega, by go_num, Hno.out.succ Hm.out H0.out, Hr.out.step HE.out⟩
                                  case measure => simp [intOf]; omega
                            · have hkn : n7 = k := by omega
                              subst hkn
                              have HN6 : Hid (scan (allowH) 8 0 T.allowed = none) := Lib.hid (NoneTo.all (by rw [HLn7.out]; exact Hno.out) 8)
                              obtain ⟨d0, d1, d2, d3, d4, d5, d6, d7, d8⟩ := chk_facts (HC.out.below Hr.out.below)
                              clear Hno hno hrs
                              go_wp2_with fail
                              have Hs0' := Hr
                              clear Hs0 Hr
                              have Hs0 := Hs0'
                              clear Hs0'
                              obtain ⟨wa, rfl⟩ : ∃ x, x = wr := ⟨_, rfl⟩
                              have Hza := Lib.hid (rfl : wa.heap.size = wa.heap.size)
                              have Hst2 : Hid (ItAt wa wa.heap.size ⟨#[45, 48, 49, 50, 51, 52, 53, 54, 55, 56, 57, 97, 98, 99, 100, 101, 102, 103, 104, 105, 106, 107, 108, 109, 110, 111, 112, 113, 114, 115, 116, 117, 118, 119, 120, 121, 122]⟩ 0 (wa.iter ⟨#[45, 48, 49, 50, 51, 52, 53, 54, 55, 56, 57, 97, 98, 99, 100, 101, 102, 103, 104, 105, 106, 107, 108, 109, 110, 111, 112, 113, 114, 115, 116, 117, 118, 119, 120, 121, 122]⟩ 0)) := Lib.hid (ItAt.start (Below.refl _ _))
                              clear d0 d1 d2 d3 d4 d5 d6 d7 d8
                              go_loopw [19] (fun _ wr => ∃ p : Nat, p ≤ 37 ∧ Hid (∀ q, q < p → ofL (lt_ q) T.allowed = true) ∧ ItAt wa wa.heap.size ⟨#[45, 48, 49, 50, 51, 52, 53, 54, 55, 56, 57, 97, 98, 99, 100, 101, 102, 103, 104, 105, 106, 107, 108, 109, 110, 111, 112, 113, 114, 115, 116, 117, 118, 119, 120, 121, 122]⟩ p wr) (fun _ wr => 37 - wr.iterPos (wa.heap.size))
                              case atStart => exact ⟨0, Nat.zero_le _, Lib.hid (fun q h => absurd h (Nat.not_lt_zero _)), Hst2.out⟩
                              case round =>
                                obtain ⟨p, hp, hall, hit⟩ := hrel
                                by_cases hlt : p < 37
                                · have hnx := fun ty => Lib.run_next_any_at (P := Tryz.prog) wr (wa.heap.size) ⟨#[45, 48, 49, 50, 51, 52, 53, 54, 55, 56, 57, 97, 98, 99, 100, 101, 102, 103, 104, 105, 106, 107, 108, 109, 110, 111, 112, 113, 114, 115, 116, 117, 118, 119, 120, 121, 122]⟩ p ty hit.it hlt
                                  rw [let_at p hlt] at hnx
                                  have hrg := lt_range p hlt
                                  simp only [show (((lt_ p).toNat : Nat) : Int) = lt_ p by omega] at hnx
                                  have hn1 := hit.next (by have := Hza.out; omega) (p + 1)
                                  have hpos := hit.pos
                                  generalize wr.iterAt (wa.heap.size) ⟨#[45, 48, 49, 50, 51, 52, 53, 54, 55, 56, 57, 97, 98, 99, 100, 101, 102, 103, 104, 105, 106, 107, 108, 109, 110, 111, 112, 113, 114, 115, 116, 117, 118, 119, 120, 121, 122]⟩ (p + 1) = w3 at *
                                  have hs3 := Hs0.out.step hn1.below
                                  obtain ⟨d0, d1, d2, d3, d4, d5, d6, d7, d8⟩ := chk_facts (HC.out.below hs3.below)
                                  have HOf := Lib.hid (fun z (hz : ofL (lt_ p) T.allowed = z) => (tab_of T.allowed (HT.out.allowed.below hs3.below) HAL.out (lt_ p)).mono (R' := fun e w' => e = .returned (.bool z) ∧ Below w3.heap.size w3 w') (fun e w' h => ⟨by rw [← hz]; exact h.1, h.2⟩))
                                  have Hn1 := Lib.hid hn1
                                  have Hpos := Lib.hid hpos
                                  have Hits := Lib.hid hit
                                  have HB1 : Hid (Below wa.heap.size wa w3) := Lib.hid hn1.below
                                  have Hr := Hs0
                                  clear hit hn1 hpos hs3
                                  cases hz : ofL (lt_ p) T.allowed with
                                  | false =>
                                    go_wp2_with (first | (go_at_call 60; refine (HOf.out _ (by assumption)).mono ?_; rintro e w2 ⟨rfl, hb2⟩; have HB2 := Lib.hid (Below.trans HB1.out (hb2.mono HB1.out.size))) | (go_at_call 53; refine (tab_wrong _ _ _ _).mono ?_; rintro e w9 ⟨rfl, hb9⟩; have h9 := (Hr.out.step HB2.out).step hb9; obtain ⟨r1, r2, r3, f1, f2, f3⟩ := h9.resF; have H9 := Lib.hid h9; clear h9))
                                    obtain ⟨hB, hW⟩ := (H9.out).ret (.int .i64 5) (.int .i64 8) (.int .i64 0)
                                    obtain ⟨s1, s2, s3, -, -, -⟩ := wrong_facts hB
                                    refine bodyPost_ret (v := .agg #[.int .i64 5, .int .i64 8, .int .i64 0]) ?_ rfl ⟨?_, hW⟩
                                    · simp [results, Tryz.results30, go_sem, s1, s2, s3]
                                    · rw [show houseW T = some (5, 8, 0) by rw [houseW_ord]; rw [HC0.out, HN1.out, HN2.out, HN3.out, HN4.out, HN5.out, HN6.out, all_bad hlt hz]; first | done | rfl]
                                      rfl
                                  | true =>
                                    go_wp2_with (go_at_call 60; refine (HOf.out _ (by assumption)).mono ?_; rintro e w2 ⟨rfl, hb2⟩; have HB2 := Lib.hid (Below.trans HB1.out (hb2.mono HB1.out.size)))
                                    go_roundw
                                    case rel =>
                                      refine ⟨p + 1, by omega, Lib.hid (fun q hq => ?_), Hn1.out.step hb2⟩
                                      by_cases e : q = p
                                      · rw [e]; exact hz
                                      · exact hall.out q (by omega)
                                    case measure => rw [(Hn1.out.step hb2).pos, Hpos.out]; omega
                                · obtain rfl : p = 37 := by omega
                                  have hnx := fun ty => Lib.run_next_end_at (P := Tryz.prog) wr (wa.heap.size) ⟨#[45, 48, 49, 50, 51, 52, 53, 54, 55, 56, 57, 97, 98, 99, 100, 101, 102, 103, 104, 105, 106, 107, 108, 109, 110, 111, 112, 113, 114, 115, 116, 117, 118, 119, 120, 121, 122]⟩ 37 ty hit.it (by decide)
                                  have Hr := Lib.hid (Hs0.out.step hit.below)
                                  have Hits := Lib.hid hit
                                  clear hit
                                  have HA0 : Hid (allW T = none) := Lib.hid (all_good hall.out)
                                  obtain ⟨r1, r2, r3, f1, f2, f3⟩ := (Hr.out).resF
                                  go_wp2_with fail
                                  obtain ⟨hB, hW⟩ := (Hr.out).ret (.int .i64 0) (.int .i64 0) (.int .i64 0)
                                  obtain ⟨s1, s2, s3, -, -, -⟩ := wrong_facts hB
                                  refine bodyPost_ret (v := .agg #[.int .i64 0, .int .i64 0, .int .i64 0]) ?_ rfl ⟨?_, hW⟩
                                  · simp [results, Tryz.results30, go_sem, s1, s2, s3]
                                  · rw [show houseW T = none by rw [houseW_ord]; rw [HC0.out, HN1.out, HN2.out, HN3.out, HN4.out, HN5.out, HN6.out, HA0.out]; first | done | rfl]
                                    rfl

end Go.Proofs.YtjmkdimbbacnfaaGreatDoor
