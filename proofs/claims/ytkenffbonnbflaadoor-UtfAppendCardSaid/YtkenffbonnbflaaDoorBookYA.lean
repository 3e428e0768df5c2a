/- Walks: guisebook.Book at runes: Apart. -/
import Derived.Test.YtkenffbonnbflaaDoorBookYP
namespace Go.Proofs.YtkenffbonnbflaaDoor
open Go.RowKit
set_option linter.unusedVariables false

/-- the mark of the list i at the place j -/
def mkI (i j : Nat) : Int := ((i : Int) + 1) / 2 ^ (8 * (j % 3)) % 256
def mkY (i j : Nat) : Value := .int .u8 (mkI i j)
set_option maxHeartbeats 1000000 in
theorem markRY (i j : Nat) (w : World) (hi : i ≤ 1000000) (hj : j ≤ 9223372036854775807) : Calls Tryd.prog 51 #[.int .i64 (i : Int), .int .i64 (j : Int)] w fun e w' => e = .returned (.int .u8 (mkI i j)) ∧ w = w' := by
  go_enter Tryd.func51, Tryd.ntmps51
  go_wp2
  go_ret
  exact ⟨rfl, rfl⟩

/-- the first p cells are marks -/
def fillRY (row : Array Value) (v : Nat → Value) (p : Nat) : Array Value := ((List.range p).map v ++ row.toList.drop p).toArray
theorem fillR_sizeY (row : Array Value) (v : Nat → Value) (p : Nat) (h : p ≤ row.size) : (fillRY row v p).size = row.size := by unfold fillRY; simp; omega
theorem fillR_zeroY (row : Array Value) (v : Nat → Value) : fillRY row v 0 = row := by unfold fillRY; simp
theorem fillR_setY (row : Array Value) (v : Nat → Value) (p : Nat) (h : p < row.size) : (fillRY row v p).setIfInBounds p (v p) = fillRY row v (p + 1) := by
  unfold fillRY
  have hl : row.toList.length = row.size := Array.length_toList
  rw [List.setIfInBounds_toArray, List.set_append_right _ _ (by simp), List.length_map, List.length_range, Nat.sub_self, List.drop_eq_getElem_cons (by omega), List.set_cons_zero, List.range_succ, List.map_append, List.append_assoc, List.map_singleton, List.singleton_append]
theorem fillR_atY (row : Array Value) (v : Nat → Value) (p q : Nat) (h : q < p) : (fillRY row v p)[q]? = some (v q) := by
  unfold fillRY
  rw [List.getElem?_toArray, List.getElem?_append_left (by simpa using h), List.getElem?_map, List.getElem?_range h]
  rfl
theorem fillR_getY (row : Array Value) (v : Nat → Value) (p q : Nat) (h : p ≤ row.size) (hq : q < row.size) : ∃ u, (fillRY row v p)[q]? = some u := by
  exact ⟨_, Array.getElem?_eq_getElem (by rw [fillR_sizeY _ _ _ h]; exact hq)⟩

/-- a list is full of one mark -/
def FullRY (w : World) (A : Option Addr) (c : Nat) (v : Nat → Value) : Prop := c = 0 ∨ ∃ g row, A = some ⟨g, 0, none⟩ ∧ Blk w g 5 row ∧ row.size = c ∧ ∀ q, q < c → row[q]? = some (v q)

/-- while lists are filled: the first i are full -/
structure ApartRY (w wr : World) (base B gl ol cl gw ow cw : Nat) (hd : Int) (k : Nat) (A : Nat → Option Addr) (C : Nat → Nat) (ns : List Int) (i : Nat) : Prop where
  blk : Blk wr B 61 #[.slice (some ⟨gl, ol, none⟩) k cl, .slice (some ⟨gw, ow, none⟩) k cw, .int .i64 hd, .bool false]
  lists : ∃ r, Blk wr gl 56 r ∧ ∀ j, j < k → r[ol + j]? = some (.slice (A j) ns.length (C j))
  ent : ∀ j, j < k → (A j = none ∧ ns.length = 0 ∧ C j = 0) ∨ ∃ g row, A j = some ⟨g, 0, none⟩ ∧ Blk wr g 5 row ∧ row.size = C j ∧ ns.length ≤ C j ∧ base ≤ g
  full : ∀ j, j < i → FullRY wr (A j) (C j) (mkY j)
  below : Below base w wr
theorem ApartRY.step {w wr wr2 : World} {base B gl ol cl gw ow cw : Nat} {hd : Int} {k : Nat} {A : Nat → Option Addr} {C : Nat → Nat} {ns : List Int} {i : Nat}
    (h : ApartRY w wr base B gl ol cl gw ow cw hd k A C ns i) (hb : Below wr.heap.size wr wr2) (hbase : base ≤ wr.heap.size) : ApartRY w wr2 base B gl ol cl gw ow cw hd k A C ns i := by
  obtain ⟨r, hr, hr2⟩ := h.lists
  refine ⟨h.blk.below hb, ⟨r, hr.below hb, hr2⟩, fun j hj => ?_, fun j hj => ?_, h.below.trans (hb.mono hbase)⟩
  · rcases h.ent j hj with c | ⟨g, row, e, hB, q⟩
    · exact .inl c
    · exact .inr ⟨g, row, e, hB.below hb, q⟩
  · rcases h.full j hj with c | ⟨g, row, e, hB, q⟩
    · exact .inl c
    · exact .inr ⟨g, row, e, hB.below hb, q⟩
/-- one list more is full -/
theorem ApartRY.fill {w wr wr2 : World} {base B gl ol cl gw ow cw : Nat} {hd : Int} {k : Nat} {A : Nat → Option Addr} {C : Nat → Nat} {ns : List Int} {i g : Nat} {row : Array Value}
    (h : ApartRY w wr base B gl ol cl gw ow cw hd k A C ns i) (hi : i < k) (hA : A i = some ⟨g, 0, none⟩) (hap : ∀ i j, i < k → j < k → i ≠ j → ∀ g, A i = some ⟨g, 0, none⟩ → A j ≠ some ⟨g, 0, none⟩)
    (hrow : Blk wr g 5 row) (hsz : row.size = C i) (hle : ns.length ≤ C i) (hg : base ≤ g) (ho : OnlyR g wr wr2) (hnew : Blk wr2 g 5 (fillRY row (mkY i) (C i))) : ApartRY w wr2 base B gl ol cl gw ow cw hd k A C ns (i + 1) := by
  obtain ⟨r, hr, hr2⟩ := h.lists
  refine ⟨h.blk.of (ho.block _ (blk_ne h.blk hrow (by decide))), ⟨r, hr.of (ho.block _ (blk_ne hr hrow (by decide))), hr2⟩, fun j hj => ?_, fun j hj => ?_, h.below.trans (ho.to hg)⟩
  · by_cases e : j = i
    · subst e
      exact .inr ⟨g, _, hA, hnew, by rw [fillR_sizeY _ _ _ (by omega)]; exact hsz, hle, hg⟩
    · rcases h.ent j hj with c | ⟨g', row', e', hB, q⟩
      · exact .inl c
      · refine .inr ⟨g', row', e', hB.of (ho.block _ ?_), q⟩
        rintro rfl
        exact hap j i hj hi e _ e' hA
  · by_cases e : j = i
    · subst e
      exact .inr ⟨g, _, hA, hnew, by rw [fillR_sizeY _ _ _ (by omega)]; exact hsz, fun q hq => fillR_atY _ _ _ _ hq⟩
    · rcases h.full j (by omega) with c | ⟨g', row', e', hB, q⟩
      · exact .inl c
      · refine .inr ⟨g', row', e', hB.of (ho.block _ ?_), q⟩
        rintro rfl
        exact hap j i (by omega) hi e _ e' hA
theorem ApartRY.none {w wr : World} {base B gl ol cl gw ow cw : Nat} {hd : Int} {k : Nat} {A : Nat → Option Addr} {C : Nat → Nat} {ns : List Int} {i : Nat}
    (h : ApartRY w wr base B gl ol cl gw ow cw hd k A C ns i) (hc : C i = 0) : ApartRY w wr base B gl ol cl gw ow cw hd k A C ns (i + 1) := by
  refine ⟨h.blk, h.lists, h.ent, fun j hj => ?_, h.below⟩
  by_cases e : j = i
  · subst e; exact .inl hc
  · exact h.full j (by omega)

set_option maxRecDepth 100000 in
set_option maxHeartbeats 8000000 in
theorem apartRY {base B gl ol cl gw ow cw : Nat} {hd : Int} {k : Nat} {A : Nat → Option Addr} {C : Nat → Nat} {V : Nat → Option Addr} {D : Nat → Nat} {ns : List Int} (w : World)
    (h : BookRY w B gl ol cl gw ow cw hd k A C V D ns) (hk : k ≤ 1000) (hl : ns.length ≤ 9223372036854775806) (hC : ∀ j, j < k → C j ≤ 9223372036854775807) (hB : base ≤ B)
    (hg : ∀ j, j < k → ∀ g, A j = some ⟨g, 0, none⟩ → base ≤ g) :
    Calls Tryd.prog 50 #[.pointer (some ⟨B, 0, none⟩), .func (.func 51) #[] #[]] w fun e w' => e = .returned (.bool true) ∧ Below base w w' := by
  have hBw := h.blk.lt
  have HS := Lib.hid (staysRY w h (by omega) hl)
  have hap := h.apart
  have Hap := Lib.hid hap
  have hA0 : ∀ w1, Below w.heap.size w w1 → ApartRY w w1 base B gl ol cl gw ow cw hd k A C ns 0 := fun w1 hb => by
    have hb1 := h.below hb
    refine ⟨hb1.blk, hb1.lists, fun j hj => ?_, fun j hj => by omega, hb.mono (by omega)⟩
    rcases (hb1.ent j hj).2 with c | ⟨g, row, e, q1, q2, q3⟩
    · exact .inl c
    · exact .inr ⟨g, row, e, q1, q2, q3, hg j hj g e⟩
  have HA0 := Lib.hid hA0
  have HM := Lib.hid markRY
  have HC := Lib.hid hC
  obtain ⟨n, hn⟩ : ∃ n, ns.length = n := ⟨_, rfl⟩
  have Hn := Lib.hid hn
  clear h hap hA0 hg hl hn hC
  go_enter Tryd.func50, Tryd.ntmps50
  go_wp2_with fail
  refine HS.out.mono ?_
  rintro e w1 ⟨rfl, hb1⟩
  have hA1 := Lib.hid (HA0.out w1 hb1)
  have q1 : base ≤ w1.heap.size := by have := hb1.size; omega
  clear hb1
  go_wp2_with fail
  go_loopw [5] (fun i wr => ∃ j : Nat, j ≤ k ∧ i = .int .i64 (j : Int) ∧ Hid (ApartRY w wr base B gl ol cl gw ow cw hd k A C ns j) ∧ base ≤ wr.heap.size) (fun i _ => k - (intOf i).toNat)
  case atStart => exact ⟨0, Nat.zero_le _, rfl, hA1, q1⟩
  case round =>
    obtain ⟨i, hi, rfl, hA, q2⟩ := hrel
    have c0 := hA.out.blk.cell 0
    simp only [List.getElem?_toArray, List.getElem?_cons_zero] at c0
    by_cases hlt : i < k
    · obtain ⟨r, hr, hr2⟩ := hA.out.lists
      have d0 := (hr.cell (ol + i)).trans (hr2 i hlt)
      rw [Hn.out] at d0
      have i1 : (0 : Int) ≤ (i : Int) := by omega
      have i2 : (i : Int) < (k : Int) := by omega
      have i3 : (i : Int) ≤ 1000000 := by omega
      rcases hA.out.ent i hlt with ⟨eA, e0, ec⟩ | ⟨g, row, eA, hrow, hsz, hle, hg⟩
      · rw [Hn.out] at e0
        rw [eA, ec, e0] at d0
        have hfin := Lib.hid (hA.out.none ec)
        clear hr hr2
        go_wp2_with fail
        go_region_held3 (fun w' => w'.cell? ⟨B, 0, none⟩ = some (.slice (some ⟨gl, ol, none⟩) k cl) ∧ w'.cell? ⟨gl, ol + i, none⟩ = some (.slice none 0 0)) (go_keep) (fail)
        go_wp2_with fail
        go_loopw [7] (fun i2 wr2 => i2 = .int .i64 0 ∧ ∃ q, wr.drewN q = wr2) (fun _ _ => 0)
        case atStart => exact ⟨rfl, _, rfl⟩
        case round =>
          obtain ⟨rfl, q, rfl⟩ := hrel
          have q3 : base ≤ (wr.drewN q).heap.size := q2
          go_wp2_with fail
          go_roundw
          case rel => exact ⟨i + 1, by omega, by go_num, Lib.hid (hfin.out.step (below_drewN (Below.refl _ wr) q) q2), q3⟩
          case measure => simp [intOf]; omega
      · rw [Hn.out] at hle
        rw [eA] at d0
        have hcb := HC.out i hlt
        have HF := Lib.hid (fun wr2 => hA.out.fill (wr2 := wr2) hlt eA Hap.out hrow hsz (by rw [Hn.out]; exact hle) hg)
        generalize hc : C i = c at *
        have HMi := Lib.hid (fun (p : Nat) w hp => HM.out i p w (by omega) hp)
        clear hr hr2
        go_wp2_with fail
        go_region_held3 (fun w' => w'.cell? ⟨B, 0, none⟩ = some (.slice (some ⟨gl, ol, none⟩) k cl) ∧ w'.cell? ⟨gl, ol + i, none⟩ = some (.slice (some ⟨g, 0, none⟩) n c)) (go_keep) (fail)
        go_wp2_with fail
        go_loopw [7] (fun i2 wr2 => ∃ p : Nat, p ≤ c ∧ i2 = .int .i64 (p : Int) ∧ Hid (Blk wr2 g 5 (fillRY row (mkY i) p)) ∧ Hid (OnlyR g wr wr2)) (fun i2 _ => c - (intOf i2).toNat)
        case atStart => exact ⟨0, Nat.zero_le _, rfl, Lib.hid (by rw [fillR_zeroY]; exact hrow.below (Below.refl _ wr).drew), Lib.hid ⟨rfl, rfl, rfl, rfl, fun _ _ => rfl⟩⟩
        case round =>
          obtain ⟨p, hp, rfl, hBp, hO⟩ := hrel
          by_cases hlt2 : p < c
          · obtain ⟨u, hu⟩ := fillR_getY row (mkY i) p p (by omega) (by omega)
            have e1 := (hBp.out.cell p).trans hu
            have e2 := hBp.out.frozen p
            have hnx : Hid (Blk (wr.setCell ⟨g, p, none⟩ (.int .u8 (mkI i p))) g 5 (fillRY row (mkY i) (p + 1))) := Lib.hid (by
              have h1 := hBp.out.set_ p (mkY i p)
              rw [fillR_setY _ _ _ (by omega)] at h1
              exact h1)
            have j1 : (p : Int) < (c : Int) := by omega
            clear hu
            go_wp2_with fail
            refine (HMi.out p _ (by omega)).mono ?_
            rintro e w' ⟨rfl, rfl⟩
            go_wp2_with fail
            go_roundw
            case rel => exact ⟨p + 1, by omega, by go_num, hnx, Lib.hid (hO.out.setCell _ _)⟩
            case measure => simp [intOf]; omega
          · obtain rfl : p = c := by omega
            go_wp2_with fail
            go_roundw
            case rel => exact ⟨i + 1, by omega, by go_num, Lib.hid (HF.out _ hO.out hBp.out), by rw [hO.out.size]; exact q2⟩
            case measure => simp [intOf]; omega
    · obtain rfl : i = k := by omega
      clear Hap HA0
      go_wp2_with fail
      go_loopw [8] (fun x wr2 => ∃ j : Nat, j ≤ i ∧ x = .int .i64 (j : Int) ∧ Hid (ApartRY w wr2 base B gl ol cl gw ow cw hd i A C ns i) ∧ base ≤ wr2.heap.size) (fun x _ => i - (intOf x).toNat)
      case atStart => exact ⟨0, Nat.zero_le _, rfl, hA, q2⟩
      case round =>
        obtain ⟨j, hj, rfl, hA2, q3⟩ := hrel
        have c0 := hA2.out.blk.cell 0
        have f0 := hA2.out.blk.frozen 0
        have c1 := hA2.out.blk.cell 1
        have f1 := hA2.out.blk.frozen 1
        have c2 := hA2.out.blk.cell 2
        have f2 := hA2.out.blk.frozen 2
        simp only [List.getElem?_toArray, List.getElem?_cons_succ, List.getElem?_cons_zero] at c0 c1 c2
        by_cases hlt : j < i
        · obtain ⟨r, hr, hr2⟩ := hA2.out.lists
          have d0 := (hr.cell (ol + j)).trans (hr2 j hlt)
          rw [Hn.out] at d0
          have i1 : (0 : Int) ≤ (j : Int) := by omega
          have i2 : (j : Int) < (i : Int) := by omega
          have i3 : (j : Int) ≤ 1000000 := by omega
          rcases hA2.out.full j hlt with ec | ⟨g, row, eA, hrow, hsz, hfull⟩
          · rcases hA2.out.ent j hlt with ⟨eA, e0, _⟩ | ⟨g, row, eA, hrow, hsz, hle, hg⟩
            · rw [Hn.out] at e0
              rw [eA, ec, e0] at d0
              clear hr hr2
              go_wp2_with fail
              go_region_held3 (fun w' => w'.cell? ⟨B, 0, none⟩ = some (.slice (some ⟨gl, ol, none⟩) i cl) ∧ w'.cell? ⟨gl, ol + j, none⟩ = some (.slice none 0 0)) (go_keep) (fail)
              go_wp2_with fail
              go_loopw [10] (fun i2 wr3 => i2 = .int .i64 0 ∧ ∃ q, wr.drewN q = wr3) (fun _ _ => 0)
              case atStart => exact ⟨rfl, _, rfl⟩
              case round =>
                obtain ⟨rfl, q, rfl⟩ := hrel
                have q4 : base ≤ (wr.drewN q).heap.size := q3
                go_wp2_with fail
                go_roundw
                case rel => exact ⟨j + 1, by omega, by go_num, Lib.hid (hA2.out.step (below_drewN (Below.refl _ wr) q) q3), q4⟩
                case measure => simp [intOf]; omega
            · rw [Hn.out, ec] at hle
              obtain rfl : n = 0 := by omega
              rw [eA, ec] at d0
              clear hr hr2
              go_wp2_with fail
              go_region_held3 (fun w' => w'.cell? ⟨B, 0, none⟩ = some (.slice (some ⟨gl, ol, none⟩) i cl) ∧ w'.cell? ⟨gl, ol + j, none⟩ = some (.slice (some ⟨g, 0, none⟩) 0 0)) (go_keep) (fail)
              go_wp2_with fail
              go_loopw [10] (fun i2 wr3 => i2 = .int .i64 0 ∧ ∃ q, wr.drewN q = wr3) (fun _ _ => 0)
              case atStart => exact ⟨rfl, _, rfl⟩
              case round =>
                obtain ⟨rfl, q, rfl⟩ := hrel
                have q4 : base ≤ (wr.drewN q).heap.size := q3
                go_wp2_with fail
                go_roundw
                case rel => exact ⟨j + 1, by omega, by go_num, Lib.hid (hA2.out.step (below_drewN (Below.refl _ wr) q) q3), q4⟩
                case measure => simp [intOf]; omega
          · have hle : n ≤ C j := by
              rcases hA2.out.ent j hlt with ⟨eA2, e0, _⟩ | ⟨g2, row2, eA2, hrow2, hsz2, hle, hg⟩
              · rw [eA2] at eA; cases eA
              · rw [Hn.out] at hle; exact hle
            have hcb := HC.out j hlt
            rw [eA] at d0
            generalize hc : C j = c at *
            have HMj := Lib.hid (fun (p : Nat) w hp => HM.out j p w (by omega) hp)
            clear hr hr2
            go_wp2_with fail
            go_region_held3 (fun w' => w'.cell? ⟨B, 0, none⟩ = some (.slice (some ⟨gl, ol, none⟩) i cl) ∧ w'.cell? ⟨gl, ol + j, none⟩ = some (.slice (some ⟨g, 0, none⟩) n c)) (go_keep) (fail)
            go_wp2_with fail
            go_loopw [10] (fun i2 wr3 => ∃ p : Nat, p ≤ c ∧ i2 = .int .i64 (p : Int) ∧ ∃ q, wr.drewN q = wr3) (fun i2 _ => c - (intOf i2).toNat)
            case atStart => exact ⟨0, Nat.zero_le _, rfl, _, rfl⟩
            case round =>
              obtain ⟨p, hp, rfl, q, rfl⟩ := hrel
              by_cases hlt2 : p < c
              · have e1 : wr.cell? ⟨g, p, none⟩ = some (.int .u8 (mkI j p)) := (hrow.cell p).trans (hfull p hlt2)
                have j1 : (p : Int) < (c : Int) := by omega
                go_wp2_with fail
                go_region_held3 (fun w' => w'.cell? ⟨g, p, none⟩ = some (.int .u8 (mkI j p))) (go_keep)
                  (first | (go_at_call 51; refine (HMj.out p _ (by omega)).mono ?_; rintro e w' ⟨rfl, rfl⟩))
                go_wp2_with fail
                go_roundw
                case rel => exact ⟨p + 1, by omega, by go_num, _, rfl⟩
                case measure => simp [intOf]; omega
              · obtain rfl : p = c := by omega
                have q4 : base ≤ (wr.drewN q).heap.size := q3
                go_wp2_with fail
                go_roundw
                case rel => exact ⟨j + 1, by omega, by go_num, Lib.hid (hA2.out.step (below_drewN (Below.refl _ wr) q) q3), q4⟩
                case measure => simp [intOf]; omega
        · obtain rfl : j = i := by omega
          go_wp2_with fail
          go_ret
          exact ⟨rfl, ((hA2.out.below.setCell hB _).setCell hB _).setCell hB _⟩
end Go.Proofs.YtkenffbonnbflaaDoor
