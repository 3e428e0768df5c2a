/- Walks: guisebook.Book at runes: Apart. -/
import Derived.Test.YtkenffbonnbflaaMarkS
namespace Go.Proofs.Ytkenffbonnbflaa
open Go.RowKit
set_option linter.unusedVariables false

/-- the first p cells are marks -/
def fillR (row : Array Value) (v : Value) (p : Nat) : Array Value := (List.replicate p v ++ row.toList.drop p).toArray
theorem fillR_size (row : Array Value) (v : Value) (p : Nat) (h : p ≤ row.size) : (fillR row v p).size = row.size := by unfold fillR; simp; omega
theorem fillR_zero (row : Array Value) (v : Value) : fillR row v 0 = row := by unfold fillR; simp
theorem fillR_set (row : Array Value) (v : Value) (p : Nat) (h : p < row.size) : (fillR row v p).setIfInBounds p v = fillR row v (p + 1) := by
  unfold fillR
  have hl : row.toList.length = row.size := Array.length_toList
  rw [List.setIfInBounds_toArray, List.set_append_right _ _ (by simp), List.length_replicate, Nat.sub_self, List.drop_eq_getElem_cons (by omega), List.set_cons_zero, List.replicate_succ', List.append_assoc, List.singleton_append]
theorem fillR_at (row : Array Value) (v : Value) (p q : Nat) (h : q < p) : (fillR row v p)[q]? = some v := by
  unfold fillR
  rw [List.getElem?_toArray, List.getElem?_append_left (by simpa using h), List.getElem?_replicate_of_lt h]
theorem fillR_get (row : Array Value) (v : Value) (p q : Nat) (h : p ≤ row.size) (hq : q < row.size) : ∃ u, (fillR row v p)[q]? = some u := by
  exact ⟨_, Array.getElem?_eq_getElem (by rw [fillR_size _ _ _ h]; exact hq)⟩

/-- a list is full of one mark -/
def FullR (w : World) (A : Option Addr) (c : Nat) (v : Value) : Prop := c = 0 ∨ ∃ g row, A = some ⟨g, 0, none⟩ ∧ Blk w g 9 row ∧ row.size = c ∧ ∀ q, q < c → row[q]? = some v

/-- while lists are filled: the first i are full -/
structure ApartR (w wr : World) (base B gl ol cl gw ow cw : Nat) (hd : Int) (k : Nat) (A : Nat → Option Addr) (C : Nat → Nat) (ns : List ByteArray) (i : Nat) : Prop where
  blk : Blk wr B 43 #[.slice (some ⟨gl, ol, none⟩) k cl, .slice (some ⟨gw, ow, none⟩) k cw, .int .i64 hd, .bool false]
  lists : ∃ r, Blk wr gl 45 r ∧ ∀ j, j < k → r[ol + j]? = some (.slice (A j) ns.length (C j))
  ent : ∀ j, j < k → (A j = none ∧ ns.length = 0 ∧ C j = 0) ∨ ∃ g row, A j = some ⟨g, 0, none⟩ ∧ Blk wr g 9 row ∧ row.size = C j ∧ ns.length ≤ C j ∧ base ≤ g
  full : ∀ j, j < i → FullR wr (A j) (C j) (.string (mkB j))
  below : Below base w wr
theorem ApartR.step {w wr wr2 : World} {base B gl ol cl gw ow cw : Nat} {hd : Int} {k : Nat} {A : Nat → Option Addr} {C : Nat → Nat} {ns : List ByteArray} {i : Nat}
    (h : ApartR w wr base B gl ol cl gw ow cw hd k A C ns i) (hb : Below wr.heap.size wr wr2) (hbase : base ≤ wr.heap.size) : ApartR w wr2 base B gl ol cl gw ow cw hd k A C ns i := by
  obtain ⟨r, hr, hr2⟩ := h.lists
  refine ⟨h.blk.below hb, ⟨r, hr.below hb, hr2⟩, fun j hj => ?_, fun j hj => ?_, h.below.trans (hb.mono hbase)⟩
  · rcases h.ent j hj with c | ⟨g, row, e, hB, q⟩
    · exact .inl c
    · exact .inr ⟨g, row, e, hB.below hb, q⟩
  · rcases h.full j hj with c | ⟨g, row, e, hB, q⟩
    · exact .inl c
    · exact .inr ⟨g, row, e, hB.below hb, q⟩
/-- one block alone has turned, and new ones have come -/
structure OnlyG (g : Nat) (w w' : World) : Prop where
  os : w'.os = w.os
  tape : w'.tape = w.tape
  output : w'.output = w.output
  size : w.heap.size ≤ w'.heap.size
  block : ∀ b, b < w.heap.size → b ≠ g → w'.heap[b]? = w.heap[b]?
theorem OnlyG.refl (g : Nat) (w : World) : OnlyG g w w := ⟨rfl, rfl, rfl, Nat.le_refl _, fun _ _ _ => rfl⟩
theorem OnlyG.trans {g : Nat} {a b c : World} (h : OnlyG g a b) (k : OnlyG g b c) : OnlyG g a c := ⟨k.os.trans h.os, k.tape.trans h.tape, k.output.trans h.output, Nat.le_trans h.size k.size, fun i hl hi => (k.block i (Nat.lt_of_lt_of_le hl h.size) hi).trans (h.block i hl hi)⟩
theorem OnlyG.setCell {g : Nat} {a w : World} (h : OnlyG g a w) (o : Nat) (u : Value) : OnlyG g a (w.setCell ⟨g, o, none⟩ u) :=
  h.trans ⟨rfl, rfl, rfl, by simp [World.setCell], fun b _ hb => Below.heap_setCell _ _ _ _ hb⟩
theorem OnlyG.below {g : Nat} {a w w' : World} (h : OnlyG g a w) (hb : Below w.heap.size w w') : OnlyG g a w' :=
  h.trans ⟨hb.os, hb.tape, hb.output, hb.size, fun b hl _ => hb.block b hl⟩
theorem OnlyG.to {g base : Nat} {w w' : World} (h : OnlyG g w w') (hg : base ≤ g) (hs : base ≤ w.heap.size) : Below base w w' := ⟨h.os, h.tape, h.output, h.size, fun k hk => h.block k (by omega) (by omega)⟩
/-- one list more is full -/
theorem ApartR.fill {w wr wr2 : World} {base B gl ol cl gw ow cw : Nat} {hd : Int} {k : Nat} {A : Nat → Option Addr} {C : Nat → Nat} {ns : List ByteArray} {i g : Nat} {row : Array Value}
    (h : ApartR w wr base B gl ol cl gw ow cw hd k A C ns i) (hi : i < k) (hA : A i = some ⟨g, 0, none⟩) (hap : ∀ i j, i < k → j < k → i ≠ j → ∀ g, A i = some ⟨g, 0, none⟩ → A j ≠ some ⟨g, 0, none⟩)
    (hrow : Blk wr g 9 row) (hsz : row.size = C i) (hle : ns.length ≤ C i) (hg : base ≤ g) (hw : base ≤ wr.heap.size) (ho : OnlyG g wr wr2) (hnew : Blk wr2 g 9 (fillR row (.string (mkB i)) (C i))) : ApartR w wr2 base B gl ol cl gw ow cw hd k A C ns (i + 1) := by
  obtain ⟨r, hr, hr2⟩ := h.lists
  refine ⟨h.blk.of (ho.block _ h.blk.lt (blk_ne h.blk hrow (by decide))), ⟨r, hr.of (ho.block _ hr.lt (blk_ne hr hrow (by decide))), hr2⟩, fun j hj => ?_, fun j hj => ?_, h.below.trans (ho.to hg hw)⟩
  · by_cases e : j = i
    · subst e
      exact .inr ⟨g, _, hA, hnew, by rw [fillR_size _ _ _ (by omega)]; exact hsz, hle, hg⟩
    · rcases h.ent j hj with c | ⟨g', row', e', hB, q⟩
      · exact .inl c
      · refine .inr ⟨g', row', e', hB.of (ho.block _ hB.lt ?_), q⟩
        rintro rfl
        exact hap j i hj hi e _ e' hA
  · by_cases e : j = i
    · subst e
      exact .inr ⟨g, _, hA, hnew, by rw [fillR_size _ _ _ (by omega)]; exact hsz, fun q hq => fillR_at _ _ _ _ hq⟩
    · rcases h.full j (by omega) with c | ⟨g', row', e', hB, q⟩
      · exact .inl c
      · refine .inr ⟨g', row', e', hB.of (ho.block _ hB.lt ?_), q⟩
        rintro rfl
        exact hap j i (by omega) hi e _ e' hA
theorem ApartR.none {w wr : World} {base B gl ol cl gw ow cw : Nat} {hd : Int} {k : Nat} {A : Nat → Option Addr} {C : Nat → Nat} {ns : List ByteArray} {i : Nat}
    (h : ApartR w wr base B gl ol cl gw ow cw hd k A C ns i) (hc : C i = 0) : ApartR w wr base B gl ol cl gw ow cw hd k A C ns (i + 1) := by
  refine ⟨h.blk, h.lists, h.ent, fun j hj => ?_, h.below⟩
  by_cases e : j = i
  · subst e; exact .inl hc
  · exact h.full j (by omega)

set_option maxRecDepth 100000 in
set_option maxHeartbeats 8000000 in
theorem apartR {base B gl ol cl gw ow cw : Nat} {hd : Int} {k : Nat} {A : Nat → Option Addr} {C : Nat → Nat} {V : Nat → Option Addr} {D : Nat → Nat} {ns : List ByteArray} (w : World)
    (h : BookR w B gl ol cl gw ow cw hd k A C V D ns) (hk : k ≤ 1000) (hl : ns.length ≤ 9223372036854775806) (hC : ∀ j, j < k → C j ≤ 9223372036854775807) (hB : base ≤ B)
    (hg : ∀ j, j < k → ∀ g, A j = some ⟨g, 0, none⟩ → base ≤ g) :
    Calls Try.prog 22 #[.pointer (some ⟨B, 0, none⟩), .func (.func 23) #[] #[]] w fun e w' => e = .returned (.bool true) ∧ Below base w w' := by
  have hBw := h.blk.lt
  have HS := Lib.hid (staysR w h (by omega) hl)
  have hap := h.apart
  have Hap := Lib.hid hap
  have hA0 : ∀ w1, Below w.heap.size w w1 → ApartR w w1 base B gl ol cl gw ow cw hd k A C ns 0 := fun w1 hb => by
    have hb1 := h.below hb
    refine ⟨hb1.blk, hb1.lists, fun j hj => ?_, fun j hj => by omega, hb.mono (by omega)⟩
    rcases (hb1.ent j hj).2 with c | ⟨g, row, e, q1, q2, q3⟩
    · exact .inl c
    · exact .inr ⟨g, row, e, q1, q2, q3, hg j hj g e⟩
  have HA0 := Lib.hid hA0
  have HM := Lib.hid markR
  have HC := Lib.hid hC
  obtain ⟨n, hn⟩ : ∃ n, ns.length = n := ⟨_, rfl⟩
  have Hn := Lib.hid hn
  clear h hap hA0 hg hl hn hC
  go_enter Try.func22, Try.ntmps22
  go_wp2_with fail
  refine HS.out.mono ?_
  rintro e w1 ⟨rfl, hb1⟩
  have hA1 := Lib.hid (HA0.out w1 hb1)
  have q1 : base ≤ w1.heap.size := by have := hb1.size; omega
  clear hb1
  go_wp2_with fail
  go_loopw [5] (fun i wr => ∃ j : Nat, j ≤ k ∧ i = .int .i64 (j : Int) ∧ Hid (ApartR w wr base B gl ol cl gw ow cw hd k A C ns j) ∧ base ≤ wr.heap.size) (fun i _ => k - (intOf i).toNat)
  case atStart => exact ⟨0, Nat.zero_le _, rfl, hA1, q1⟩
  case round =>
    obtain ⟨i, hi, rfl, hA, q2⟩ := hrel
    have c0 := hA.out.blk.cell 0
    simp only [List.getElem?_toArray, List.getElem?_cons_zero] at c0
    by_cases hlt : i < k
    · obtain ⟨r, hr, hr2⟩ := hA.out.lists
      have d0 := (hr.cell (ol + i)).trans (hr2 i hlt)
      rw [Hn.out] at d0
      have i1 : (0 : Int) ≤ (i : Int) := by omega
      have i2 : (i : Int) < (k : Int) := by omega
      have i3 : (i : Int) ≤ 1000000 := by omega
      rcases hA.out.ent i hlt with ⟨eA, e0, ec⟩ | ⟨g, row, eA, hrow, hsz, hle, hg⟩
      · rw [Hn.out] at e0
        rw [eA, ec, e0] at d0
        have hfin := Lib.hid (hA.out.none ec)
        clear hr hr2
        go_wp2_with fail
        go_region_held3 (fun w' => w'.cell? ⟨B, 0, none⟩ = some (.slice (some ⟨gl, ol, none⟩) k cl) ∧ w'.cell? ⟨gl, ol + i, none⟩ = some (.slice none 0 0)) (go_keep) (fail)
        go_wp2_with fail
        go_loopw [7] (fun i2 wr2 => i2 = .int .i64 0 ∧ ∃ q, wr.drewN q = wr2) (fun _ _ => 0)
        case atStart => exact ⟨rfl, _, rfl⟩
        case round =>
          obtain ⟨rfl, q, rfl⟩ := hrel
          have q3 : base ≤ (wr.drewN q).heap.size := q2
          go_wp2_with fail
          go_roundw
          case rel => exact ⟨i + 1, by omega, by go_num, Lib.hid (hfin.out.step (below_drewN (Below.refl _ wr) q) q2), q3⟩
          case measure => simp [intOf]; omega
      · rw [Hn.out] at hle
        rw [eA] at d0
        have hcb := HC.out i hlt
        have HF := Lib.hid (fun wr2 => hA.out.fill (wr2 := wr2) hlt eA Hap.out hrow hsz (by rw [Hn.out]; exact hle) hg q2)
        generalize hc : C i = c at *
        have HMi := Lib.hid (fun (j : Int) w => HM.out i j w (by omega))
        clear hr hr2
        go_wp2_with fail
        go_region_held3 (fun w' => w'.cell? ⟨B, 0, none⟩ = some (.slice (some ⟨gl, ol, none⟩) k cl) ∧ w'.cell? ⟨gl, ol + i, none⟩ = some (.slice (some ⟨g, 0, none⟩) n c)) (go_keep) (fail)
        go_wp2_with fail
        go_loopw [7] (fun i2 wr2 => ∃ p : Nat, p ≤ c ∧ i2 = .int .i64 (p : Int) ∧ Hid (Blk wr2 g 9 (fillR row (.string (mkB i)) p)) ∧ Hid (OnlyG g wr wr2)) (fun i2 _ => c - (intOf i2).toNat)
        case atStart => exact ⟨0, Nat.zero_le _, rfl, Lib.hid (by rw [fillR_zero]; exact hrow.below (Below.refl _ wr).drew), Lib.hid ⟨rfl, rfl, rfl, Nat.le_refl _, fun _ _ _ => rfl⟩⟩
        case round =>
          obtain ⟨p, hp, rfl, hBp, hO⟩ := hrel
          by_cases hlt2 : p < c
          · obtain ⟨u, hu⟩ := fillR_get row (.string (mkB i)) p p (by omega) (by omega)
            have e1 := (hBp.out.cell p).trans hu
            have e2 := hBp.out.frozen p
            have hnx : Hid (∀ W, Below wr.heap.size wr W → Blk (W.setCell ⟨g, p, none⟩ (.string (mkB i))) g 9 (fillR row (.string (mkB i)) (p + 1))) := Lib.hid (fun W hbW => by
              have h1 := (hBp.out.below hbW).set_ p (.string (mkB i))
              rw [fillR_set _ _ _ (by omega)] at h1
              exact h1)
            have j1 : (p : Int) < (c : Int) := by omega
            clear hu
            go_wp2_with fail
            refine (HMi.out _ _).mono ?_
            rintro e w' ⟨rfl, hb'⟩
            have Hbm := Lib.hid hb'
            have e1 := (hb'.cell (p := ⟨g, p, none⟩) hBp.out.lt).trans e1
            have e2 := (hBp.out.below hb').frozen p
            clear hb'
            go_wp2_with fail
            go_roundw
            case rel => exact ⟨p + 1, by omega, by go_num, Lib.hid (hnx.out _ Hbm.out), Lib.hid ((hO.out.below Hbm.out).setCell _ _)⟩
            case measure => simp [intOf]; omega
          · obtain rfl : p = c := by omega
            go_wp2_with fail
            go_roundw
            case rel => exact ⟨i + 1, by omega, by go_num, Lib.hid (HF.out _ hO.out hBp.out), Nat.le_trans q2 hO.out.size⟩
            case measure => simp [intOf]; omega
    · obtain rfl : i = k := by omega
      clear Hap HA0
      go_wp2_with fail
      go_loopw [8] (fun x wr2 => ∃ j : Nat, j ≤ i ∧ x = .int .i64 (j : Int) ∧ Hid (ApartR w wr2 base B gl ol cl gw ow cw hd i A C ns i) ∧ base ≤ wr2.heap.size) (fun x _ => i - (intOf x).toNat)
      case atStart => exact ⟨0, Nat.zero_le _, rfl, hA, q2⟩
      case round =>
        obtain ⟨j, hj, rfl, hA2, q3⟩ := hrel
        have c0 := hA2.out.blk.cell 0
        have f0 := hA2.out.blk.frozen 0
        have c1 := hA2.out.blk.cell 1
        have f1 := hA2.out.blk.frozen 1
        have c2 := hA2.out.blk.cell 2
        have f2 := hA2.out.blk.frozen 2
        simp only [List.getElem?_toArray, List.getElem?_cons_succ, List.getElem?_cons_zero] at c0 c1 c2
        by_cases hlt : j < i
        · obtain ⟨r, hr, hr2⟩ := hA2.out.lists
          have d0 := (hr.cell (ol + j)).trans (hr2 j hlt)
          rw [Hn.out] at d0
          have i1 : (0 : Int) ≤ (j : Int) := by omega
          have i2 : (j : Int) < (i : Int) := by omega
          have i3 : (j : Int) ≤ 1000000 := by omega
          rcases hA2.out.full j hlt with ec | ⟨g, row, eA, hrow, hsz, hfull⟩
          · rcases hA2.out.ent j hlt with ⟨eA, e0, _⟩ | ⟨g, row, eA, hrow, hsz, hle, hg⟩
            · rw [Hn.out] at e0
              rw [eA, ec, e0] at d0
              clear hr hr2
              go_wp2_with fail
              go_region_held3 (fun w' => w'.cell? ⟨B, 0, none⟩ = some (.slice (some ⟨gl, ol, none⟩) i cl) ∧ w'.cell? ⟨gl, ol + j, none⟩ = some (.slice none 0 0)) (go_keep) (fail)
              go_wp2_with fail
              go_loopw [10] (fun i2 wr3 => i2 = .int .i64 0 ∧ ∃ q, wr.drewN q = wr3) (fun _ _ => 0)
              case atStart => exact ⟨rfl, _, rfl⟩
              case round =>
                obtain ⟨rfl, q, rfl⟩ := hrel
                have q4 : base ≤ (wr.drewN q).heap.size := q3
                go_wp2_with fail
                go_roundw
                case rel => exact ⟨j + 1, by omega, by go_num, Lib.hid (hA2.out.step (below_drewN (Below.refl _ wr) q) q3), q4⟩
                case measure => simp [intOf]; omega
            · rw [Hn.out, ec] at hle
              obtain rfl : n = 0 := by omega
              rw [eA, ec] at d0
              clear hr hr2
              go_wp2_with fail
              go_region_held3 (fun w' => w'.cell? ⟨B, 0, none⟩ = some (.slice (some ⟨gl, ol, none⟩) i cl) ∧ w'.cell? ⟨gl, ol + j, none⟩ = some (.slice (some ⟨g, 0, none⟩) 0 0)) (go_keep) (fail)
              go_wp2_with fail
              go_loopw [10] (fun i2 wr3 => i2 = .int .i64 0 ∧ ∃ q, wr.drewN q = wr3) (fun _ _ => 0)
              case atStart => exact ⟨rfl, _, rfl⟩
              case round =>
                obtain ⟨rfl, q, rfl⟩ := hrel
                have q4 : base ≤ (wr.drewN q).heap.size := q3
                go_wp2_with fail
                go_roundw
                case rel => exact ⟨j + 1, by omega, by go_num, Lib.hid (hA2.out.step (below_drewN (Below.refl _ wr) q) q3), q4⟩
                case measure => simp [intOf]; omega
          · have hle : n ≤ C j := by
              rcases hA2.out.ent j hlt with ⟨eA2, e0, _⟩ | ⟨g2, row2, eA2, hrow2, hsz2, hle, hg⟩
              · rw [eA2] at eA; cases eA
              · rw [Hn.out] at hle; exact hle
            have hcb := HC.out j hlt
            rw [eA] at d0
            generalize hc : C j = c at *
            have HMj := Lib.hid (fun (x : Int) w => HM.out j x w (by omega))
            clear hr hr2
            go_wp2_with fail
            go_region_held3 (fun w' => w'.cell? ⟨B, 0, none⟩ = some (.slice (some ⟨gl, ol, none⟩) i cl) ∧ w'.cell? ⟨gl, ol + j, none⟩ = some (.slice (some ⟨g, 0, none⟩) n c)) (go_keep) (fail)
            go_wp2_with fail
            have HE1 := Lib.hid (fun (W : World) (hb : Below wr.heap.size wr W) (p : Nat) (hp : p < c) => (hb.cell (p := ⟨g, p, none⟩) hrow.lt).trans ((hrow.cell p).trans (hfull p hp)))
            have HFin := Lib.hid (fun (W : World) (hb : Below wr.heap.size wr W) => hA2.out.step hb q3)
            have Hlt := Lib.hid hrow.lt
            clear hrow hfull
            go_loopw [10] (fun i2 wr3 => ∃ p : Nat, p ≤ c ∧ i2 = .int .i64 (p : Int) ∧ Hid (Below wr.heap.size wr wr3)) (fun i2 _ => c - (intOf i2).toNat)
            case atStart => exact ⟨0, Nat.zero_le _, rfl, Lib.hid (below_drewN (Below.refl _ wr) _)⟩
            case round =>
              obtain ⟨p, hp, rfl, hB3⟩ := hrel
              by_cases hlt2 : p < c
              · have e1 := HE1.out _ hB3.out p hlt2
                have q1 := Nat.lt_of_lt_of_le Hlt.out hB3.out.size
                have j1 : (p : Int) < (c : Int) := by omega
                have HM2 := Lib.hid (fun w => HMj.out (p : Int) w)
                go_wp2_with fail
                refine wp_region_below (by kernel_rfl) (by kernel_rfl) ?_
                repeat (first
                  | go_big_quiet_skip
                  | (go_big_quiet_want; go_big_quiet_op; first
                      | go_big_quiet_on
                      | (refine ⟨_, fun _ _ => rfl, ?_⟩; go_big_quiet_on)
                      | (apply Exists.intro
                         refine ⟨fun w0 hC0 => ?_, ?_⟩
                         · (go_at_call 23
                            refine (HM2.out w0).mono ?_
                            rintro e w8 ⟨rfl, hb8⟩
                            exact ⟨rfl, hC0.trans (hb8.mono hC0.size)⟩)
                         go_big_quiet_on)
                      | (apply Exists.intro
                         refine ⟨fun w0 hC0 => ?_, ?_⟩
                         · (have e1 := (hC0.cell (p := ⟨g, p, none⟩) q1).trans e1
                            go_simp
                            rfl)
                         go_big_quiet_on)))
                refine wpQuiet_nil ?_
                intro w8 hb8
                go_wp2_with fail
                go_roundw
                case rel => exact ⟨p + 1, by omega, by go_num, Lib.hid (hB3.out.trans (hb8.mono hB3.out.size))⟩
                case measure => simp [intOf]; omega
              · obtain rfl : p = c := by omega
                have q4 := Nat.le_trans q3 hB3.out.size
                go_wp2_with fail
                go_roundw
                case rel => exact ⟨j + 1, by omega, by go_num, Lib.hid (HFin.out _ hB3.out), q4⟩
                case measure => simp [intOf]; omega
        · obtain rfl : j = i := by omega
          go_wp2_with fail
          go_ret
          exact ⟨rfl, ((hA2.out.below.setCell hB _).setCell hB _).setCell hB _⟩
end Go.Proofs.Ytkenffbonnbflaa
