/- guiseref6: what a function over a table holds on to; forms. Regions that draw their order, read old memory and whose callees write new memory only. -/
import Derived.Test.YtjmkdimbbacnfaaGreatDoorGRefD
import Derived.Test.YtjmkdimbbacnfaaGreatDoorGRefC
import Derived.Deep.QuietTactic
import Derived.BigQuiet
namespace Go.Proofs.YtjmkdimbbacnfaaGreatDoor
section
open Go.RowKit
set_option linter.unusedVariables false
/-- the table in its box, and the result's cell -/
structure RS (w : World) (v0 v1 v2 v3 v4 v5 v6 v7 : Value) (wr : World) : Prop where
  below : Below w.heap.size w wr
  box : Blk wr w.heap.size 28 #[v0, v1, v2, v3, v4, v5, v6, v7]
  res : Blk wr (w.heap.size + 1) 40 #[.int .i64 0, .int .i64 0, .int .i64 0]
section
variable {w wr w2 : World} {v0 v1 v2 v3 v4 v5 v6 v7 : Value}
theorem RS.start (w : World) (v0 v1 v2 v3 v4 v5 v6 v7 : Value) : RS w v0 v1 v2 v3 v4 v5 v6 v7 ((w.alloc (.cells #[v0, v1, v2, v3, v4, v5, v6, v7] 28)).alloc (.cells #[.int .i64 0, .int .i64 0, .int .i64 0] 40)) :=
  ⟨((Below.refl _ w).alloc (Nat.le_refl _) _).alloc (by simp) _, (Blk.new w _ _).alloc _, by
    have h := Blk.new (w.alloc (.cells #[v0, v1, v2, v3, v4, v5, v6, v7] 28)) 40 #[.int .i64 0, .int .i64 0, .int .i64 0]
    simp only [World.size_alloc] at h
    exact h⟩
theorem RS.step (h : RS w v0 v1 v2 v3 v4 v5 v6 v7 wr) (hb : Below wr.heap.size wr w2) : RS w v0 v1 v2 v3 v4 v5 v6 v7 w2 :=
  ⟨below_trans h.below hb, h.box.below hb, h.res.below hb⟩
theorem RS.resF (h : RS w v0 v1 v2 v3 v4 v5 v6 v7 wr) : wr.cell? ⟨w.heap.size + 1, 0, none⟩ = some (.int .i64 0) ∧ wr.cell? ⟨w.heap.size + 1, 1, none⟩ = some (.int .i64 0) ∧ wr.cell? ⟨w.heap.size + 1, 2, none⟩ = some (.int .i64 0) ∧ wr.frozen? ⟨w.heap.size + 1, 0, none⟩ = false ∧ wr.frozen? ⟨w.heap.size + 1, 1, none⟩ = false ∧ wr.frozen? ⟨w.heap.size + 1, 2, none⟩ = false := wrong_facts h.res
theorem RS.boxF (h : RS w v0 v1 v2 v3 v4 v5 v6 v7 wr) : wr.cell? ⟨w.heap.size, 0, none⟩ = some v0 ∧ wr.cell? ⟨w.heap.size, 1, none⟩ = some v1 ∧ wr.cell? ⟨w.heap.size, 2, none⟩ = some v2 ∧ wr.cell? ⟨w.heap.size, 3, none⟩ = some v3 ∧ wr.cell? ⟨w.heap.size, 4, none⟩ = some v4 ∧ wr.cell? ⟨w.heap.size, 5, none⟩ = some v5 ∧ wr.cell? ⟨w.heap.size, 6, none⟩ = some v6 ∧ wr.cell? ⟨w.heap.size, 7, none⟩ = some v7 :=
  ⟨h.box.cell 0, h.box.cell 1, h.box.cell 2, h.box.cell 3, h.box.cell 4, h.box.cell 5, h.box.cell 6, h.box.cell 7⟩
theorem RS.putG {g : Nat} {x y z : Value} (h : RS w v0 v1 v2 v3 v4 v5 v6 v7 wr) (hg : Blk wr g 40 #[x, y, z]) (hl : w.heap.size + 1 < g) (a b c : Value) : RS w v0 v1 v2 v3 v4 v5 v6 v7 (((wr.setCell ⟨g, 0, none⟩ a).setCell ⟨g, 1, none⟩ b).setCell ⟨g, 2, none⟩ c) ∧
    Blk (((wr.setCell ⟨g, 0, none⟩ a).setCell ⟨g, 1, none⟩ b).setCell ⟨g, 2, none⟩ c) g 40 #[a, b, c] :=
  ⟨⟨((h.below.setCell (by show w.heap.size ≤ g; omega) _).setCell (by show w.heap.size ≤ g; omega) _).setCell (by show w.heap.size ≤ g; omega) _,
    ((h.box.of (Below.heap_setCell _ _ _ _ (show w.heap.size ≠ g by omega))).of (Below.heap_setCell _ _ _ _ (show w.heap.size ≠ g by omega))).of (Below.heap_setCell _ _ _ _ (show w.heap.size ≠ g by omega)),
    ((h.res.of (Below.heap_setCell _ _ _ _ (show w.heap.size + 1 ≠ g by omega))).of (Below.heap_setCell _ _ _ _ (show w.heap.size + 1 ≠ g by omega))).of (Below.heap_setCell _ _ _ _ (show w.heap.size + 1 ≠ g by omega))⟩, hg.set3 a b c⟩
theorem RS.ret (h : RS w v0 v1 v2 v3 v4 v5 v6 v7 wr) (a b c : Value) : Blk (((wr.setCell ⟨w.heap.size + 1, 0, none⟩ a).setCell ⟨w.heap.size + 1, 1, none⟩ b).setCell ⟨w.heap.size + 1, 2, none⟩ c) (w.heap.size + 1) 40 #[a, b, c] ∧
    Below w.heap.size w (((wr.setCell ⟨w.heap.size + 1, 0, none⟩ a).setCell ⟨w.heap.size + 1, 1, none⟩ b).setCell ⟨w.heap.size + 1, 2, none⟩ c) :=
  ⟨h.res.set3 a b c, ((h.below.setCell (by simp) _).setCell (by simp) _).setCell (by simp) _⟩
end
/-- one after the other -/
def orW (a b : Option (Int × Int × Int)) : Option (Int × Int × Int) := match a with | some x => some x | none => b
def markAt (_ : Nat) (m : MarkT) : Int := if isRune m.r = false then 12 else if m.c < 1 ∨ 254 < m.c then 30 else 0
def pairAt (_ : Nat) (p : PairT) : Int := if isRune p.whole = false ∨ isRune p.base = false ∨ isRune p.mark = false then 12 else 0
def scriptsW (T : Tab) : Option (Int × Int × Int) := scan (fun _ s => scriptW s) 1 0 T.scripts
def formsW (T : Tab) : Option (Int × Int × Int) :=
  orW (scriptsW T) (orW (spansW T.common 2) (orW (scan markAt 3 0 T.marks) (orW (scan pairAt 4 0 T.pairs) (orW (mapsW T.folds 5) (orW (mapsW T.looks 6) (orW (spansW T.drops 7) (spansW T.allowed 8)))))))

section
variable {α : Type} {enc : α → List Value} {l : List α} {w wr : World} {v : Value}
theorem ListAt.form {k : Nat} (h : ListAt w v k (l.map enc)) : ∃ A c, v = .slice A l.length c ∧ l.length ≤ 2097152 := by
  obtain ⟨A, c, h1, h2, _⟩ := h
  exact ⟨A, c, by rw [h1, List.length_map], by rwa [List.length_map] at h2⟩
theorem el2 {A : Option Addr} {n c k : Nat} {m : α} {x y : Value} (h : ListAt w (.slice A n c) 2 (l.map enc)) (hb : Below w.heap.size w wr) (hm : l[k]? = some m) (he : enc m = [x, y]) :
    ∃ a, A = some a ∧ wr.cell? (a.add (k * 2)) = some x ∧ wr.cell? ⟨(a.add (k * 2)).block, (a.add (k * 2)).off + 1, none⟩ = some y := by
  obtain ⟨A', c', e, _, hc⟩ := h
  cases e
  have hlt := (List.getElem?_eq_some_iff.1 hm).1
  obtain ⟨a, rfl, hg, hcc⟩ := hc (by rw [List.length_map]; omega)
  refine ⟨a, rfl, ?_, ?_⟩
  · exact (hb.cell (p := a.add (k * 2)) (by rw [addr_block']; exact hg)).trans (hcc k (enc m) 0 _ (by rw [List.getElem?_map, hm]; rfl) (by rw [he]; rfl))
  · refine (hb.cell (p := ⟨(a.add (k * 2)).block, (a.add (k * 2)).off + 1, none⟩) (by show (a.add (k * 2)).block < _; rw [addr_block']; exact hg)).trans ?_
    rw [addr_fld a (k * 2) 0]
    exact hcc k (enc m) 1 _ (by rw [List.getElem?_map, hm]; rfl) (by rw [he]; rfl)
theorem el3 {A : Option Addr} {n c k : Nat} {m : α} {x y z : Value} (h : ListAt w (.slice A n c) 3 (l.map enc)) (hb : Below w.heap.size w wr) (hm : l[k]? = some m) (he : enc m = [x, y, z]) :
    ∃ a, A = some a ∧ wr.cell? (a.add (k * 3)) = some x ∧ wr.cell? ⟨(a.add (k * 3)).block, (a.add (k * 3)).off + 1, none⟩ = some y ∧ wr.cell? ⟨(a.add (k * 3)).block, (a.add (k * 3)).off + 2, none⟩ = some z := by
  obtain ⟨A', c', e, _, hc⟩ := h
  cases e
  have hlt := (List.getElem?_eq_some_iff.1 hm).1
  obtain ⟨a, rfl, hg, hcc⟩ := hc (by rw [List.length_map]; omega)
  refine ⟨a, rfl, ?_, ?_, ?_⟩
  · exact (hb.cell (p := a.add (k * 3)) (by rw [addr_block']; exact hg)).trans (hcc k (enc m) 0 _ (by rw [List.getElem?_map, hm]; rfl) (by rw [he]; rfl))
  · refine (hb.cell (p := ⟨(a.add (k * 3)).block, (a.add (k * 3)).off + 1, none⟩) (by show (a.add (k * 3)).block < _; rw [addr_block']; exact hg)).trans ?_
    rw [addr_fld a (k * 3) 0]
    exact hcc k (enc m) 1 _ (by rw [List.getElem?_map, hm]; rfl) (by rw [he]; rfl)
  · refine (hb.cell (p := ⟨(a.add (k * 3)).block, (a.add (k * 3)).off + 2, none⟩) (by show (a.add (k * 3)).block < _; rw [addr_block']; exact hg)).trans ?_
    rw [addr_fld a (k * 3) 1]
    exact hcc k (enc m) 2 _ (by rw [List.getElem?_map, hm]; rfl) (by rw [he]; rfl)
end
/-- a script's element: its name, its spans -/
theorem elS {T : Tab} {w wr : World} {A : Option Addr} {n c k : Nat} {v1 v2 v3 v4 v5 v6 v7 : Value} {s : ScrT} (h : TabAt w (.slice A n c) v1 v2 v3 v4 v5 v6 v7 T) (hb : Below w.heap.size w wr) (hm : T.scripts[k]? = some s) :
    ∃ a v, A = some a ∧ wr.cell? (a.add (k * 2)) = some (.string s.name) ∧ wr.cell? ⟨(a.add (k * 2)).block, (a.add (k * 2)).off + 1, none⟩ = some v ∧ ListAt wr v 2 (s.spans.map encSpan) := by
  obtain ⟨scs, hl, hL, hsp⟩ := h.scripts
  have hlt := (List.getElem?_eq_some_iff.1 hm).1
  have hv : scs[k]? = some (scs[k]'(by omega)) := List.getElem?_eq_getElem (by omega)
  obtain ⟨a, rfl, h1, h2⟩ := el2 (enc := fun p : ScrT × Value => [Value.string p.1.name, p.2]) (l := T.scripts.zip scs) (k := k) (m := (s, scs[k]'(by omega))) hL hb (by rw [List.getElem?_zip_eq_some]; exact ⟨hm, hv⟩) rfl
  exact ⟨a, _, rfl, h1, h2, (hsp k s _ hm hv).below hb⟩
theorem TabAt.formS {T : Tab} {w : World} {v0 v1 v2 v3 v4 v5 v6 v7 : Value} (h : TabAt w v0 v1 v2 v3 v4 v5 v6 v7 T) : ∃ A c, v0 = .slice A T.scripts.length c ∧ T.scripts.length ≤ 2097152 := by
  obtain ⟨scs, hl, hL, _⟩ := h.scripts
  obtain ⟨A, c, e, hn⟩ := ListAt.form hL
  rw [List.length_zip, hl, Nat.min_self] at e hn
  exact ⟨A, c, e, hn⟩

theorem scan_ne {α : Type} {f : Nat → α → Int} {list a b c : Int} : ∀ {l : List α} {s : Nat}, scan f list s l = some (a, b, c) → a ≠ 0
  | [], _, h => by cases h
  | x :: r, s, h => by
    unfold scan at h
    split at h
    · rename_i h0
      simp only [Option.some.injEq, Prod.mk.injEq] at h
      rw [← h.1]; exact h0
    · exact scan_ne h
theorem spansW_ne {l : List SpanT} {list a b c : Int} (h : spansW l list = some (a, b, c)) : a ≠ 0 := scan_ne h
theorem mapsW_ne {l : List MapT} {list a b c : Int} (h : mapsW l list = some (a, b, c)) : a ≠ 0 := scan_ne h

set_option maxRecDepth 100000 in
set_option maxHeartbeats 8000000 in
theorem ref_forms (HRU : RunesOK) {w : World} {v0 v1 v2 v3 v4 v5 v6 v7 : Value} (T : Tab) (h : TabAt w v0 v1 v2 v3 v4 v5 v6 v7 T) (hok : TabOk T) :
    Calls Tryz.prog 33 #[.agg #[v0, v1, v2, v3, v4, v5, v6, v7]] w fun e w' => e = .returned (wrongV (formsW T)) ∧ Below w.heap.size w w' := by
  have HO := Lib.hid hok
  obtain ⟨A0, c0, rfl, hn0⟩ := h.formS
  obtain ⟨A2, c2, rfl, hn2⟩ := h.marks.form
  obtain ⟨A3, c3, rfl, hn3⟩ := h.pairs.form
  have HT := Lib.hid h
  obtain ⟨n0, hl0⟩ : ∃ n, T.scripts.length = n := ⟨_, rfl⟩
  obtain ⟨n2, hl2⟩ : ∃ n, T.marks.length = n := ⟨_, rfl⟩
  obtain ⟨n3, hl3⟩ : ∃ n, T.pairs.length = n := ⟨_, rfl⟩
  rw [hl0, hl2, hl3] at HT
  rw [hl0] at hn0
  rw [hl2] at hn2
  rw [hl3] at hn3
  rw [hl0, hl2, hl3]
  have HL0 := Lib.hid hl0
  have HL2 := Lib.hid hl2
  have HL3 := Lib.hid hl3
  clear h hl0 hl2 hl3 hok
  go_enter Tryz.func33, Tryz.ntmps33
  go_wp2_with fail
  go_loopw [3, 4] (fun i _ wr => ∃ k : Nat, k ≤ n0 ∧ i = .int .i64 (k : Int) ∧ NoneTo (fun _ s => scriptW s) T.scripts k ∧ RS w (.slice A0 n0 c0) v1 (.slice A2 n2 c2) (.slice A3 n3 c3) v4 v5 v6 v7 wr) (fun i _ _ => n0 - (intOf i).toNat)
  case atStart => exact ⟨0, Nat.zero_le _, rfl, NoneTo.zero _ _, RS.start _ _ _ _ _ _ _ _ _⟩
  case round =>
    obtain ⟨k, hk, rfl, hno, hrs⟩ := hrel
    have Hno := Lib.hid hno
    have Hr := Lib.hid hrs
    obtain ⟨b0, b1, b2, b3, b4, b5, b6, b7⟩ := hrs.boxF
    by_cases hlt : k < n0
    · obtain ⟨m, hm⟩ : ∃ m, T.scripts[k]? = some m := ⟨_, List.getElem?_eq_getElem (by rw [HL0.out]; exact hlt)⟩
      obtain ⟨a, v, rfl, e0, e1, hsp⟩ := elS HT.out hrs.below hm
      have HS := Lib.hid (ref_script m hsp (HO.out.scripts m (List.mem_of_getElem? hm)).1)
      have Hm := Lib.hid hm
      have k0 : (0 : Int) ≤ (k : Int) := by omega
      have k1 : (k : Int) < (n0 : Int) := by omega
      clear hno hrs hm hsp
      by_cases h0 : scriptW m = 0
      · rw [h0] at HS
        have H0 := Lib.hid h0
        clear h0
        go_wp2_with (go_at_call 76; refine HS.out.mono ?_; rintro e w2 ⟨rfl, hb2⟩)
        go_roundw
        case rel => exact ⟨k + 1, by omega, by go_num, Hno.out.succ Hm.out H0.out, Hr.out.step hb2⟩
        case measure => simp [intOf]; omega
      · have h1 : (scriptW m != 0) = true := by simpa using h0
        have H0 := Lib.hid h0
        clear h0
        go_wp2_with (go_at_call 76; refine HS.out.mono ?_; rintro e w2 ⟨rfl, hb2⟩; obtain ⟨r1, r2, r3, f1, f2, f3⟩ := (Hr.out.step hb2).resF)
        obtain ⟨hB, hW⟩ := (Hr.out.step hb2).ret (.int .i64 (scriptW m)) (.int .i64 1) (.int .i64 (k : Int))
        obtain ⟨s1, s2, s3, -, -, -⟩ := wrong_facts hB
        refine bodyPost_ret (v := .agg #[.int .i64 (scriptW m), .int .i64 1, .int .i64 (k : Int)]) ?_ rfl ⟨?_, hW⟩
        · simp [results, Tryz.results33, go_sem, s1, s2, s3]
        · rw [show formsW T = some (scriptW m, 1, (k : Int)) by unfold formsW scriptsW; rw [Hno.out.found Hm.out H0.out 1]; rfl]
          rfl
    · have hkn : n0 = k := by omega
      subst hkn
      have HN0 : Hid (scriptsW T = none) := Lib.hid (NoneTo.all (by rw [HL0.out]; exact Hno.out) 1)
      clear Hno hno
      have hcm := ref_spans T.common (HT.out.common.below hrs.below) 2
      clear hrs b2 b3 b4 b5 b6 b7
      cases hcw : spansW T.common 2 with
      | some x =>
        obtain ⟨xa, xb, xc⟩ := x
        rw [hcw] at hcm
        have hne := spansW_ne hcw
        have h1 : (xa != 0) = true := by simpa using hne
        have HCM := Lib.hid hcm
        have HCW := Lib.hid hcw
        clear hcm hcw hne
        unfold wrongV at HCM
        go_wp2_with (go_at_call 77; refine HCM.out.mono ?_; rintro e w2 ⟨rfl, hb2⟩; have hr3 := (Hr.out.step hb2).step ((Below.refl _ w2).alloc (Nat.le_refl _) (.cells #[.int .i64 xa, .int .i64 xb, .int .i64 xc] 40)); obtain ⟨r1, r2, r3, f1, f2, f3⟩ := hr3.resF; have Hr3 := Lib.hid hr3; clear hr3)
        obtain ⟨hB, hW⟩ := (Hr3.out).ret (.int .i64 xa) (.int .i64 xb) (.int .i64 xc)
        obtain ⟨s1, s2, s3, -, -, -⟩ := wrong_facts hB
        refine bodyPost_ret (v := .agg #[.int .i64 xa, .int .i64 xb, .int .i64 xc]) ?_ rfl ⟨?_, hW⟩
        · simp [results, Tryz.results33, go_sem, s1, s2, s3]
        · rw [show formsW T = some (xa, xb, xc) by unfold formsW; rw [HN0.out, HCW.out]; rfl]
          rfl
      | none =>
        rw [hcw] at hcm
        have HCM := Lib.hid hcm
        have HCW := Lib.hid hcw
        clear hcm hcw
        unfold wrongV at HCM
        go_wp2_with (go_at_call 77; refine HCM.out.mono ?_; rintro e w2 ⟨rfl, hb2⟩)
        have hs2 : RS w (.slice A0 n0 c0) v1 (.slice A2 n2 c2) (.slice A3 n3 c3) v4 v5 v6 v7 (w2.alloc (.cells #[.int .i64 0, .int .i64 0, .int .i64 0] 40)) := (Hr.out.step hb2).step ((Below.refl _ w2).alloc (Nat.le_refl _) _)
        have hg2 := Blk.new w2 40 #[.int .i64 0, .int .i64 0, .int .i64 0]
        have hgl : w.heap.size + 1 < w2.heap.size := (Hr.out.step hb2).res.lt
        obtain ⟨g, hge⟩ : ∃ g, w2.heap.size = g := ⟨_, rfl⟩
        rw [hge] at hg2 hgl
        simp only [hge]
        obtain ⟨W2, hW2⟩ : ∃ W2, w2.alloc (.cells #[.int .i64 0, .int .i64 0, .int .i64 0] 40) = W2 := ⟨_, rfl⟩
        rw [hW2] at hs2 hg2 ⊢
        clear hW2 hge hb2 b0 b1 HCM
        have Hg2 := Lib.hid hg2
        have Hs2 := Lib.hid hs2
        clear hs2 hg2 Hr
        go_loopw [6] (fun i wr => ∃ k : Nat, k ≤ n2 ∧ i = .int .i64 (k : Int) ∧ NoneTo markAt T.marks k ∧ RS w (.slice A0 n0 c0) v1 (.slice A2 n2 c2) (.slice A3 n3 c3) v4 v5 v6 v7 wr ∧ Blk wr g 40 #[.int .i64 0, .int .i64 0, .int .i64 0]) (fun i _ => n2 - (intOf i).toNat)
        case atStart => exact ⟨0, Nat.zero_le _, rfl, NoneTo.zero _ _, Hs2.out, Hg2.out⟩
        case round =>
          obtain ⟨k, hk, rfl, hno, hrs, hgb⟩ := hrel
          have Hno := Lib.hid hno
          have Hr := Lib.hid hrs
          have Hg := Lib.hid hgb
          obtain ⟨b0, b1, b2, b3, b4, b5, b6, b7⟩ := hrs.boxF
          by_cases hlt : k < n2
          · obtain ⟨m, hm⟩ : ∃ m, T.marks[k]? = some m := ⟨_, List.getElem?_eq_getElem (by rw [HL2.out]; exact hlt)⟩
            obtain ⟨a, rfl, e0, e1⟩ := el2 HT.out.marks hrs.below hm rfl
            have HR := Lib.hid (fun w => ref_Rune m.r w)
            have Hm := Lib.hid hm
            have k0 : (0 : Int) ≤ (k : Int) := by omega
            have k1 : (k : Int) < (n2 : Int) := by omega
            clear hno hrs hgb hm
            cases hr : isRune m.r with
            | false =>
              rw [hr] at HR
              have H0 : Hid (markAt k m = 12) := Lib.hid (by unfold markAt; rw [if_pos hr])
              obtain ⟨r1, r2, r3, f1, f2, f3⟩ := Hr.out.resF
              go_wp2_with (go_at_call 78; refine (HR.out _).mono ?_; rintro e w' ⟨rfl, rfl⟩)
              obtain ⟨hB, hW⟩ := (Hr.out).ret (.int .i64 12) (.int .i64 3) (.int .i64 (k : Int))
              obtain ⟨s1, s2, s3, -, -, -⟩ := wrong_facts hB
              refine bodyPost_ret (v := .agg #[.int .i64 12, .int .i64 3, .int .i64 (k : Int)]) ?_ rfl ⟨?_, hW⟩
              · simp [results, Tryz.results33, go_sem, s1, s2, s3]
              · rw [show formsW T = some (12, 3, (k : Int)) by unfold formsW; rw [HN0.out, HCW.out, Hno.out.found Hm.out (by rw [H0.out]; decide) 3, H0.out]; rfl]
                rfl
            | true =>
              rw [hr] at HR
              have Hx : Hid (markAt k m = if m.c < 1 ∨ 254 < m.c then 30 else 0) := Lib.hid (by unfold markAt; rw [if_neg (by rw [hr]; simp)])
              clear hr
              by_cases h1 : m.c < 1
              · have H0 : Hid (markAt k m = 30) := Lib.hid (by rw [Hx.out, if_pos (.inl h1)])
                obtain ⟨r1, r2, r3, f1, f2, f3⟩ := Hr.out.resF
                go_wp2_with (go_at_call 78; refine (HR.out _).mono ?_; rintro e w' ⟨rfl, rfl⟩)
                obtain ⟨hB, hW⟩ := (Hr.out).ret (.int .i64 30) (.int .i64 3) (.int .i64 (k : Int))
                obtain ⟨s1, s2, s3, -, -, -⟩ := wrong_facts hB
                refine bodyPost_ret (v := .agg #[.int .i64 30, .int .i64 3, .int .i64 (k : Int)]) ?_ rfl ⟨?_, hW⟩
                · simp [results, Tryz.results33, go_sem, s1, s2, s3]
                · rw [show formsW T = some (30, 3, (k : Int)) by unfold formsW; rw [HN0.out, HCW.out, Hno.out.found Hm.out (by rw [H0.out]; decide) 3, H0.out]; rfl]
                  rfl
              · by_cases h2 : 254 < m.c
                · have H0 : Hid (markAt k m = 30) := Lib.hid (by rw [Hx.out, if_pos (.inr h2)])
                  obtain ⟨r1, r2, r3, f1, f2, f3⟩ := Hr.out.resF
                  go_wp2_with (go_at_call 78; refine (HR.out _).mono ?_; rintro e w' ⟨rfl, rfl⟩)
                  obtain ⟨hB, hW⟩ := (Hr.out).ret (.int .i64 30) (.int .i64 3) (.int .i64 (k : Int))
                  obtain ⟨s1, s2, s3, -, -, -⟩ := wrong_facts hB
                  refine bodyPost_ret (v := .agg #[.int .i64 30, .int .i64 3, .int .i64 (k : Int)]) ?_ rfl ⟨?_, hW⟩
                  · simp [results, Tryz.results33, go_sem, s1, s2, s3]
                  · rw [show formsW T = some (30, 3, (k : Int)) by unfold formsW; rw [HN0.out, HCW.out, Hno.out.found Hm.out (by rw [H0.out]; decide) 3, H0.out]; rfl]
                    rfl
                · have H0 : Hid (markAt k m = 0) := Lib.hid (by rw [Hx.out, if_neg (by omega)])
                  go_wp2_with (go_at_call 78; refine (HR.out _).mono ?_; rintro e w' ⟨rfl, rfl⟩)
                  go_roundw
                  case rel => exact ⟨k + 1, by omega, by go_num, Hno.out.succ Hm.out H0.out, Hr.out, Hg.out⟩
                  case measure => simp [intOf]; omega
          · have hkn : n2 = k := by omega
            subst hkn
            have HN2 : Hid (scan markAt 3 0 T.marks = none) := Lib.hid (NoneTo.all (by rw [HL2.out]; exact Hno.out) 3)
            clear Hno hno hrs hgb b0 b1 b3 b4 b5 b6 b7
            go_wp2_with fail
            clear b2
            go_loopw [7] (fun i wr => ∃ k : Nat, k ≤ n3 ∧ i = .int .i64 (k : Int) ∧ NoneTo pairAt T.pairs k ∧ RS w (.slice A0 n0 c0) v1 (.slice A2 n2 c2) (.slice A3 n3 c3) v4 v5 v6 v7 wr ∧ Blk wr g 40 #[.int .i64 0, .int .i64 0, .int .i64 0]) (fun i _ => n3 - (intOf i).toNat)
            case atStart => exact ⟨0, Nat.zero_le _, rfl, NoneTo.zero _ _, Hr.out, Hg.out⟩
            case round =>
              clear Hr Hg
              obtain ⟨k, hk, rfl, hno, hrs, hgb⟩ := hrel
              have Hno := Lib.hid hno
              have Hr := Lib.hid hrs
              have Hg := Lib.hid hgb
              obtain ⟨b0, b1, b2, b3, b4, b5, b6, b7⟩ := hrs.boxF
              by_cases hlt : k < n3
              · obtain ⟨m, hm⟩ : ∃ m, T.pairs[k]? = some m := ⟨_, List.getElem?_eq_getElem (by rw [HL3.out]; exact hlt)⟩
                obtain ⟨a, rfl, e0, e1, e2⟩ := el3 HT.out.pairs hrs.below hm rfl
                have HR := Lib.hid (fun r w => ref_Rune r w)
                have Hm := Lib.hid hm
                have k0 : (0 : Int) ≤ (k : Int) := by omega
                have k1 : (k : Int) < (n3 : Int) := by omega
                clear hno hrs hgb hm
                cases hr : isRune m.whole with
                | false =>
                  have H0 : Hid (pairAt k m = 12) := Lib.hid (by unfold pairAt; rw [if_pos (.inl hr)])
                  obtain ⟨r1, r2, r3, f1, f2, f3⟩ := Hr.out.resF
                  go_wp2_with (go_at_call 78; refine (HR.out _ _).mono ?_; rintro e w' ⟨rfl, rfl⟩)
                  obtain ⟨hB, hW⟩ := (Hr.out).ret (.int .i64 12) (.int .i64 4) (.int .i64 (k : Int))
                  obtain ⟨s1, s2, s3, -, -, -⟩ := wrong_facts hB
                  refine bodyPost_ret (v := .agg #[.int .i64 12, .int .i64 4, .int .i64 (k : Int)]) ?_ rfl ⟨?_, hW⟩
                  · simp [results, Tryz.results33, go_sem, s1, s2, s3]
                  · rw [show formsW T = some (12, 4, (k : Int)) by unfold formsW; rw [HN0.out, HCW.out, HN2.out, Hno.out.found Hm.out (by rw [H0.out]; decide) 4, H0.out]; rfl]
                    rfl
                | true =>
                  cases hr2 : isRune m.base with
                  | false =>
                    have H0 : Hid (pairAt k m = 12) := Lib.hid (by unfold pairAt; rw [if_pos (.inr (.inl hr2))])
                    obtain ⟨r1, r2, r3, f1, f2, f3⟩ := Hr.out.resF
                    go_wp2_with (go_at_call 78; refine (HR.out _ _).mono ?_; rintro e w' ⟨rfl, rfl⟩)
                    obtain ⟨hB, hW⟩ := (Hr.out).ret (.int .i64 12) (.int .i64 4) (.int .i64 (k : Int))
                    obtain ⟨s1, s2, s3, -, -, -⟩ := wrong_facts hB
                    refine bodyPost_ret (v := .agg #[.int .i64 12, .int .i64 4, .int .i64 (k : Int)]) ?_ rfl ⟨?_, hW⟩
                    · simp [results, Tryz.results33, go_sem, s1, s2, s3]
                    · rw [show formsW T = some (12, 4, (k : Int)) by unfold formsW; rw [HN0.out, HCW.out, HN2.out, Hno.out.found Hm.out (by rw [H0.out]; decide) 4, H0.out]; rfl]
                      rfl
                  | true =>
                    cases hr3 : isRune m.mark with
                    | false =>
                      have H0 : Hid (pairAt k m = 12) := Lib.hid (by unfold pairAt; rw [if_pos (.inr (.inr hr3))])
                      obtain ⟨r1, r2, r3, f1, f2, f3⟩ := Hr.out.resF
                      go_wp2_with (go_at_call 78; refine (HR.out _ _).mono ?_; rintro e w' ⟨rfl, rfl⟩)
                      obtain ⟨hB, hW⟩ := (Hr.out).ret (.int .i64 12) (.int .i64 4) (.int .i64 (k : Int))
                      obtain ⟨s1, s2, s3, -, -, -⟩ := wrong_facts hB
                      refine bodyPost_ret (v := .agg #[.int .i64 12, .int .i64 4, .int .i64 (k : Int)]) ?_ rfl ⟨?_, hW⟩
                      · simp [results, Tryz.results33, go_sem, s1, s2, s3]
                      · rw [show formsW T = some (12, 4, (k : Int)) by unfold formsW; rw [HN0.out, HCW.out, HN2.out, Hno.out.found Hm.out (by rw [H0.out]; decide) 4, H0.out]; rfl]
                        rfl
                    | true =>
                      have H0 : Hid (pairAt k m = 0) := Lib.hid (by unfold pairAt; rw [if_neg (by simp [hr, hr2, hr3])])
                      go_wp2_with (go_at_call 78; refine (HR.out _ _).mono ?_; rintro e w' ⟨rfl, rfl⟩)
                      go_roundw
                      case rel => exact ⟨k + 1, by omega, by go_num, Hno.out.succ Hm.out H0.out, Hr.out, Hg.out⟩
                      case measure => simp [intOf]; omega
              · have hkn : n3 = k := by omega
                subst hkn
                have HN3 : Hid (scan pairAt 4 0 T.pairs = none) := Lib.hid (NoneTo.all (by rw [HL3.out]; exact Hno.out) 4)
                clear Hno hno hrs hgb
                have hcon := (ref_maps HRU T.folds (HT.out.folds.below Hr.out.below) (fun m hm => (HO.out.folds m hm).2) 5)
                obtain ⟨b0, b1, b2, b3, b4, b5, b6, b7⟩ := Hr.out.boxF
                cases hcw0 : mapsW T.folds 5 with
                | some x =>
                  obtain ⟨xa, xb, xc⟩ := x
                  rw [hcw0] at hcon
                  have h1 : (xa == 0) = false := by have := mapsW_ne hcw0; simpa using this
                  have HC0 := Lib.hid hcon
                  have HCW0 := Lib.hid hcw0
                  clear hcon hcw0
                  unfold wrongV at HC0
                  go_wp2_with fail
                  refine HC0.out.mono ?_
                  rintro e w2 ⟨rfl, hb2⟩
                  have hp := (Hr.out.step hb2).putG (Hg.out.below hb2) hgl (.int .i64 xa) (.int .i64 xb) (.int .i64 xc)
                  obtain ⟨p1, p2, p3, p4, p5, p6⟩ := wrong_facts hp.2
                  obtain ⟨b0, b1, b2, b3, b4, b5, b6, b7⟩ := hp.1.boxF
                  obtain ⟨r1, r2, r3, f1, f2, f3⟩ := hp.1.resF
                  obtain ⟨q1, q2, q3, q4, q5, q6⟩ := wrong_facts (Hg.out.below hb2)
                  have Hp := Lib.hid hp
                  clear hp
                  go_wp2_with fail
                  obtain ⟨hB, hW⟩ := (Hp.out.1).ret (.int .i64 xa) (.int .i64 xb) (.int .i64 xc)
                  obtain ⟨s1, s2, s3, -, -, -⟩ := wrong_facts hB
                  refine bodyPost_ret (v := .agg #[.int .i64 xa, .int .i64 xb, .int .i64 xc]) ?_ rfl ⟨?_, hW⟩
                  · simp [results, Tryz.results33, go_sem, s1, s2, s3]
                  · rw [show formsW T = some (xa, xb, xc) by unfold formsW; rw [HN0.out, HCW.out, HN2.out, HN3.out, HCW0.out]; rfl]
                    rfl
                | none =>
                  rw [hcw0] at hcon
                  have HC0 := Lib.hid hcon
                  have HCW0 := Lib.hid hcw0
                  clear hcon hcw0
                  unfold wrongV at HC0
                  go_wp2_with fail
                  refine HC0.out.mono ?_
                  rintro e w2 ⟨rfl, hb2⟩
                  have hp := (Hr.out.step hb2).putG (Hg.out.below hb2) hgl (.int .i64 0) (.int .i64 0) (.int .i64 0)
                  obtain ⟨p1, p2, p3, p4, p5, p6⟩ := wrong_facts hp.2
                  obtain ⟨b0, b1, b2, b3, b4, b5, b6, b7⟩ := hp.1.boxF
                  obtain ⟨r1, r2, r3, f1, f2, f3⟩ := hp.1.resF
                  obtain ⟨q1, q2, q3, q4, q5, q6⟩ := wrong_facts (Hg.out.below hb2)
                  have Hp := Lib.hid hp
                  clear hp
                  go_wp2_with fail
                  have Hr := Lib.hid Hp.out.1
                  have Hg := Lib.hid Hp.out.2
                  clear hb2 q1 q2 q3 q4 q5 q6 Hp
                  have hcon := (ref_maps HRU T.looks (HT.out.looks.below Hr.out.below) (fun m hm => (HO.out.looks m hm).2) 6)
                  cases hcw1 : mapsW T.looks 6 with
                  | some x =>
                    obtain ⟨xa, xb, xc⟩ := x
                    rw [hcw1] at hcon
                    have h1 : (xa == 0) = false := by have := mapsW_ne hcw1; simpa using this
                    have HC1 := Lib.hid hcon
                    have HCW1 := Lib.hid hcw1
                    clear hcon hcw1
                    unfold wrongV at HC1
                    refine HC1.out.mono ?_
                    rintro e w2 ⟨rfl, hb2⟩
                    have hp := (Hr.out.step hb2).putG (Hg.out.below hb2) hgl (.int .i64 xa) (.int .i64 xb) (.int .i64 xc)
                    obtain ⟨p1, p2, p3, p4, p5, p6⟩ := wrong_facts hp.2
                    obtain ⟨b0, b1, b2, b3, b4, b5, b6, b7⟩ := hp.1.boxF
                    obtain ⟨r1, r2, r3, f1, f2, f3⟩ := hp.1.resF
                    obtain ⟨q1, q2, q3, q4, q5, q6⟩ := wrong_facts (Hg.out.below hb2)
                    have Hp := Lib.hid hp
                    clear hp
                    go_wp2_with fail
                    obtain ⟨hB, hW⟩ := (Hp.out.1).ret (.int .i64 xa) (.int .i64 xb) (.int .i64 xc)
                    obtain ⟨s1, s2, s3, -, -, -⟩ := wrong_facts hB
                    refine bodyPost_ret (v := .agg #[.int .i64 xa, .int .i64 xb, .int .i64 xc]) ?_ rfl ⟨?_, hW⟩
                    · simp [results, Tryz.results33, go_sem, s1, s2, s3]
                    · rw [show formsW T = some (xa, xb, xc) by unfold formsW; rw [HN0.out, HCW.out, HN2.out, HN3.out, HCW0.out, HCW1.out]; rfl]
                      rfl
                  | none =>
                    rw [hcw1] at hcon
                    have HC1 := Lib.hid hcon
                    have HCW1 := Lib.hid hcw1
                    clear hcon hcw1
                    unfold wrongV at HC1
                    refine HC1.out.mono ?_
                    rintro e w2 ⟨rfl, hb2⟩
                    have hp := (Hr.out.step hb2).putG (Hg.out.below hb2) hgl (.int .i64 0) (.int .i64 0) (.int .i64 0)
                    obtain ⟨p1, p2, p3, p4, p5, p6⟩ := wrong_facts hp.2
                    obtain ⟨b0, b1, b2, b3, b4, b5, b6, b7⟩ := hp.1.boxF
                    obtain ⟨r1, r2, r3, f1, f2, f3⟩ := hp.1.resF
                    obtain ⟨q1, q2, q3, q4, q5, q6⟩ := wrong_facts (Hg.out.below hb2)
                    have Hp := Lib.hid hp
                    clear hp
                    go_wp2_with fail
                    have Hr := Lib.hid Hp.out.1
                    have Hg := Lib.hid Hp.out.2
                    clear hb2 q1 q2 q3 q4 q5 q6 Hp
                    have hcon := (ref_spans T.drops (HT.out.drops.below Hr.out.below) 7)
                    cases hcw2 : spansW T.drops 7 with
                    | some x =>
                      obtain ⟨xa, xb, xc⟩ := x
                      rw [hcw2] at hcon
                      have h1 : (xa == 0) = false := by have := spansW_ne hcw2; simpa using this
                      have HC2 := Lib.hid hcon
                      have HCW2 := Lib.hid hcw2
                      clear hcon hcw2
                      unfold wrongV at HC2
                      refine HC2.out.mono ?_
                      rintro e w2 ⟨rfl, hb2⟩
                      have hp := (Hr.out.step hb2).putG (Hg.out.below hb2) hgl (.int .i64 xa) (.int .i64 xb) (.int .i64 xc)
                      obtain ⟨p1, p2, p3, p4, p5, p6⟩ := wrong_facts hp.2
                      obtain ⟨b0, b1, b2, b3, b4, b5, b6, b7⟩ := hp.1.boxF
                      obtain ⟨r1, r2, r3, f1, f2, f3⟩ := hp.1.resF
                      obtain ⟨q1, q2, q3, q4, q5, q6⟩ := wrong_facts (Hg.out.below hb2)
                      have Hp := Lib.hid hp
                      clear hp
                      go_wp2_with fail
                      obtain ⟨hB, hW⟩ := (Hp.out.1).ret (.int .i64 xa) (.int .i64 xb) (.int .i64 xc)
                      obtain ⟨s1, s2, s3, -, -, -⟩ := wrong_facts hB
                      refine bodyPost_ret (v := .agg #[.int .i64 xa, .int .i64 xb, .int .i64 xc]) ?_ rfl ⟨?_, hW⟩
                      · simp [results, Tryz.results33, go_sem, s1, s2, s3]
                      · rw [show formsW T = some (xa, xb, xc) by unfold formsW; rw [HN0.out, HCW.out, HN2.out, HN3.out, HCW0.out, HCW1.out, HCW2.out]; rfl]
                        rfl
                    | none =>
                      rw [hcw2] at hcon
                      have HC2 := Lib.hid hcon
                      have HCW2 := Lib.hid hcw2
                      clear hcon hcw2
                      unfold wrongV at HC2
                      refine HC2.out.mono ?_
                      rintro e w2 ⟨rfl, hb2⟩
                      have hp := (Hr.out.step hb2).putG (Hg.out.below hb2) hgl (.int .i64 0) (.int .i64 0) (.int .i64 0)
                      obtain ⟨p1, p2, p3, p4, p5, p6⟩ := wrong_facts hp.2
                      obtain ⟨b0, b1, b2, b3, b4, b5, b6, b7⟩ := hp.1.boxF
                      obtain ⟨r1, r2, r3, f1, f2, f3⟩ := hp.1.resF
                      obtain ⟨q1, q2, q3, q4, q5, q6⟩ := wrong_facts (Hg.out.below hb2)
                      have Hp := Lib.hid hp
                      clear hp
                      go_wp2_with fail
                      have Hr := Lib.hid Hp.out.1
                      have Hg := Lib.hid Hp.out.2
                      clear hb2 q1 q2 q3 q4 q5 q6 Hp
                      have hcon := (ref_spans T.allowed (HT.out.allowed.below Hr.out.below) 8)
                      cases hcw3 : spansW T.allowed 8 with
                      | some x =>
                        obtain ⟨xa, xb, xc⟩ := x
                        rw [hcw3] at hcon
                        have h1 : (xa == 0) = false := by have := spansW_ne hcw3; simpa using this
                        have HC3 := Lib.hid hcon
                        have HCW3 := Lib.hid hcw3
                        clear hcon hcw3
                        unfold wrongV at HC3
                        refine HC3.out.mono ?_
                        rintro e w2 ⟨rfl, hb2⟩
                        have hp := (Hr.out.step hb2).putG (Hg.out.below hb2) hgl (.int .i64 xa) (.int .i64 xb) (.int .i64 xc)
                        obtain ⟨p1, p2, p3, p4, p5, p6⟩ := wrong_facts hp.2
                        obtain ⟨b0, b1, b2, b3, b4, b5, b6, b7⟩ := hp.1.boxF
                        obtain ⟨r1, r2, r3, f1, f2, f3⟩ := hp.1.resF
                        obtain ⟨q1, q2, q3, q4, q5, q6⟩ := wrong_facts (Hg.out.below hb2)
                        have Hp := Lib.hid hp
                        clear hp
                        go_wp2_with fail
                        obtain ⟨hB, hW⟩ := (Hp.out.1).ret (.int .i64 xa) (.int .i64 xb) (.int .i64 xc)
                        obtain ⟨s1, s2, s3, -, -, -⟩ := wrong_facts hB
                        refine bodyPost_ret (v := .agg #[.int .i64 xa, .int .i64 xb, .int .i64 xc]) ?_ rfl ⟨?_, hW⟩
                        · simp [results, Tryz.results33, go_sem, s1, s2, s3]
                        · rw [show formsW T = some (xa, xb, xc) by unfold formsW; rw [HN0.out, HCW.out, HN2.out, HN3.out, HCW0.out, HCW1.out, HCW2.out, HCW3.out]; rfl]
                          rfl
                      | none =>
                        rw [hcw3] at hcon
                        have HC3 := Lib.hid hcon
                        have HCW3 := Lib.hid hcw3
                        clear hcon hcw3
                        unfold wrongV at HC3
                        refine HC3.out.mono ?_
                        rintro e w2 ⟨rfl, hb2⟩
                        have hp := (Hr.out.step hb2).putG (Hg.out.below hb2) hgl (.int .i64 0) (.int .i64 0) (.int .i64 0)
                        obtain ⟨p1, p2, p3, p4, p5, p6⟩ := wrong_facts hp.2
                        obtain ⟨b0, b1, b2, b3, b4, b5, b6, b7⟩ := hp.1.boxF
                        obtain ⟨r1, r2, r3, f1, f2, f3⟩ := hp.1.resF
                        obtain ⟨q1, q2, q3, q4, q5, q6⟩ := wrong_facts (Hg.out.below hb2)
                        have Hp := Lib.hid hp
                        clear hp
                        go_wp2_with fail
                        obtain ⟨hB, hW⟩ := (Hp.out.1).ret (.int .i64 0) (.int .i64 0) (.int .i64 0)
                        obtain ⟨s1, s2, s3, -, -, -⟩ := wrong_facts hB
                        refine bodyPost_ret (v := .agg #[.int .i64 0, .int .i64 0, .int .i64 0]) ?_ rfl ⟨?_, hW⟩
                        · simp [results, Tryz.results33, go_sem, s1, s2, s3]
                        · rw [show formsW T = none by unfold formsW; rw [HN0.out, HCW.out, HN2.out, HN3.out, HCW0.out, HCW1.out, HCW2.out, HCW3.out]; rfl]
                          rfl

end
section
open Go.RowKit
set_option linter.unusedVariables false
/-- a region that draws its order, whose operations read old memory only and whose callees write new memory only: one walk of the text's order serves every order -/
theorem wp_region_below {P : Program} {id : Nat} {Q : Exit → Act → World → Prop} {a : Act} {w : World} {l : List Oper} (hm : P.follows .mixedOrders = true) (hB : Region.lexB .any l.toArray = true)
    (h : wpQuiet P l.toArray (fun w' => Below w.heap.size w w') (fun a' => ∀ w', Below w.heap.size w w' → Q .normal a' w') l a) : (Code.region id l.toArray true).wp P Q a w :=
  wp_region_quiet (C := fun w' => Below w.heap.size w w') hm hB ⟨rfl, rfl, rfl, Nat.le_refl _, fun _ _ => rfl⟩ (by simpa using h)

end
end Go.Proofs.YtjmkdimbbacnfaaGreatDoor
