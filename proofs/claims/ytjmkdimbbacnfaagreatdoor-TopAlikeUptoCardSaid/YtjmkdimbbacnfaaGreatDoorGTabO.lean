/- tables.Book: Dropped, Plain: what they answer. tables.check: what 'once' holds on to while it fills the maps. -/
import Derived.Test.YtjmkdimbbacnfaaGreatDoorGTabN
import Derived.Test.YtjmkdimbbacnfaaGreatDoorGTabI
import Derived.WideKeyEntry
namespace Go.Proofs.YtjmkdimbbacnfaaGreatDoor
section
open Go.RowKit
set_option linter.unusedVariables false
section
variable {w : World} {b m1 m2 m3 m4 m5 : Nat} {t0 t1 t2 t3 t4 t5 t6 t7 : Value} {M : MC}
set_option maxHeartbeats 2000000 in
theorem book_Dropped (h : MS w b m1 m2 m3 m4 m5 t0 t1 t2 t3 t4 t5 t6 t7 M) (l : List SpanT) (hL : ListAt w t6 2 (l.map encSpan)) (hI : InOrder l) (r : Int) :
    Calls Tryz.prog 113 #[.pointer (some ⟨b, 0, none⟩), .int .i32 r] w fun e w' => e = .returned (.bool (ofL r l)) ∧ Below w.heap.size w w' := by
  have HO := Lib.hid (tab_of l hL hI r)
  have c6 : w.cell? ⟨b, 6, none⟩ = some t6 := h.book.cell 6
  clear h hL hI
  go_enter Tryz.func113, Tryz.ntmps113
  go_wp2_with (go_at_call 60; refine HO.out.mono ?_; rintro e w2 ⟨rfl, hb2⟩)
  go_ret
  exact ⟨rfl, hb2⟩
end
theorem plain_parts {T : Tab} (hmk : scan markAt 3 0 T.marks = none) (r : Int) : plainL T r = (isRune r && (((mapsOf T).cls r).getD 0 == 0) && !((mapsOf T).pr r).isSome && !((mapsOf T).fl r).isSome && !ofL r T.drops) := by
  unfold plainL
  have h1 := cls_mark hmk r
  have h2 := pr_whole (T := T) r
  have h3 := fl_from (T := T) r
  rw [h1, h2, h3]
  have e1 : decide (wholeI T.pairs r < 0) = !decide (0 ≤ wholeI T.pairs r) := by
    by_cases h : wholeI T.pairs r < 0
    · simp [h]
    · simp [h]; omega
  have e2 : decide (fromI T.folds r < 0) = !decide (0 ≤ fromI T.folds r) := by
    by_cases h : fromI T.folds r < 0
    · simp [h]
    · simp [h]; omega
  rw [e1, e2]
  unfold bne
  cases isRune r <;> cases (((mapsOf T).cls r).getD 0 == 0) <;> cases decide (0 ≤ wholeI T.pairs r) <;> cases decide (0 ≤ fromI T.folds r) <;> cases ofL r T.drops <;> rfl
section
variable {w : World} {b m1 m2 m3 m4 m5 : Nat} {t0 t1 t2 t3 t4 t5 t6 t7 : Value}
set_option maxRecDepth 100000 in
set_option maxHeartbeats 4000000 in
theorem book_Plain (T : Tab) (h : MS w b m1 m2 m3 m4 m5 t0 t1 t2 t3 t4 t5 t6 t7 (mapsOf T)) (hmk : scan markAt 3 0 T.marks = none) (hL : ListAt w t6 2 (T.drops.map encSpan)) (hI : InOrder T.drops) (r : Int) (hr : i32 r) :
    Calls Tryz.prog 61 #[.pointer (some ⟨b, 0, none⟩), .int .i32 r] w fun e w' => e = .returned (.bool (plainL T r)) ∧ Below w.heap.size w w' := by
  obtain ⟨y3, hy3⟩ : ∃ y, ((mapsOf T).pr r).getD (0, 0) = y := ⟨_, rfl⟩
  have HB := Lib.hid ((Below.refl _ w).alloc (Nat.le_refl _) (.cells #[.int .i32 y3.1, .int .i32 y3.2] 112))
  have hM1 := h.below HB.out
  have HD := Lib.hid (fun x (hx : ofL r T.drops = x) => (book_Dropped hM1 T.drops (hL.below HB.out) hI r).mono (R' := fun e w' => e = .returned (.bool x) ∧ Below (w.alloc (.cells #[.int .i32 y3.1, .int .i32 y3.2] 112)).heap.size (w.alloc (.cells #[.int .i32 y3.1, .int .i32 y3.2] 112)) w') (fun e w' h => ⟨by rw [← hx]; exact h.1, h.2⟩))
  obtain ⟨-, q9, -, -, -⟩ := h.cells
  obtain ⟨z8, -, -, z11, -⟩ := hM1.cells
  have l1 := h.look_pr hr
  have l2 := hM1.look_fl hr
  have l3 := hM1.look_cls hr
  have HP := Lib.hid (plain_parts hmk r)
  rw [hy3] at l1
  generalize ((mapsOf T).pr r).isSome = y1 at *
  generalize ((mapsOf T).fl r).isSome = y2 at *
  generalize ((mapsOf T).fl r).getD ⟨#[]⟩ = y5 at *
  generalize ((mapsOf T).cls r).getD 0 = y4 at *
  clear h hM1 hL hI hmk hr hy3
  go_enter Tryz.func61, Tryz.ntmps61
  cases h1 : isRune r with
  | false =>
    go_wp2_with (go_at_call 56; refine (valid_arm _ _ _ (by assumption)).mono ?_; rintro e w' ⟨rfl, rfl⟩)
    go_ret
    exact ⟨by rw [show plainL T r = false by rw [HP.out, h1]; rfl]; rfl, HB.out⟩
  | true =>
    cases h2 : (y4 == 0) with
    | false =>
      go_wp2_with (go_at_call 56; refine (valid_arm _ _ _ (by assumption)).mono ?_; rintro e w' ⟨rfl, rfl⟩)
      go_ret
      exact ⟨by rw [show plainL T r = false by rw [HP.out, h1, h2]; rfl]; rfl, HB.out⟩
    | true =>
      cases y1 with
      | true =>
        go_wp2_with (go_at_call 56; refine (valid_arm _ _ _ (by assumption)).mono ?_; rintro e w' ⟨rfl, rfl⟩)
        go_ret
        exact ⟨by rw [show plainL T r = false by rw [HP.out, h1, h2]; rfl]; rfl, HB.out⟩
      | false =>
        cases y2 with
        | true =>
          go_wp2_with (go_at_call 56; refine (valid_arm _ _ _ (by assumption)).mono ?_; rintro e w' ⟨rfl, rfl⟩)
          go_ret
          exact ⟨by rw [show plainL T r = false by rw [HP.out, h1, h2]; rfl]; rfl, HB.out⟩
        | false =>
          cases h5 : ofL r T.drops with
          | true =>
            go_wp2_with (first | (go_at_call 56; refine (valid_arm _ _ _ (by assumption)).mono ?_; rintro e w' ⟨rfl, rfl⟩) | (go_at_call 113; refine (HD.out _ (by assumption)).mono ?_; rintro e w2 ⟨rfl, hb2⟩))
            go_ret
            exact ⟨by rw [show plainL T r = false by rw [HP.out, h1, h2, h5]; rfl]; rfl, below_trans HB.out hb2⟩
          | false =>
            go_wp2_with (first | (go_at_call 56; refine (valid_arm _ _ _ (by assumption)).mono ?_; rintro e w' ⟨rfl, rfl⟩) | (go_at_call 113; refine (HD.out _ (by assumption)).mono ?_; rintro e w2 ⟨rfl, hb2⟩))
            go_ret
            exact ⟨by rw [show plainL T r = true by rw [HP.out, h1, h2, h5]; rfl]; rfl, below_trans HB.out hb2⟩
end
end
section
open Go.RowKit
open Go.Maps (Keyed)
set_option linter.unusedVariables false
/-- the first k of a list, as a map: the first of a key -/
def fnd {α K V : Type} [DecidableEq K] (l : List α) (key : α → K) (val : α → V) (k : Nat) : K → Option V := fun z => ((l.take k).find? fun y => decide (key y = z)).map val
section
variable {α K V : Type} [DecidableEq K] {l : List α} {key : α → K} {val : α → V}
theorem fnd_zero : fnd l key val 0 = fun _ => none := by funext z; simp [fnd]
theorem fnd_isSome {k : Nat} {z : K} : (fnd l key val k z).isSome = (l.take k).any fun y => decide (key y = z) := find_any _ _ _
theorem fnd_none {k : Nat} {z : K} (h : (l.take k).any (fun y => decide (key y = z)) = false) : fnd l key val k z = none := by
  have := fnd_isSome (val := val) (l := l) (key := key) (k := k) (z := z)
  rw [h] at this
  cases hf : fnd l key val k z with
  | none => rfl
  | some x => rw [hf] at this; cases this
theorem fnd_upd {k : Nat} {x : α} (hx : l[k]? = some x) (hno : (l.take k).any (fun y => decide (key y = key x)) = false) : (fun z => if z = key x then some (val x) else fnd l key val k z) = fnd l key val (k + 1) := by
  funext z
  have h0 := fnd_none (val := val) hno
  unfold fnd at h0 ⊢
  rw [List.take_add_one, hx]
  show _ = ((l.take k ++ [x]).find? _).map val
  rw [List.find?_append]
  by_cases hz : z = key x
  · subst hz
    rw [if_pos rfl]
    cases hf : (l.take k).find? fun y => decide (key y = key x) with
    | some y => rw [hf] at h0; cases h0
    | none => simp
  · rw [if_neg hz]
    have hz2 : ¬ key x = z := fun e => hz e.symm
    cases hf : (l.take k).find? fun y => decide (key y = z) <;> simp [hz2]
theorem fnd_all {k : Nat} (hk : k = l.length) : fnd l key val k = fun z => (l.find? fun y => decide (key y = z)).map val := by
  funext z
  unfold fnd
  rw [hk, List.take_length]
end
/-- a block of cells is no map -/
theorem blk_ne {K V : Type} {P : Program} {k : TypeId} {kv : K → Value} {ev : V → Value} {w : World} {g m n : Nat} {t : TypeId} {cs : Array Value} {f : K → Option V} (hb : Blk w g t cs) (hm : MapV P k kv ev w m n f) : g ≠ m := by
  obtain ⟨D, ⟨es, clock, h0, _⟩, _⟩ := hm
  intro e
  rw [← e, show w.heap[g]? = _ from hb] at h0
  cases h0

/-- the maps lie apart, made by the call that called -/
structure Dst (w0 w : World) (m1 m2 m3 m4 m5 : Nat) : Prop where
  ge : w0.heap.size ≤ m1 ∧ w0.heap.size ≤ m2 ∧ w0.heap.size ≤ m3 ∧ w0.heap.size ≤ m4 ∧ w0.heap.size ≤ m5
  lt : m1 < w.heap.size ∧ m2 < w.heap.size ∧ m3 < w.heap.size ∧ m4 < w.heap.size ∧ m5 < w.heap.size
  ne : m1 ≠ m2 ∧ m1 ≠ m3 ∧ m1 ≠ m4 ∧ m1 ≠ m5 ∧ m2 ≠ m3 ∧ m2 ≠ m4 ∧ m2 ≠ m5 ∧ m3 ≠ m4 ∧ m3 ≠ m5 ∧ m4 ≠ m5
/-- all but the maps is as it was -/
def OffM (w : World) (m1 m2 m3 m4 m5 : Nat) (wr : World) : Prop := ∀ i, i < w.heap.size → i ≠ m1 → i ≠ m2 → i ≠ m3 → i ≠ m4 → i ≠ m5 → wr.heap[i]? = w.heap[i]?
abbrev M1 (w : World) (m : Nat) (N : Nat) (g : Int → Option Int) : Prop := ∃ n, n ≤ N ∧ MapV Tryz.prog 21 (Value.int .i32) (Value.int .i64) w m n g
abbrev M2 (w : World) (m : Nat) (N : Nat) (g : Int → Option (Int × Int)) : Prop := ∃ n, n ≤ N ∧ MapV Tryz.prog 21 (Value.int .i32) pairK w m n g
abbrev M3 (w : World) (m : Nat) (N : Nat) (g : Int × Int → Option Int) : Prop := ∃ n, n ≤ N ∧ MapV Tryz.prog 112 pairK (Value.int .i32) w m n g
abbrev M4 (w : World) (m : Nat) (N : Nat) (g : Int → Option ByteArray) : Prop := ∃ n, n ≤ N ∧ MapV Tryz.prog 21 (Value.int .i32) Value.string w m n g
abbrev Mn (w : World) (m : Nat) (N : Nat) (g : ByteArray → Option Bool) : Prop := ∃ n, n ≤ N ∧ MapV Tryz.prog 9 Value.string Value.bool w m n g
structure OS (w0 w : World) (c b m1 m2 m3 m4 m5 nm : Nat) (v0 v1 v2 v3 v4 v5 v6 v7 t0 t1 t2 t3 t4 t5 t6 t7 : Value) (N : Nat) (G1 : Int → Option Int) (G2 : Int → Option (Int × Int)) (G3 : Int × Int → Option Int) (G4 G5 : Int → Option ByteArray) (Gn : ByteArray → Option Bool) (wr : World) : Prop where
  below0 : Below w0.heap.size w0 wr
  size : w.heap.size + 1 < wr.heap.size
  off : OffM w m1 m2 m3 m4 m5 wr
  res : Blk wr w.heap.size 40 #[.int .i64 0, .int .i64 0, .int .i64 0]
  chk : Blk wr c 68 #[v0, v1, v2, v3, v4, v5, v6, v7, .pointer (some ⟨b, 0, none⟩)]
  book : Blk wr b 66 #[t0, t1, t2, t3, t4, t5, t6, t7, .map (some m1), .map (some m2), .map (some m3), .map (some m4), .map (some m5)]
  a1 : M1 wr m1 N G1
  a2 : M2 wr m2 N G2
  a3 : M3 wr m3 N G3
  a4 : M4 wr m4 N G4
  a5 : M4 wr m5 N G5
  an : Mn wr nm N Gn
section
variable {w0 w wr w2 : World} {c b m1 m2 m3 m4 m5 nm N : Nat} {v0 v1 v2 v3 v4 v5 v6 v7 t0 t1 t2 t3 t4 t5 t6 t7 : Value} {G1 : Int → Option Int} {G2 : Int → Option (Int × Int)} {G3 : Int × Int → Option Int} {G4 G5 : Int → Option ByteArray} {Gn : ByteArray → Option Bool}
theorem MapV.belowN {K V : Type} {P : Program} {k : TypeId} {kv : K → Value} {ev : V → Value} {m N : Nat} {g : K → Option V} (h : ∃ n, n ≤ N ∧ MapV P k kv ev wr m n g) (hb : Below wr.heap.size wr w2) : ∃ n, n ≤ N ∧ MapV P k kv ev w2 m n g := by
  obtain ⟨n, hn, h⟩ := h
  exact ⟨n, hn, h.below hb h.lt⟩
theorem MapV.keptN {K V : Type} {P : Program} {k : TypeId} {kv : K → Value} {ev : V → Value} {m N : Nat} {g : K → Option V} {row : Nat} (h : ∃ n, n ≤ N ∧ MapV P k kv ev wr m n g) (hg : wr.grownBy w2 (some row)) (hne : m ≠ row) : ∃ n, n ≤ N + 1 ∧ MapV P k kv ev w2 m n g := by
  obtain ⟨n, hn, h⟩ := h
  exact ⟨n, by omega, h.kept hg (by simpa using hne)⟩
theorem OS.step (h : OS w0 w c b m1 m2 m3 m4 m5 nm v0 v1 v2 v3 v4 v5 v6 v7 t0 t1 t2 t3 t4 t5 t6 t7 N G1 G2 G3 G4 G5 Gn wr) (hb : Below wr.heap.size wr w2) : OS w0 w c b m1 m2 m3 m4 m5 nm v0 v1 v2 v3 v4 v5 v6 v7 t0 t1 t2 t3 t4 t5 t6 t7 N G1 G2 G3 G4 G5 Gn w2 :=
  ⟨below_trans h.below0 hb, Nat.lt_of_lt_of_le h.size hb.size, fun i hi n1 n2 n3 n4 n5 => (hb.block i (by have := h.size; omega)).trans (h.off i hi n1 n2 n3 n4 n5), h.res.below hb, h.chk.below hb, h.book.below hb,
    MapV.belowN h.a1 hb, MapV.belowN h.a2 hb, MapV.belowN h.a3 hb, MapV.belowN h.a4 hb, MapV.belowN h.a5 hb, MapV.belowN h.an hb⟩
theorem OS.resF (h : OS w0 w c b m1 m2 m3 m4 m5 nm v0 v1 v2 v3 v4 v5 v6 v7 t0 t1 t2 t3 t4 t5 t6 t7 N G1 G2 G3 G4 G5 Gn wr) : wr.cell? ⟨w.heap.size, 0, none⟩ = some (.int .i64 0) ∧ wr.cell? ⟨w.heap.size, 1, none⟩ = some (.int .i64 0) ∧ wr.cell? ⟨w.heap.size, 2, none⟩ = some (.int .i64 0) ∧ wr.frozen? ⟨w.heap.size, 0, none⟩ = false ∧ wr.frozen? ⟨w.heap.size, 1, none⟩ = false ∧ wr.frozen? ⟨w.heap.size, 2, none⟩ = false := wrong_facts h.res
theorem OS.books (h : OS w0 w c b m1 m2 m3 m4 m5 nm v0 v1 v2 v3 v4 v5 v6 v7 t0 t1 t2 t3 t4 t5 t6 t7 N G1 G2 G3 G4 G5 Gn wr) : wr.cell? ⟨b, 8, none⟩ = some (.map (some m1)) ∧ wr.cell? ⟨b, 9, none⟩ = some (.map (some m2)) ∧ wr.cell? ⟨b, 10, none⟩ = some (.map (some m3)) ∧ wr.cell? ⟨b, 11, none⟩ = some (.map (some m4)) ∧ wr.cell? ⟨b, 12, none⟩ = some (.map (some m5)) :=
  ⟨h.book.cell 8, h.book.cell 9, h.book.cell 10, h.book.cell 11, h.book.cell 12⟩
/-- a store into one of the maps: what all else keeps -/
theorem OS.kept (h : OS w0 w c b m1 m2 m3 m4 m5 nm v0 v1 v2 v3 v4 v5 v6 v7 t0 t1 t2 t3 t4 t5 t6 t7 N G1 G2 G3 G4 G5 Gn wr) {m : Nat} (hg : wr.grownBy w2 (some m)) (h0 : w0.heap.size ≤ m) (hsz : w0.heap.size ≤ w.heap.size) (hm : (m = m1 ∨ m = m2 ∨ m = m3 ∨ m = m4 ∨ m = m5) ∨ w.heap.size < m) (hcs : ∀ t cs, ¬ Blk wr m t cs) :
    Below w0.heap.size w0 w2 ∧ w.heap.size + 1 < w2.heap.size ∧ OffM w m1 m2 m3 m4 m5 w2 ∧ Blk w2 w.heap.size 40 #[.int .i64 0, .int .i64 0, .int .i64 0] ∧ Blk w2 c 68 #[v0, v1, v2, v3, v4, v5, v6, v7, .pointer (some ⟨b, 0, none⟩)] ∧
      Blk w2 b 66 #[t0, t1, t2, t3, t4, t5, t6, t7, .map (some m1), .map (some m2), .map (some m3), .map (some m4), .map (some m5)] := by
  have hsw : w0.heap.size ≤ wr.heap.size := h.below0.size
  have bk : ∀ {g : Nat} {t : TypeId} {cs : Array Value}, Blk wr g t cs → Blk w2 g t cs := fun {g t cs} hb => hb.of (hg.block g hb.lt (fun e => by cases e; exact hcs _ _ hb))
  refine ⟨h.below0.grown hg hsw (fun k e => by cases e; exact h0), Nat.lt_of_lt_of_le h.size hg.size, fun i hi n1 n2 n3 n4 n5 => ?_, bk h.res, bk h.chk, bk h.book⟩
  rw [hg.block i (by have := h.size; omega) (fun e => by
    cases e
    rcases hm with (e | e | e | e | e) | e
    · exact n1 e
    · exact n2 e
    · exact n3 e
    · exact n4 e
    · exact n5 e
    · omega)]
  exact h.off i hi n1 n2 n3 n4 n5
theorem noBlk {K V : Type} {P : Program} {k : TypeId} {kv : K → Value} {ev : V → Value} {m n : Nat} {g : K → Option V} (h : MapV P k kv ev wr m n g) (t : TypeId) (cs : Array Value) : ¬ Blk wr m t cs := fun hb => blk_ne hb h rfl
theorem cell_ne {K V : Type} {P : Program} {k : TypeId} {kv : K → Value} {ev : V → Value} {m n : Nat} {f : K → Option V} (hm : MapV P k kv ev wr m n f) {q : Addr} {u : Value} (hq : wr.cell? q = some u) : some q.block ≠ some m := by
  obtain ⟨D, ⟨es, clock, h0, _⟩, _⟩ := hm
  intro e
  cases e
  simp [World.cell?, h0] at hq
/-- an entry that is laid and then written, at a key that is not there -/
theorem MapV.entryNew {K V : Type} [DecidableEq K] {P : Program} {k t e : TypeId} {kv : K → Value} {ev : V → Value} {w : World} {b n : Nat} {g : K → Option V} (h : MapV P k kv ev w b n g) (KK : Keyed P k) (ht : P.underlying t = some (.map k e)) {z : Value} (hz : ∀ u : World, (zeroValue e).run P u = .ok z u)
    (hn : n < maxLen) (hinj : ∀ x y, kv x = kv y → x = y) {x : K} {kl : Lit} (hkey : keyOf P k (kv x) = some kl) (hno : g x = none) (u : V) :
    ∃ (st : Int) (w1 w2 : World), (Instr.mapEntry t (.map (some b)) (kv x)).run P w = .ok (.tuple #[z, .int .i64 st]) w1 ∧ (Instr.entryStore t (.map (some b)) (.int .i64 st) (ev u)).run P w1 = .ok () w2 ∧
      w.grownBy w1 (some b) ∧ w.grownBy w2 (some b) ∧ MapV P k kv ev w2 b (n + 1) (fun y => if y = x then some u else g y) := by
  obtain ⟨w', hrun, hmv, hg⟩ := h.store KK ht hn hinj hkey u
  have hlk := h.lookOk KK ht (hz w) hkey
  obtain ⟨D, ⟨es, clock, hb, F, hs, hD⟩, h2⟩ := h
  have gb : ∀ (es2 : Array MapEntry) (c2 : Nat), w.grownBy (ChangeMaps.setBlock w b (.map es2 c2)) (some b) := fun es2 c2 =>
    ⟨rfl, rfl, rfl, by simp [ChangeMaps.setBlock], fun i _ hi => ChangeMaps.heap_setBlock_other hb _ (fun e => hi (by rw [e]))⟩
  rcases KK.find w hkey es.toList F.keys with ⟨h1, hne⟩ | ⟨j, e0, h1, hj, h3⟩
  · have hw1 : (ChangeMaps.setBlock w b (.map (es.push ⟨kv x, z, clock⟩) (clock + 1))).heap[b]? = some (.map (es.push ⟨kv x, z, clock⟩) (clock + 1)) := ChangeMaps.heap_setBlock_same hb _
    have hidx : (es.push ⟨kv x, z, clock⟩).findIdx? (fun e => ((e.born : Nat) : Int) == ((clock : Nat) : Int)) = some es.size := by
      rw [WideElems.findIdx_arr]
      obtain ⟨s1, s2, _⟩ := F.stamped
      have := WideElems.findIdx_born (l := (es.push ⟨kv x, z, clock⟩).toList) (j := es.size) (e0 := ⟨kv x, z, clock⟩) (by
        simp only [Array.toList_push, List.map_append, List.map_cons, List.map_nil]
        refine List.nodup_append.2 ⟨s2, by simp, fun a ha c hc e1 => ?_⟩
        simp only [List.mem_singleton] at hc
        obtain ⟨y, hy, rfl⟩ := List.mem_map.1 ha
        have := s1 y hy
        omega) (by simp)
      exact this
    have hmod : (es.push ⟨kv x, z, clock⟩).modify es.size (fun e => { e with val := ev u }) = es.push ⟨kv x, ev u, clock⟩ := by
      apply Array.ext'
      rw [Array.toList_modify, Array.toList_push, Array.toList_push, ← Array.length_toList, WideElems.modify_last]
    have hupd : w' = ChangeMaps.setBlock w b (.map (es.push ⟨kv x, ev u, clock⟩) (clock + 1)) := by
      have : (Instr.mapUpdate t (.map (some b)) (kv x) (ev u)).run P w = .ok () (ChangeMaps.setBlock w b (.map (es.push ⟨kv x, ev u, clock⟩) (clock + 1))) := by
        simp [Instr.mapUpdate, run_underlying ht, MapKept.run_getObj_map hb, KK.check w false hkey, h1, MapKept.run_setObj_map _ hb, Result.andThen, ChangeMaps.setBlock]
      rw [hrun] at this
      cases this
      rfl
    refine ⟨(clock : Int), ChangeMaps.setBlock w b (.map (es.push ⟨kv x, z, clock⟩) (clock + 1)), w', ?_, ?_, gb _ _, hg, hmv⟩
    · simp [Instr.mapEntry, run_underlying ht, MapKept.run_getObj_map hb, KK.check w false hkey, h1, hz, MapKept.run_setObj_map _ hb, Result.andThen, ChangeMaps.setBlock, goInt]
    · have hes : ∀ w1 : World, w1.heap[b]? = some (.map (es.push ⟨kv x, z, clock⟩) (clock + 1)) → (Instr.entryStore t (.map (some b)) (.int .i64 (clock : Int)) (ev u)).run P w1 = .ok () (ChangeMaps.setBlock w1 b (.map (es.push ⟨kv x, ev u, clock⟩) (clock + 1))) := fun w1 hw => by
        simp [Instr.entryStore, MapKept.run_getObj_map hw, asInt, asIntOf, hidx, hmod, MapKept.run_setObj_map _ hw, Result.andThen, ChangeMaps.setBlock]
      rw [hes _ hw1, hupd]
      simp [ChangeMaps.setBlock]
  · exfalso
    rw [hno] at hlk
    simp [Instr.lookup, run_underlying ht, MapKept.run_getObj_map hb, KK.check w _ hkey, h1, Result.andThen] at hlk
theorem OS.put1 (h : OS w0 w c b m1 m2 m3 m4 m5 nm v0 v1 v2 v3 v4 v5 v6 v7 t0 t1 t2 t3 t4 t5 t6 t7 N G1 G2 G3 G4 G5 Gn wr) (hd : Dst w0 w m1 m2 m3 m4 m5) (hnm : w.heap.size < nm) (hN : N < 100000000) {r : Int} (hr : i32 r) (u : Int) :
    ∃ w2, (Instr.mapUpdate 61 (.map (some m1)) (.int .i32 r) (.int .i64 u)).run Tryz.prog wr = .ok () w2 ∧ (∀ q u, wr.cell? q = some u → w2.cell? q = some u) ∧ OS w0 w c b m1 m2 m3 m4 m5 nm v0 v1 v2 v3 v4 v5 v6 v7 t0 t1 t2 t3 t4 t5 t6 t7 (N + 1) (fun z => if z = r then some u else G1 z) G2 G3 G4 G5 Gn w2 := by
  obtain ⟨n, hn, hm⟩ := h.a1
  obtain ⟨w2, hrun, hm2, hg⟩ := hm.store key32 Tryz.underlying61 (by unfold maxLen; omega) int32_inj (key32_mk hr) u
  obtain ⟨k1, k2, k3, k4, k5, k6⟩ := h.kept hg hd.ge.1 (by have := hd.ge; have := hd.lt; omega) (.inl (.inl rfl)) (noBlk hm)
  have hl := hd.lt
  have hq := hd.ne
  exact ⟨w2, hrun, fun q u hc => hg.cell hc (cell_ne hm hc), ⟨k1, k2, k3, k4, k5, k6, ⟨n + 1, by omega, hm2⟩, MapV.keptN h.a2 hg (by omega), MapV.keptN h.a3 hg (by omega), MapV.keptN h.a4 hg (by omega), MapV.keptN h.a5 hg (by omega), MapV.keptN h.an hg (by omega)⟩⟩
theorem OS.putn (h : OS w0 w c b m1 m2 m3 m4 m5 nm v0 v1 v2 v3 v4 v5 v6 v7 t0 t1 t2 t3 t4 t5 t6 t7 N G1 G2 G3 G4 G5 Gn wr) (hd : Dst w0 w m1 m2 m3 m4 m5) (hnm : w.heap.size < nm) (hN : N < 100000000) {s : ByteArray} (hs : s.size ≤ 2097152) (u : Bool) :
    ∃ w2, (Instr.mapUpdate 111 (.map (some nm)) (.string s) (.bool u)).run Tryz.prog wr = .ok () w2 ∧ (∀ q u, wr.cell? q = some u → w2.cell? q = some u) ∧ OS w0 w c b m1 m2 m3 m4 m5 nm v0 v1 v2 v3 v4 v5 v6 v7 t0 t1 t2 t3 t4 t5 t6 t7 (N + 1) G1 G2 G3 G4 G5 (fun z => if z = s then some u else Gn z) w2 := by
  obtain ⟨n, hn, hm⟩ := h.an
  obtain ⟨w2, hrun, hm2, hg⟩ := hm.store keyStr Tryz.underlying111 (by unfold maxLen; omega) (fun x y e => Value.string.inj e) (WideMaps.keyOf_string_mk (s := s) Tryz.underlying9 (by unfold maxLen; omega)) u
  have hsz : w0.heap.size ≤ w.heap.size := by have := hd.ge; have := hd.lt; omega
  obtain ⟨k1, k2, k3, k4, k5, k6⟩ := h.kept hg (by omega) hsz (.inr hnm) (noBlk hm)
  have hl := hd.lt
  exact ⟨w2, hrun, fun q u hc => hg.cell hc (cell_ne hm hc), ⟨k1, k2, k3, k4, k5, k6, MapV.keptN h.a1 hg (by omega), MapV.keptN h.a2 hg (by omega), MapV.keptN h.a3 hg (by omega), MapV.keptN h.a4 hg (by omega), MapV.keptN h.a5 hg (by omega), ⟨n + 1, by omega, hm2⟩⟩⟩
theorem OS.put4 (h : OS w0 w c b m1 m2 m3 m4 m5 nm v0 v1 v2 v3 v4 v5 v6 v7 t0 t1 t2 t3 t4 t5 t6 t7 N G1 G2 G3 G4 G5 Gn wr) (hd : Dst w0 w m1 m2 m3 m4 m5) (hnm : w.heap.size < nm) (hN : N < 100000000) {r : Int} (hr : i32 r) (u : ByteArray) :
    ∃ w2, (Instr.mapUpdate 64 (.map (some m4)) (.int .i32 r) (.string u)).run Tryz.prog wr = .ok () w2 ∧ (∀ q u, wr.cell? q = some u → w2.cell? q = some u) ∧ OS w0 w c b m1 m2 m3 m4 m5 nm v0 v1 v2 v3 v4 v5 v6 v7 t0 t1 t2 t3 t4 t5 t6 t7 (N + 1) G1 G2 G3 (fun z => if z = r then some u else G4 z) G5 Gn w2 := by
  obtain ⟨n, hn, hm⟩ := h.a4
  obtain ⟨w2, hrun, hm2, hg⟩ := hm.store key32 Tryz.underlying64 (by unfold maxLen; omega) int32_inj (key32_mk hr) u
  obtain ⟨k1, k2, k3, k4, k5, k6⟩ := h.kept hg hd.ge.2.2.2.1 (by have := hd.ge; have := hd.lt; omega) (.inl (.inr (.inr (.inr (.inl rfl))))) (noBlk hm)
  have hl := hd.lt
  have hq := hd.ne
  exact ⟨w2, hrun, fun q u hc => hg.cell hc (cell_ne hm hc), ⟨k1, k2, k3, k4, k5, k6, MapV.keptN h.a1 hg (by omega), MapV.keptN h.a2 hg (by omega), MapV.keptN h.a3 hg (by omega), ⟨n + 1, by omega, hm2⟩, MapV.keptN h.a5 hg (by omega), MapV.keptN h.an hg (by omega)⟩⟩
theorem OS.put5 (h : OS w0 w c b m1 m2 m3 m4 m5 nm v0 v1 v2 v3 v4 v5 v6 v7 t0 t1 t2 t3 t4 t5 t6 t7 N G1 G2 G3 G4 G5 Gn wr) (hd : Dst w0 w m1 m2 m3 m4 m5) (hnm : w.heap.size < nm) (hN : N < 100000000) {r : Int} (hr : i32 r) (u : ByteArray) :
    ∃ w2, (Instr.mapUpdate 64 (.map (some m5)) (.int .i32 r) (.string u)).run Tryz.prog wr = .ok () w2 ∧ (∀ q u, wr.cell? q = some u → w2.cell? q = some u) ∧ OS w0 w c b m1 m2 m3 m4 m5 nm v0 v1 v2 v3 v4 v5 v6 v7 t0 t1 t2 t3 t4 t5 t6 t7 (N + 1) G1 G2 G3 G4 (fun z => if z = r then some u else G5 z) Gn w2 := by
  obtain ⟨n, hn, hm⟩ := h.a5
  obtain ⟨w2, hrun, hm2, hg⟩ := hm.store key32 Tryz.underlying64 (by unfold maxLen; omega) int32_inj (key32_mk hr) u
  obtain ⟨k1, k2, k3, k4, k5, k6⟩ := h.kept hg hd.ge.2.2.2.2 (by have := hd.ge; have := hd.lt; omega) (.inl (.inr (.inr (.inr (.inr rfl))))) (noBlk hm)
  have hl := hd.lt
  have hq := hd.ne
  exact ⟨w2, hrun, fun q u hc => hg.cell hc (cell_ne hm hc), ⟨k1, k2, k3, k4, k5, k6, MapV.keptN h.a1 hg (by omega), MapV.keptN h.a2 hg (by omega), MapV.keptN h.a3 hg (by omega), MapV.keptN h.a4 hg (by omega), ⟨n + 1, by omega, hm2⟩, MapV.keptN h.an hg (by omega)⟩⟩
theorem OS.put23 (h : OS w0 w c b m1 m2 m3 m4 m5 nm v0 v1 v2 v3 v4 v5 v6 v7 t0 t1 t2 t3 t4 t5 t6 t7 N G1 G2 G3 G4 G5 Gn wr) (hd : Dst w0 w m1 m2 m3 m4 m5) (hnm : w.heap.size < nm) (hN : N < 100000000) {x y z : Int} (hx : i32 x) (hy : i32 y) (hz : i32 z) (h2 : G2 x = none) (h3 : G3 (y, z) = none) :
    ∃ (s1 s2 : Int) (Wa Wb Wc Wd : World), (Instr.mapEntry 62 (.map (some m2)) (.int .i32 x)).run Tryz.prog wr = .ok (.tuple #[.agg #[.int .i32 0, .int .i32 0], .int .i64 s1]) Wa ∧
      (Instr.entryStore 62 (.map (some m2)) (.int .i64 s1) (.agg #[.int .i32 y, .int .i32 z])).run Tryz.prog Wa = .ok () Wb ∧
      (Instr.mapEntry 63 (.map (some m3)) (.agg #[.int .i32 y, .int .i32 z])).run Tryz.prog Wb = .ok (.tuple #[.int .i32 0, .int .i64 s2]) Wc ∧
      (Instr.entryStore 63 (.map (some m3)) (.int .i64 s2) (.int .i32 x)).run Tryz.prog Wc = .ok () Wd ∧
      (∀ q u, wr.cell? q = some u → Wa.cell? q = some u ∧ Wb.cell? q = some u ∧ Wc.cell? q = some u ∧ Wd.cell? q = some u) ∧
      OS w0 w c b m1 m2 m3 m4 m5 nm v0 v1 v2 v3 v4 v5 v6 v7 t0 t1 t2 t3 t4 t5 t6 t7 (N + 2) G1 (fun q => if q = x then some (y, z) else G2 q) (fun q => if q = (y, z) then some x else G3 q) G4 G5 Gn Wd := by
  have hl := hd.lt
  have hq := hd.ne
  have hsz : w0.heap.size ≤ w.heap.size := by have := hd.ge; omega
  obtain ⟨n, hn, hm⟩ := h.a2
  obtain ⟨s1, Wa, Wb, e1, e2, g1, g2, hm2⟩ := hm.entryNew key32 Tryz.underlying62 (z := .agg #[.int .i32 0, .int .i32 0]) (fun u => by kernel_rfl) (by unfold maxLen; omega) int32_inj (key32_mk hx) h2 (y, z)
  obtain ⟨k1, k2, k3, k4, k5, k6⟩ := h.kept g2 hd.ge.2.1 hsz (.inl (.inr (.inl rfl))) (noBlk hm)
  have hB : OS w0 w c b m1 m2 m3 m4 m5 nm v0 v1 v2 v3 v4 v5 v6 v7 t0 t1 t2 t3 t4 t5 t6 t7 (N + 1) G1 (fun q => if q = x then some (y, z) else G2 q) G3 G4 G5 Gn Wb :=
    ⟨k1, k2, k3, k4, k5, k6, MapV.keptN h.a1 g2 (by omega), ⟨n + 1, by omega, hm2⟩, MapV.keptN h.a3 g2 (by omega), MapV.keptN h.a4 g2 (by omega), MapV.keptN h.a5 g2 (by omega), MapV.keptN h.an g2 (by omega)⟩
  obtain ⟨n', hn', hm'⟩ := hB.a3
  obtain ⟨kl, hkl⟩ := keyP_mk (p := (y, z)) hy hz
  obtain ⟨s2, Wc, Wd, e3, e4, g3, g4, hm3⟩ := hm'.entryNew keyP Tryz.underlying63 (z := .int .i32 0) (fun u => by kernel_rfl) (by unfold maxLen; omega) pairK_inj hkl h3 x
  obtain ⟨j1, j2, j3, j4, j5, j6⟩ := hB.kept g4 hd.ge.2.2.1 hsz (.inl (.inr (.inr (.inl rfl)))) (noBlk hm')
  refine ⟨s1, s2, Wa, Wb, Wc, Wd, e1, e2, e3, e4, fun q u hc => ?_, j1, j2, j3, j4, j5, j6, MapV.keptN hB.a1 g4 (by omega), MapV.keptN hB.a2 g4 (by omega), ⟨n' + 1, by omega, hm3⟩, MapV.keptN hB.a4 g4 (by omega), MapV.keptN hB.a5 g4 (by omega), MapV.keptN hB.an g4 (by omega)⟩
  have cb := g2.cell hc (cell_ne hm hc)
  exact ⟨g1.cell hc (cell_ne hm hc), cb, g3.cell cb (cell_ne hm' cb), g4.cell cb (cell_ne hm' cb)⟩
theorem OS.look_n (h : OS w0 w c b m1 m2 m3 m4 m5 nm v0 v1 v2 v3 v4 v5 v6 v7 t0 t1 t2 t3 t4 t5 t6 t7 N G1 G2 G3 G4 G5 Gn wr) {s : ByteArray} (hs : s.size ≤ 2097152) : (Instr.lookup 111 (.map (some nm)) (.string s) false).run Tryz.prog wr = .ok (.bool ((Gn s).getD false)) wr := by
  obtain ⟨n, hn, hm⟩ := h.an
  rw [hm.look keyStr Tryz.underlying111 (z := .bool false) (by kernel_rfl) (WideMaps.keyOf_string_mk (s := s) Tryz.underlying9 (by unfold maxLen; omega))]
  cases Gn s <;> rfl
theorem OS.ms (h : OS w0 w c b m1 m2 m3 m4 m5 nm v0 v1 v2 v3 v4 v5 v6 v7 t0 t1 t2 t3 t4 t5 t6 t7 N G1 G2 G3 G4 G5 Gn wr) : MS wr b m1 m2 m3 m4 m5 t0 t1 t2 t3 t4 t5 t6 t7 ⟨G1, G2, G3, G4, G5⟩ := by
  obtain ⟨n1, -, x1⟩ := h.a1
  obtain ⟨n2, -, x2⟩ := h.a2
  obtain ⟨n3, -, x3⟩ := h.a3
  obtain ⟨n4, -, x4⟩ := h.a4
  obtain ⟨n5, -, x5⟩ := h.a5
  exact ⟨h.book, ⟨_, x1⟩, ⟨_, x2⟩, ⟨_, x3⟩, ⟨_, x4⟩, ⟨_, x5⟩⟩
theorem OS.retF (h : OS w0 w c b m1 m2 m3 m4 m5 nm v0 v1 v2 v3 v4 v5 v6 v7 t0 t1 t2 t3 t4 t5 t6 t7 N G1 G2 G3 G4 G5 Gn wr) (hsz : w0.heap.size ≤ w.heap.size) (x y z : Value) : Blk (((wr.setCell ⟨w.heap.size, 0, none⟩ x).setCell ⟨w.heap.size, 1, none⟩ y).setCell ⟨w.heap.size, 2, none⟩ z) w.heap.size 40 #[x, y, z] ∧
    Below w0.heap.size w0 (((wr.setCell ⟨w.heap.size, 0, none⟩ x).setCell ⟨w.heap.size, 1, none⟩ y).setCell ⟨w.heap.size, 2, none⟩ z) ∧ OffM w m1 m2 m3 m4 m5 (((wr.setCell ⟨w.heap.size, 0, none⟩ x).setCell ⟨w.heap.size, 1, none⟩ y).setCell ⟨w.heap.size, 2, none⟩ z) ∧
    w.heap.size ≤ (((wr.setCell ⟨w.heap.size, 0, none⟩ x).setCell ⟨w.heap.size, 1, none⟩ y).setCell ⟨w.heap.size, 2, none⟩ z).heap.size ∧
    MS (((wr.setCell ⟨w.heap.size, 0, none⟩ x).setCell ⟨w.heap.size, 1, none⟩ y).setCell ⟨w.heap.size, 2, none⟩ z) b m1 m2 m3 m4 m5 t0 t1 t2 t3 t4 t5 t6 t7 ⟨G1, G2, G3, G4, G5⟩ := by
  have hB : Below w.heap.size wr (((wr.setCell ⟨w.heap.size, 0, none⟩ x).setCell ⟨w.heap.size, 1, none⟩ y).setCell ⟨w.heap.size, 2, none⟩ z) := (((Below.refl w.heap.size wr).setCell (p := ⟨w.heap.size, 0, none⟩) (Nat.le_refl w.heap.size) x).setCell (p := ⟨w.heap.size, 1, none⟩) (Nat.le_refl w.heap.size) y).setCell (p := ⟨w.heap.size, 2, none⟩) (Nat.le_refl w.heap.size) z
  have hk : ∀ g, g ≠ w.heap.size → (((wr.setCell ⟨w.heap.size, 0, none⟩ x).setCell ⟨w.heap.size, 1, none⟩ y).setCell ⟨w.heap.size, 2, none⟩ z).heap[g]? = wr.heap[g]? := fun g hg => by
    rw [Below.heap_setCell _ _ _ _ (show g ≠ w.heap.size from hg), Below.heap_setCell _ _ _ _ (show g ≠ w.heap.size from hg), Below.heap_setCell _ _ _ _ (show g ≠ w.heap.size from hg)]
  have hbn : b ≠ w.heap.size := fun e => by
    have h1 := h.book
    have h2 := h.res
    unfold Blk at h1 h2
    rw [e, h2] at h1
    cases h1
  refine ⟨h.res.set3 x y z, ((h.below0.setCell hsz _).setCell hsz _).setCell hsz _, fun i hi a1 a2 a3 a4 a5 => (hk i (by omega)).trans (h.off i hi a1 a2 a3 a4 a5), by have := hB.size; have := h.size; omega, ?_⟩
  obtain ⟨n1, -, x1⟩ := h.a1
  obtain ⟨n2, -, x2⟩ := h.a2
  obtain ⟨n3, -, x3⟩ := h.a3
  obtain ⟨n4, -, x4⟩ := h.a4
  obtain ⟨n5, -, x5⟩ := h.a5
  exact ⟨h.book.of (hk b hbn), ⟨_, x1.of_block (hk _ (blk_ne h.res x1).symm)⟩, ⟨_, x2.of_block (hk _ (blk_ne h.res x2).symm)⟩, ⟨_, x3.of_block (hk _ (blk_ne h.res x3).symm)⟩, ⟨_, x4.of_block (hk _ (blk_ne h.res x4).symm)⟩, ⟨_, x5.of_block (hk _ (blk_ne h.res x5).symm)⟩⟩
theorem OS.start (hb0 : Below w0.heap.size w0 w) (hc : Blk w c 68 #[v0, v1, v2, v3, v4, v5, v6, v7, .pointer (some ⟨b, 0, none⟩)])
    (hbk : Blk w b 66 #[t0, t1, t2, t3, t4, t5, t6, t7, .map (some m1), .map (some m2), .map (some m3), .map (some m4), .map (some m5)])
    (x1 : M1 w m1 0 (fun _ => none)) (x2 : M2 w m2 0 (fun _ => none)) (x3 : M3 w m3 0 (fun _ => none)) (x4 : M4 w m4 0 (fun _ => none)) (x5 : M4 w m5 0 (fun _ => none)) :
    OS w0 w c b m1 m2 m3 m4 m5 (w.heap.size + 1) v0 v1 v2 v3 v4 v5 v6 v7 t0 t1 t2 t3 t4 t5 t6 t7 0 (fun _ => none) (fun _ => none) (fun _ => none) (fun _ => none) (fun _ => none) (fun _ => none) ((w.alloc (.cells #[.int .i64 0, .int .i64 0, .int .i64 0] 40)).alloc (.map #[] 0)) := by
  have hB : Below w.heap.size w ((w.alloc (.cells #[.int .i64 0, .int .i64 0, .int .i64 0] 40)).alloc (.map #[] 0)) := ((Below.refl _ w).alloc (Nat.le_refl _) _).alloc (by simp) _
  refine ⟨below_trans hb0 hB, by simp, fun i hi _ _ _ _ _ => hB.block i hi, (Blk.new w _ _).alloc _, hc.below hB, hbk.below hB, MapV.belowN x1 hB, MapV.belowN x2 hB, MapV.belowN x3 hB, MapV.belowN x4 hB, MapV.belowN x5 hB, ⟨0, Nat.le_refl _, ?_⟩⟩
  have h := MapV.made Tryz.prog 9 Value.string Value.bool (w.alloc (.cells #[.int .i64 0, .int .i64 0, .int .i64 0] 40))
  simp only [World.size_alloc] at h
  exact h
end
theorem fnd_true {α K : Type} [DecidableEq K] {l : List α} {key : α → K} {k : Nat} {z : K} : (fnd l key (fun _ => true) k z).getD false = (l.take k).any fun y => decide (key y = z) := by
  rw [← fnd_isSome (val := fun _ => true)]
  unfold fnd
  cases (l.take k).find? fun y => decide (key y = z) <;> rfl
theorem fnd_cls {T : Tab} (h : scan markAt 3 0 T.marks = none) {k : Nat} {z : Int} : ((fnd T.marks (·.r) (·.c) k z).getD 0 != 0) = (T.marks.take k).any fun y => decide (y.r = z) := by
  rw [← fnd_isSome (key := fun y : MarkT => y.r) (val := fun y : MarkT => y.c)]
  unfold fnd
  cases hf : (T.marks.take k).find? fun y => decide (y.r = z) with
  | none => rfl
  | some m =>
    have hm := List.mem_of_mem_take (List.mem_of_find?_eq_some hf)
    obtain ⟨j, hj, rfl⟩ := List.mem_iff_getElem.1 hm
    have := scan_zero h j _ (List.getElem?_eq_getElem hj)
    unfold markAt at this
    have hc : (T.marks[j]).c ≠ 0 := by
      intro e
      rw [e] at this
      split at this
      · cases this
      · split at this
        · cases this
        · omega
    simp [hc]

end
end Go.Proofs.YtjmkdimbbacnfaaGreatDoor
