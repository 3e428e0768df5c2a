/- Tables: as data; as they lie in memory. guiseref6: Rune, low, set, Of, Whole, From: what they answer. Memory words: what stays owned; a row of structs. guiseref6: span, spans: what they answer. guiseref6: ScriptName, script: what they answer. -/
import Derived.Test.YtjmkdimbbacnfaaGreatDoorProg
import Derived.WalkKit
import Derived.LoopTactic
import Derived.WalkLawsBesides
import Derived.Outline
import Derived.Lib.Hide
import Derived.Below
import Derived.Laws.OwnMore
import Derived.OwnWalk
import Derived.WalkSmall
import Derived.DataElems
import Derived.Maps.AppendAt
import Derived.Deep.QuietTactic
import Derived.BigQuiet
import Derived.Lib.QuoteLoop
namespace Go.Proofs.YtjmkdimbbacnfaaGreatDoor
section
open Go.RowKit
set_option linter.unusedVariables false
structure SpanT where
  lo : Int
  hi : Int
  deriving DecidableEq
structure ScrT where
  name : ByteArray
  spans : List SpanT
structure MarkT where
  r : Int
  c : Int
  deriving DecidableEq
structure PairT where
  whole : Int
  base : Int
  mark : Int
  deriving DecidableEq
structure MapT where
  frm : Int
  to : ByteArray
structure Tab where
  scripts : List ScrT
  common : List SpanT
  marks : List MarkT
  pairs : List PairT
  folds : List MapT
  looks : List MapT
  drops : List SpanT
  allowed : List SpanT

def i32 (x : Int) : Prop := -2147483648 ≤ x ∧ x ≤ 2147483647
def i64 (x : Int) : Prop := -9223372036854775808 ≤ x ∧ x ≤ 9223372036854775807
def encSpan (s : SpanT) : List Value := [.int .i32 s.lo, .int .i32 s.hi]
def encMark (m : MarkT) : List Value := [.int .i32 m.r, .int .i64 m.c]
def encPair (p : PairT) : List Value := [.int .i32 p.whole, .int .i32 p.base, .int .i32 p.mark]
def encMap (m : MapT) : List Value := [.int .i32 m.frm, Value.string m.to]

/-- a slice of things of k cells -/
def ListAt (w : World) (v : Value) (k : Nat) (L : List (List Value)) : Prop :=
  ∃ A c, v = .slice A L.length c ∧ L.length ≤ 2097152 ∧ (0 < L.length → ∃ a : Addr, A = some a ∧ a.block < w.heap.size ∧ ∀ i x j u, L[i]? = some x → x[j]? = some u → w.cell? (a.add (i * k + j)) = some u)
theorem addr_block' (a : Addr) (j : Nat) : (a.add j).block = a.block := by unfold Addr.add; split <;> rfl
theorem addr_fld (a : Addr) (m j : Nat) : (⟨(a.add m).block, (a.add m).off + (j + 1), none⟩ : Addr) = a.add (m + (j + 1)) := by
  rw [← Addr.add_add]
  generalize a.add m = b
  unfold Addr.add
  simp
theorem Below.drwN {n : Nat} {w w' : World} (h : Below n w w') (q : Nat) : Below n w (w'.drewN q) := ⟨h.os, h.tape, h.output, h.size, h.block⟩
theorem any_of_get {α : Type} {l : List α} {p : α → Bool} {k : Nat} {m : α} (h : l[k]? = some m) (hp : p m = true) : l.any p = true := List.any_eq_true.2 ⟨m, List.mem_of_getElem? h, hp⟩
theorem ListAt.below {w w' : World} {v : Value} {k : Nat} {L : List (List Value)} (h : ListAt w v k L) (hb : Below w.heap.size w w') : ListAt w' v k L := by
  obtain ⟨A, c, h1, hn, h2⟩ := h
  refine ⟨A, c, h1, hn, fun hn => ?_⟩
  obtain ⟨a, ha, hl, hc⟩ := h2 hn
  exact ⟨a, ha, Nat.lt_of_lt_of_le hl hb.size, fun i x j u hi hj => (hb.cell (p := a.add (i * k + j)) (by rw [addr_block']; exact hl)).trans (hc i x j u hi hj)⟩

/-- a table in memory: its eight slices -/
structure TabAt (w : World) (v0 v1 v2 v3 v4 v5 v6 v7 : Value) (T : Tab) : Prop where
  scripts : ∃ scs : List Value, scs.length = T.scripts.length ∧ ListAt w v0 2 ((T.scripts.zip scs).map fun p => [Value.string p.1.name, p.2]) ∧ ∀ (i : Nat) x v, T.scripts[i]? = some x → scs[i]? = some v → ListAt w v 2 (x.spans.map encSpan)
  common : ListAt w v1 2 (T.common.map encSpan)
  marks : ListAt w v2 2 (T.marks.map encMark)
  pairs : ListAt w v3 3 (T.pairs.map encPair)
  folds : ListAt w v4 2 (T.folds.map encMap)
  looks : ListAt w v5 2 (T.looks.map encMap)
  drops : ListAt w v6 2 (T.drops.map encSpan)
  allowed : ListAt w v7 2 (T.allowed.map encSpan)
theorem TabAt.below {w w' : World} {v0 v1 v2 v3 v4 v5 v6 v7 : Value} {T : Tab} (h : TabAt w v0 v1 v2 v3 v4 v5 v6 v7 T) (hb : Below w.heap.size w w') : TabAt w' v0 v1 v2 v3 v4 v5 v6 v7 T := by
  obtain ⟨⟨scs, h1, h2, h3⟩, a1, a2, a3, a4, a5, a6, a7⟩ := h
  exact ⟨⟨scs, h1, h2.below hb, fun i x v hx hv => (h3 i x v hx hv).below hb⟩, a1.below hb, a2.below hb, a3.below hb, a4.below hb, a5.below hb, a6.below hb, a7.below hb⟩
/-- the numbers are of their kinds -/
structure TabOk (T : Tab) : Prop where
  scripts : ∀ s ∈ T.scripts, s.name.size ≤ 2097152 ∧ ∀ x ∈ s.spans, i32 x.lo ∧ i32 x.hi
  common : ∀ x ∈ T.common, i32 x.lo ∧ i32 x.hi
  marks : ∀ m ∈ T.marks, i32 m.r ∧ i64 m.c
  pairs : ∀ p ∈ T.pairs, i32 p.whole ∧ i32 p.base ∧ i32 p.mark
  folds : ∀ m ∈ T.folds, i32 m.frm ∧ m.to.size ≤ 2097152
  looks : ∀ m ∈ T.looks, i32 m.frm ∧ m.to.size ≤ 2097152
  drops : ∀ x ∈ T.drops, i32 x.lo ∧ i32 x.hi
  allowed : ∀ x ∈ T.allowed, i32 x.lo ∧ i32 x.hi

/-- is r a mark, by the rows -/
def markL (l : List MarkT) (r : Int) : Bool := l.any fun m => decide (m.r = r)
theorem any_take_succ {α : Type} (l : List α) (p : α → Bool) (i : Nat) (x : α) (h : l[i]? = some x) : (l.take (i + 1)).any p = ((l.take i).any p || p x) := by
  rw [List.take_add_one, h]
  simp

set_option maxRecDepth 100000 in
set_option maxHeartbeats 2000000 in
theorem ref_mark {w : World} {v0 v1 v2 v3 v4 v5 v6 v7 : Value} (l : List MarkT) (h : ListAt w v2 2 (l.map encMark)) (r : Int) :
    Calls Tryz.prog 81 #[.agg #[v0, v1, v2, v3, v4, v5, v6, v7], .int .i32 r] w fun e w' => e = .returned (.bool (markL l r)) ∧ Below w.heap.size w w' := by
  obtain ⟨A, c, rfl, hn, hc⟩ := h
  rw [List.length_map] at *
  obtain ⟨n, hln⟩ : ∃ n, l.length = n := ⟨_, rfl⟩
  rw [hln] at hn
  rw [hln]
  have Hc := Lib.hid hc
  have Hl := Lib.hid hln
  clear hc hln
  go_enter Tryz.func81, Tryz.ntmps81
  go_wp2_with fail
  go_loopw [5] (fun i wr => ∃ k q : Nat, k ≤ n ∧ i = .int .i64 (k : Int) ∧ (l.take k).any (fun m => decide (m.r = r)) = false ∧ wr = (w.alloc (.cells #[v0, v1, .slice A n c, v3, v4, v5, v6, v7] 28)).drewN q) (fun i _ => n - (intOf i).toNat)
  case atStart => exact ⟨0, 0, Nat.zero_le _, rfl, by simp, rfl⟩
  case round =>
    obtain ⟨k, q, hk, rfl, hany, rfl⟩ := hrel
    have Hany := Lib.hid hany
    clear hany
    by_cases hlt : k < n
    · obtain ⟨m, hm⟩ : ∃ m, l[k]? = some m := ⟨_, List.getElem?_eq_getElem (by rw [Hl.out]; exact hlt)⟩
      obtain ⟨a, rfl, hg, hcc⟩ := Hc.out (by rw [Hl.out]; omega)
      have b1 := (Below.refl w.heap.size w).alloc (Nat.le_refl _) (.cells #[v0, v1, .slice (some a) n c, v3, v4, v5, v6, v7] 28)
      have c0 := (b1.cell (p := a.add (k * 2)) (by rw [addr_block']; exact hg)).trans (hcc k (encMark m) 0 _ (by rw [List.getElem?_map, hm]; rfl) rfl)
      have Hs := Lib.hid (any_take_succ l (fun m => decide (m.r = r)) k m hm)
      have Hm : Hid (m.r = r → markL l r = true) := Lib.hid (fun h => any_of_get hm (by simpa using h))
      clear hcc b1 hm
      have k0 : (0 : Int) ≤ (k : Int) := by omega
      have k1 : (k : Int) < (n : Int) := by omega
      by_cases hr : m.r = r
      · have t1 : (m.r == r) = true := by simp [hr]
        go_wp2_with fail
        go_ret
        have hmk : markL l r = true := Hm.out hr
        exact ⟨by rw [hmk]; rfl, Below.drwN ((Below.refl _ w).alloc (Nat.le_refl _) _) _⟩
      · have t1 : (m.r == r) = false := by simp [hr]
        go_wp2_with fail
        go_roundw
        case rel =>
          refine ⟨k + 1, _, by omega, by go_num, ?_, rfl⟩
          rw [Hs.out, Hany.out]
          simp [hr]
        case measure => simp [intOf]; omega
    · obtain rfl : k = n := by omega
      go_wp2_with fail
      go_ret
      have hmk : markL l r = false := by
        have h := Hany.out
        rw [List.take_of_length_le (by rw [Hl.out]; exact Nat.le_refl _)] at h
        exact h
      exact ⟨by rw [hmk]; rfl, Below.drwN ((Below.refl _ w).alloc (Nat.le_refl _) _) _⟩

end
section
open Go.RowKit
set_option linter.unusedVariables false
def isRune (r : Int) : Bool := decide (0 ≤ r ∧ r ≤ 1114111 ∧ (r < 55296 ∨ 57343 < r))
def lowR (r : Int) : Bool := decide (r < 128 ∨ r = 65533)
def setR (r : Int) : Bool := decide (r < 32 ∨ r = 45 ∨ r = 46 ∨ r = 65533)
def inSpan (r : Int) (s : SpanT) : Bool := isRune r && decide (s.lo ≤ r ∧ r ≤ s.hi)
def ofL (r : Int) (l : List SpanT) : Bool := l.any (inSpan r)
/-- the place of the first, -1: none -/
def firstI {α : Type} (l : List α) (p : α → Bool) : Int := match l.findIdx? p with | some i => i | none => -1
theorem firstI_some {α : Type} {l : List α} {p : α → Bool} {k : Nat} {m : α} (h : l[k]? = some m) (hp : p m = true) (hb : (l.take k).any p = false) : firstI l p = k := by
  obtain ⟨hlt, hk⟩ := List.getElem?_eq_some_iff.1 h
  have : l.findIdx? p = some k := by
    rw [List.findIdx?_eq_some_iff_getElem]
    refine ⟨hlt, by rw [hk]; exact hp, fun j hj => ?_⟩
    have := List.any_eq_false.1 hb (l[j]'(by omega)) (by rw [List.mem_take_iff_getElem]; exact ⟨j, by omega, rfl⟩)
    exact this
  unfold firstI; rw [this]
theorem firstI_none {α : Type} {l : List α} {p : α → Bool} (hb : l.any p = false) : firstI l p = -1 := by
  have : l.findIdx? p = none := by
    rw [List.findIdx?_eq_none_iff]
    intro x hx
    simpa using List.any_eq_false.1 hb x hx
  unfold firstI; rw [this]
theorem take_all {α : Type} {l : List α} {p : α → Bool} {n : Nat} (h : (l.take n).any p = false) (hn : l.length = n) : l.any p = false := by
  rwa [List.take_of_length_le (by omega)] at h

set_option maxHeartbeats 1000000 in
theorem ref_Rune (r : Int) (w : World) :
    Calls Tryz.prog 78 #[.int .i32 r] w fun e w' => e = .returned (.bool (isRune r)) ∧ w = w' := by
  go_enter Tryz.func78, Tryz.ntmps78
  by_cases h1 : 0 ≤ r
  · by_cases h2 : r ≤ 1114111
    · by_cases h3 : r < 55296
      · go_wp2
        go_ret
        exact ⟨by rw [show isRune r = true by simp [isRune]; omega]; rfl, rfl⟩
      · by_cases h4 : 57343 < r
        · go_wp2
          go_ret
          exact ⟨by rw [show isRune r = true by simp [isRune]; omega]; rfl, rfl⟩
        · go_wp2
          go_ret
          exact ⟨by rw [show isRune r = false by simp [isRune]; omega]; rfl, rfl⟩
    · go_wp2
      go_ret
      exact ⟨by rw [show isRune r = false by simp [isRune]; omega]; rfl, rfl⟩
  · go_wp2
    go_ret
    exact ⟨by rw [show isRune r = false by simp [isRune]; omega]; rfl, rfl⟩
set_option maxHeartbeats 1000000 in
theorem ref_low (r : Int) (w : World) :
    Calls Tryz.prog 125 #[.int .i32 r] w fun e w' => e = .returned (.bool (lowR r)) ∧ w = w' := by
  go_enter Tryz.func125, Tryz.ntmps125
  by_cases h1 : r < 128
  · go_wp2
    go_ret
    exact ⟨by rw [show lowR r = true by simp [lowR]; omega]; rfl, rfl⟩
  · by_cases h2 : r = 65533
    · subst h2
      go_wp2
      go_ret
      exact ⟨rfl, rfl⟩
    · have t1 : (r == 65533) = false := by simpa using h2
      go_wp2
      go_ret
      exact ⟨by rw [show lowR r = false by simp [lowR]; omega]; rfl, rfl⟩
set_option maxHeartbeats 1000000 in
theorem ref_set (r : Int) (w : World) :
    Calls Tryz.prog 127 #[.int .i32 r] w fun e w' => e = .returned (.bool (setR r)) ∧ w = w' := by
  go_enter Tryz.func127, Tryz.ntmps127
  by_cases h1 : r < 32
  · go_wp2
    go_ret
    exact ⟨by rw [show setR r = true by simp [setR]; omega]; rfl, rfl⟩
  · by_cases h2 : r = 45
    · subst h2
      go_wp2
      go_ret
      exact ⟨rfl, rfl⟩
    · have t1 : (r == 45) = false := by simpa using h2
      by_cases h3 : r = 46
      · subst h3
        go_wp2
        go_ret
        exact ⟨rfl, rfl⟩
      · have t2 : (r == 46) = false := by simpa using h3
        by_cases h4 : r = 65533
        · subst h4
          go_wp2
          go_ret
          exact ⟨rfl, rfl⟩
        · have t3 : (r == 65533) = false := by simpa using h4
          go_wp2
          go_ret
          exact ⟨by rw [show setR r = false by simp [setR]; omega]; rfl, rfl⟩

set_option maxRecDepth 100000 in
set_option maxHeartbeats 2000000 in
theorem ref_Of {w : World} {v : Value} (l : List SpanT) (h : ListAt w v 2 (l.map encSpan)) (r : Int) :
    Calls Tryz.prog 83 #[.int .i32 r, v] w fun e w' => e = .returned (.bool (ofL r l)) ∧ ∃ q, w.drewN q = w' := by
  obtain ⟨A, c, rfl, hn, hc⟩ := h
  rw [List.length_map] at *
  obtain ⟨n, hln⟩ : ∃ n, l.length = n := ⟨_, rfl⟩
  rw [hln] at hn
  rw [hln]
  have Hc := Lib.hid hc
  have Hl := Lib.hid hln
  clear hc hln
  have HR := Lib.hid (fun w => ref_Rune r w)
  go_enter Tryz.func83, Tryz.ntmps83
  go_wp2_with fail
  go_loopw [5] (fun i wr => ∃ k q : Nat, k ≤ n ∧ i = .int .i64 (k : Int) ∧ (l.take k).any (inSpan r) = false ∧ wr = w.drewN q) (fun i _ => n - (intOf i).toNat)
  case atStart => exact ⟨0, 0, Nat.zero_le _, rfl, by simp, rfl⟩
  case round =>
    obtain ⟨k, q, hk, rfl, hany, rfl⟩ := hrel
    have Hany := Lib.hid hany
    clear hany
    by_cases hlt : k < n
    · obtain ⟨m, hm⟩ : ∃ m, l[k]? = some m := ⟨_, List.getElem?_eq_getElem (by rw [Hl.out]; exact hlt)⟩
      obtain ⟨a, rfl, hg, hcc⟩ := Hc.out (by rw [Hl.out]; omega)
      have c0 : w.cell? (a.add (k * 2)) = some (.int .i32 m.lo) := hcc k (encSpan m) 0 _ (by rw [List.getElem?_map, hm]; rfl) rfl
      have c1 : w.cell? (a.add (k * 2 + 1)) = some (.int .i32 m.hi) := hcc k (encSpan m) 1 _ (by rw [List.getElem?_map, hm]; rfl) rfl
      have c1' : w.cell? ⟨(a.add (k * 2)).block, (a.add (k * 2)).off + 1, none⟩ = some (.int .i32 m.hi) := by rw [addr_fld a (k * 2) 0]; exact c1
      have Hs := Lib.hid (any_take_succ l (inSpan r) k m hm)
      have Hm : Hid (inSpan r m = true → ofL r l = true) := Lib.hid (fun h => any_of_get hm h)
      have Hi : Hid (inSpan r m = (isRune r && decide (m.lo ≤ r ∧ r ≤ m.hi))) := Lib.hid rfl
      clear hcc hm
      have k0 : (0 : Int) ≤ (k : Int) := by omega
      have k1 : (k : Int) < (n : Int) := by omega
      cases hru : isRune r with
      | false =>
        rw [hru] at HR Hi
        go_wp2_with (go_at_call 78; refine (HR.out _).mono ?_; rintro e w' ⟨rfl, rfl⟩)
        go_roundw
        case rel => exact ⟨k + 1, _, by omega, by go_num, by rw [Hs.out, Hany.out, Hi.out]; rfl, rfl⟩
        case measure => simp [intOf]; omega
      | true =>
        rw [hru] at HR Hi
        by_cases h1 : m.lo ≤ r
        · by_cases h2 : r ≤ m.hi
          · go_wp2_with (go_at_call 78; refine (HR.out _).mono ?_; rintro e w' ⟨rfl, rfl⟩)
            go_ret
            exact ⟨by rw [Hm.out (by rw [Hi.out]; simp [h1, h2])]; rfl, _, rfl⟩
          · go_wp2_with (go_at_call 78; refine (HR.out _).mono ?_; rintro e w' ⟨rfl, rfl⟩)
            go_roundw
            case rel => exact ⟨k + 1, _, by omega, by go_num, by rw [Hs.out, Hany.out, Hi.out, show decide (m.lo ≤ r ∧ r ≤ m.hi) = false by rw [decide_eq_false_iff_not]; omega]; rfl, rfl⟩
            case measure => simp [intOf]; omega
        · go_wp2_with (go_at_call 78; refine (HR.out _).mono ?_; rintro e w' ⟨rfl, rfl⟩)
          go_roundw
          case rel => exact ⟨k + 1, _, by omega, by go_num, by rw [Hs.out, Hany.out, Hi.out, show decide (m.lo ≤ r ∧ r ≤ m.hi) = false by rw [decide_eq_false_iff_not]; omega]; rfl, rfl⟩
          case measure => simp [intOf]; omega
    · obtain rfl : k = n := by omega
      go_wp2_with fail
      go_ret
      exact ⟨by rw [show ofL r l = false from take_all Hany.out Hl.out]; rfl, _, rfl⟩

set_option maxRecDepth 100000 in
set_option maxHeartbeats 2000000 in
theorem ref_Whole {w : World} {v0 v1 v2 v3 v4 v5 v6 v7 : Value} (l : List PairT) (h : ListAt w v3 3 (l.map encPair)) (r : Int) :
    Calls Tryz.prog 84 #[.agg #[v0, v1, v2, v3, v4, v5, v6, v7], .int .i32 r] w fun e w' => e = .returned (.int .i64 (firstI l fun p => decide (p.whole = r))) ∧ Below w.heap.size w w' := by
  obtain ⟨A, c, rfl, hn, hc⟩ := h
  rw [List.length_map] at *
  obtain ⟨n, hln⟩ : ∃ n, l.length = n := ⟨_, rfl⟩
  rw [hln] at hn
  rw [hln]
  have Hc := Lib.hid hc
  have Hl := Lib.hid hln
  clear hc hln
  go_enter Tryz.func84, Tryz.ntmps84
  go_wp2_with fail
  go_loopw [5] (fun i wr => ∃ k q : Nat, k ≤ n ∧ i = .int .i64 (k : Int) ∧ (l.take k).any (fun m => decide (m.whole = r)) = false ∧ wr = (w.alloc (.cells #[v0, v1, v2, .slice A n c, v4, v5, v6, v7] 28)).drewN q) (fun i _ => n - (intOf i).toNat)
  case atStart => exact ⟨0, 0, Nat.zero_le _, rfl, by simp, rfl⟩
  case round =>
    obtain ⟨k, q, hk, rfl, hany, rfl⟩ := hrel
    have Hany := Lib.hid hany
    clear hany
    by_cases hlt : k < n
    · obtain ⟨m, hm⟩ : ∃ m, l[k]? = some m := ⟨_, List.getElem?_eq_getElem (by rw [Hl.out]; exact hlt)⟩
      obtain ⟨a, rfl, hg, hcc⟩ := Hc.out (by rw [Hl.out]; omega)
      have b1 := (Below.refl w.heap.size w).alloc (Nat.le_refl _) (.cells #[v0, v1, v2, .slice (some a) n c, v4, v5, v6, v7] 28)
      have c0 := (b1.cell (p := a.add (k * 3)) (by rw [addr_block']; exact hg)).trans (hcc k (encPair m) 0 _ (by rw [List.getElem?_map, hm]; rfl) rfl)
      have Hs := Lib.hid (any_take_succ l (fun m => decide (m.whole = r)) k m hm)
      have Hm : Hid (m.whole = r → firstI l (fun p => decide (p.whole = r)) = k) := Lib.hid (fun h => firstI_some hm (by simpa using h) Hany.out)
      clear hcc b1 hm
      have k0 : (0 : Int) ≤ (k : Int) := by omega
      have k1 : (k : Int) < (n : Int) := by omega
      by_cases hr : m.whole = r
      · have t1 : (m.whole == r) = true := by simp [hr]
        go_wp2_with fail
        go_ret
        exact ⟨by rw [Hm.out hr]; rfl, Below.drwN ((Below.refl _ w).alloc (Nat.le_refl _) _) _⟩
      · have t1 : (m.whole == r) = false := by simp [hr]
        go_wp2_with fail
        go_roundw
        case rel =>
          refine ⟨k + 1, _, by omega, by go_num, ?_, rfl⟩
          rw [Hs.out, Hany.out]
          simp [hr]
        case measure => simp [intOf]; omega
    · obtain rfl : k = n := by omega
      go_wp2_with fail
      go_ret
      exact ⟨by rw [firstI_none (take_all Hany.out Hl.out)]; rfl, Below.drwN ((Below.refl _ w).alloc (Nat.le_refl _) _) _⟩

set_option maxRecDepth 100000 in
set_option maxHeartbeats 2000000 in
theorem ref_From {w : World} {v : Value} (l : List MapT) (h : ListAt w v 2 (l.map encMap)) (r : Int) :
    Calls Tryz.prog 80 #[v, .int .i32 r] w fun e w' => e = .returned (.int .i64 (firstI l fun p => decide (p.frm = r))) ∧ ∃ q, w.drewN q = w' := by
  obtain ⟨A, c, rfl, hn, hc⟩ := h
  rw [List.length_map] at *
  obtain ⟨n, hln⟩ : ∃ n, l.length = n := ⟨_, rfl⟩
  rw [hln] at hn
  rw [hln]
  have Hc := Lib.hid hc
  have Hl := Lib.hid hln
  clear hc hln
  go_enter Tryz.func80, Tryz.ntmps80
  go_wp2_with fail
  go_loopw [5] (fun i wr => ∃ k q : Nat, k ≤ n ∧ i = .int .i64 (k : Int) ∧ (l.take k).any (fun m => decide (m.frm = r)) = false ∧ wr = w.drewN q) (fun i _ => n - (intOf i).toNat)
  case atStart => exact ⟨0, 0, Nat.zero_le _, rfl, by simp, rfl⟩
  case round =>
    obtain ⟨k, q, hk, rfl, hany, rfl⟩ := hrel
    have Hany := Lib.hid hany
    clear hany
    by_cases hlt : k < n
    · obtain ⟨m, hm⟩ : ∃ m, l[k]? = some m := ⟨_, List.getElem?_eq_getElem (by rw [Hl.out]; exact hlt)⟩
      obtain ⟨a, rfl, hg, hcc⟩ := Hc.out (by rw [Hl.out]; omega)
      have c0 : w.cell? (a.add (k * 2)) = some (.int .i32 m.frm) := hcc k (encMap m) 0 _ (by rw [List.getElem?_map, hm]; rfl) rfl
      have Hs := Lib.hid (any_take_succ l (fun m => decide (m.frm = r)) k m hm)
      have Hm : Hid (m.frm = r → firstI l (fun p => decide (p.frm = r)) = k) := Lib.hid (fun h => firstI_some hm (by simpa using h) Hany.out)
      clear hcc hm
      have k0 : (0 : Int) ≤ (k : Int) := by omega
      have k1 : (k : Int) < (n : Int) := by omega
      by_cases hr : m.frm = r
      · have t1 : (m.frm == r) = true := by simp [hr]
        go_wp2_with fail
        go_ret
        exact ⟨by rw [Hm.out hr]; rfl, _, rfl⟩
      · have t1 : (m.frm == r) = false := by simp [hr]
        go_wp2_with fail
        go_roundw
        case rel =>
          refine ⟨k + 1, _, by omega, by go_num, ?_, rfl⟩
          rw [Hs.out, Hany.out]
          simp [hr]
        case measure => simp [intOf]; omega
    · obtain rfl : k = n := by omega
      go_wp2_with fail
      go_ret
      exact ⟨by rw [firstI_none (take_all Hany.out Hl.out)]; rfl, _, rfl⟩

end
section
open Go.RowKit
section
variable {w w' : World} {base : Nat} {e : TypeId} {size : Nat} {v : Value} {n : Nat} {xs : List Value}
/-- the shape of such a slice -/
theorem own_form (h : w.ownsRow base e size v n xs) : ∃ A c, v = .slice A n c ∧ (0 < n → ∃ g, A = some ⟨g, 0, none⟩ ∧ base ≤ g ∧ g < w.heap.size ∧ ∀ j, j < n * size → w.cell? ⟨g, j, none⟩ = xs[j]?) := by
  rcases h.2 with ⟨rfl, rfl⟩ | ⟨g, cap, cur, rfl, hg, hh, _⟩
  · exact ⟨none, 0, rfl, fun h => by omega⟩
  · exact ⟨_, cap, rfl, fun _ => ⟨g, rfl, hg, (Array.getElem?_eq_some_iff.1 hh).1, fun j hj => h.cellAt j hj⟩⟩
end
/-- the cells of a new block -/
theorem cells_new (w : World) (xs : List Value) (t : TypeId) (b : Nat) (hb : b = w.heap.size) : ∀ j u, xs[j]? = some u → (w.alloc (.cells xs.toArray t)).cell? ((⟨b, 0, none⟩ : Addr).add j) = some u := by
  intro j u hj
  subst hb
  have hadd : (⟨w.heap.size, 0, none⟩ : Addr).add j = ⟨w.heap.size, j, none⟩ := by unfold Addr.add; split <;> simp_all
  rw [hadd, cell_of_row _ w.heap.size j xs.toArray t (0, 0) (heap_alloc_new w _)]
  simpa using hj

/-- a block that is known whole -/
def Blk (w : World) (g : Nat) (t : TypeId) (cs : Array Value) : Prop := w.heap[g]? = some (.cells cs t (0, 0))
section
variable {w w' : World} {g : Nat} {t : TypeId} {cs : Array Value}
theorem Blk.lt (h : Blk w g t cs) : g < w.heap.size := (Array.getElem?_eq_some_iff.1 h).1
theorem Blk.cell (h : Blk w g t cs) (i : Nat) : w.cell? ⟨g, i, none⟩ = cs[i]? := cell_of_row w g i cs t (0, 0) h
theorem Blk.frozen (h : Blk w g t cs) (i : Nat) : w.frozen? ⟨g, i, none⟩ = false := by
  unfold Blk at h
  simp [World.frozen?, h]
theorem Blk.new (w : World) (t : TypeId) (cs : Array Value) : Blk (w.alloc (.cells cs t)) w.heap.size t cs := heap_alloc_new w _
theorem Blk.of (h : Blk w g t cs) (hb : w'.heap[g]? = w.heap[g]?) : Blk w' g t cs := hb.trans h
theorem Blk.alloc (h : Blk w g t cs) (o : Obj) : Blk (w.alloc o) g t cs := h.of (Below.heap_alloc w o g h.lt)
theorem Blk.set_ (h : Blk w g t cs) (i : Nat) (u : Value) : Blk (w.setCell ⟨g, i, none⟩ u) g t (cs.setIfInBounds i u) := by
  unfold Blk at h ⊢
  simp [World.setCell, Array.getElem?_modify, h]
theorem Blk.below (h : Blk w g t cs) (hb : Below w.heap.size w w') : Blk w' g t cs := h.of (hb.block g h.lt)
end
section
variable {w w' : World} {base : Nat} {e : TypeId} {size : Nat} {v : Value} {n : Nat} {xs : List Value}
end
end
section
open Go.RowKit
set_option linter.unusedVariables false
/-- the first row that is refused: why, the list, the row -/
def scan {α : Type} (f : Nat → α → Int) (list : Int) : Nat → List α → Option (Int × Int × Int)
  | _, [] => none
  | i, x :: r => if f i x ≠ 0 then some (f i x, list, (i : Int)) else scan f list (i + 1) r
/-- none of the first k rows is refused -/
def NoneTo {α : Type} (f : Nat → α → Int) (l : List α) (k : Nat) : Prop := ∀ j x, j < k → l[j]? = some x → f j x = 0
theorem NoneTo.zero {α : Type} (f : Nat → α → Int) (l : List α) : NoneTo f l 0 := fun j x h => absurd h (Nat.not_lt_zero _)
theorem NoneTo.succ {α : Type} {f : Nat → α → Int} {l : List α} {k : Nat} {m : α} (h : NoneTo f l k) (hm : l[k]? = some m) (h0 : f k m = 0) : NoneTo f l (k + 1) := fun j x hj hx => by
  by_cases e : j = k
  · subst e; rw [hm] at hx; cases hx; exact h0
  · exact h j x (by omega) hx
theorem scan_some {α : Type} {f : Nat → α → Int} {list : Int} : ∀ {l : List α} {s k : Nat} {m : α}, (∀ j x, j < k → l[j]? = some x → f (s + j) x = 0) → l[k]? = some m → f (s + k) m ≠ 0 → scan f list s l = some (f (s + k) m, list, ((s + k : Nat) : Int))
  | [], s, k, m, _, hm, _ => by simp at hm
  | x :: r, s, 0, m, _, hm, h0 => by
    simp at hm
    subst hm
    simp only [scan, Nat.add_zero] at *
    rw [if_pos h0]
  | x :: r, s, k + 1, m, h, hm, h0 => by
    have hx := h 0 x (by omega) rfl
    simp only [Nat.add_zero] at hx
    simp only [scan]
    rw [if_neg (by rw [hx]; simp)]
    rw [scan_some (s := s + 1) (k := k) (m := m) (fun j y hj hy => by have := h (j + 1) y (by omega) hy; rw [show s + 1 + j = s + (j + 1) by omega]; exact this) (by simpa using hm) (by rw [show s + 1 + k = s + (k + 1) by omega]; exact h0)]
    rw [show s + 1 + k = s + (k + 1) by omega]
theorem NoneTo.found {α : Type} {f : Nat → α → Int} {l : List α} {k : Nat} {m : α} (h : NoneTo f l k) (hm : l[k]? = some m) (h0 : f k m ≠ 0) (list : Int) : scan f list 0 l = some (f k m, list, (k : Int)) := by
  have := scan_some (f := f) (list := list) (s := 0) (fun j x hj hx => by rw [Nat.zero_add]; exact h j x hj hx) hm (by rw [Nat.zero_add]; exact h0)
  simpa using this
theorem scan_none {α : Type} {f : Nat → α → Int} {list : Int} : ∀ {l : List α} {s : Nat}, (∀ j x, l[j]? = some x → f (s + j) x = 0) → scan f list s l = none
  | [], _, _ => rfl
  | x :: r, s, h => by
    have hx := h 0 x rfl
    simp only [Nat.add_zero] at hx
    simp only [scan]
    rw [if_neg (by rw [hx]; simp)]
    exact scan_none (fun j y hy => by have := h (j + 1) y hy; rw [show s + 1 + j = s + (j + 1) by omega]; exact this)
theorem NoneTo.all {α : Type} {f : Nat → α → Int} {l : List α} (h : NoneTo f l l.length) (list : Int) : scan f list 0 l = none :=
  scan_none (fun j x hx => by rw [Nat.zero_add]; exact h j x (List.getElem?_eq_some_iff.1 hx).1 hx)
/-- what is wrong, as a value -/
def wrongV : Option (Int × Int × Int) → Value
  | none => .agg #[.int .i64 0, .int .i64 0, .int .i64 0]
  | some (a, b, c) => .agg #[.int .i64 a, .int .i64 b, .int .i64 c]

/-- does a span begin before the one ahead of it ends -/
def prevBad (l : List SpanT) (i : Nat) (m : SpanT) : Bool := match l[i - 1]? with | some p => decide (m.lo ≤ p.hi) | none => false
/-- a span's form, behind another one -/
def spanAt (l : List SpanT) (i : Nat) (m : SpanT) : Int :=
  if isRune m.lo = false ∨ isRune m.hi = false then 12 else if m.hi < m.lo then 11 else if 0 < i ∧ prevBad l i m = true then 13 else 0
theorem spanAt_12 {l : List SpanT} {k : Nat} {m : SpanT} (h : isRune m.lo = false ∨ isRune m.hi = false) : spanAt l k m = 12 := by unfold spanAt; rw [if_pos h]
section
variable {l : List SpanT} {k : Nat} {m : SpanT} (hlo : isRune m.lo = true) (hhi : isRune m.hi = true)
include hlo hhi
theorem spanAt_11 (h : m.hi < m.lo) : spanAt l k m = 11 := by unfold spanAt; rw [if_neg (by simp [hlo, hhi]), if_pos h]
theorem spanAt_13 (h1 : ¬ m.hi < m.lo) (h2 : 0 < k) {p : SpanT} (hp : l[k - 1]? = some p) (h3 : m.lo ≤ p.hi) : spanAt l k m = 13 := by
  unfold spanAt; rw [if_neg (by simp [hlo, hhi]), if_neg h1, if_pos ⟨h2, by unfold prevBad; rw [hp]; simpa using h3⟩]
theorem spanAt_0 (h1 : ¬ m.hi < m.lo) (h2 : 0 < k → ∀ p, l[k - 1]? = some p → ¬ m.lo ≤ p.hi) : spanAt l k m = 0 := by
  unfold spanAt; rw [if_neg (by simp [hlo, hhi]), if_neg h1, if_neg]
  rintro ⟨a, h3⟩
  unfold prevBad at h3
  cases hp : l[k - 1]? with
  | none => rw [hp] at h3; cases h3
  | some p => rw [hp] at h3; exact h2 a p hp (by simpa using h3)
end
set_option maxRecDepth 100000 in
set_option maxHeartbeats 2000000 in
theorem ref_span {w : World} {v : Value} (l : List SpanT) (h : ListAt w v 2 (l.map encSpan)) (k : Nat) (m : SpanT) (hm : l[k]? = some m) :
    Calls Tryz.prog 124 #[v, .int .i64 (k : Int)] w fun e w' => e = .returned (.int .i64 (spanAt l k m)) ∧ Below w.heap.size w w' := by
  obtain ⟨A, c, rfl, hn, hc⟩ := h
  rw [List.length_map] at *
  obtain ⟨n, hln⟩ : ∃ n, l.length = n := ⟨_, rfl⟩
  have hlt : k < n := by rw [← hln]; exact (List.getElem?_eq_some_iff.1 hm).1
  obtain ⟨a, rfl, hg, hcc⟩ := hc (by rw [hln]; omega)
  have c0 : w.cell? (a.add (k * 2)) = some (.int .i32 m.lo) := hcc k (encSpan m) 0 _ (by rw [List.getElem?_map, hm]; rfl) rfl
  have c1 : w.cell? ⟨(a.add (k * 2)).block, (a.add (k * 2)).off + 1, none⟩ = some (.int .i32 m.hi) := by rw [addr_fld a (k * 2) 0]; exact hcc k (encSpan m) 1 _ (by rw [List.getElem?_map, hm]; rfl) rfl
  rw [hln] at hn
  rw [hln]
  have HR := Lib.hid (fun r w => ref_Rune r w)
  have k0 : (0 : Int) ≤ (k : Int) := by omega
  have k1 : (k : Int) < (n : Int) := by omega
  go_enter Tryz.func124, Tryz.ntmps124
  cases hlo : isRune m.lo with
  | false =>
    have R1 : Hid (∀ w, Calls Tryz.prog 78 #[.int .i32 m.lo] w fun e w' => e = .returned (.bool false) ∧ w = w') := Lib.hid (fun w => by have h := HR.out m.lo w; rw [hlo] at h; exact h)
    go_wp2_with (go_at_call 78; refine (R1.out _).mono ?_; rintro e w' ⟨rfl, rfl⟩)
    go_ret
    exact ⟨by rw [spanAt_12 (.inl hlo)]; rfl, ⟨rfl, rfl, rfl, Nat.le_refl _, fun _ _ => rfl⟩⟩
  | true =>
    have R1 : Hid (∀ w, Calls Tryz.prog 78 #[.int .i32 m.lo] w fun e w' => e = .returned (.bool true) ∧ w = w') := Lib.hid (fun w => by have h := HR.out m.lo w; rw [hlo] at h; exact h)
    cases hhi : isRune m.hi with
    | false =>
      have R2 : Hid (∀ w, Calls Tryz.prog 78 #[.int .i32 m.hi] w fun e w' => e = .returned (.bool false) ∧ w = w') := Lib.hid (fun w => by have h := HR.out m.hi w; rw [hhi] at h; exact h)
      go_wp2_with (go_at_call 78; first | (refine (R1.out _).mono ?_; clear R1; rintro e w' ⟨rfl, rfl⟩) | (refine (R2.out _).mono ?_; rintro e w' ⟨rfl, rfl⟩))
      go_ret
      exact ⟨by rw [spanAt_12 (.inr hhi)]; rfl, ⟨rfl, rfl, rfl, Nat.le_refl _, fun _ _ => rfl⟩⟩
    | true =>
      have R2 : Hid (∀ w, Calls Tryz.prog 78 #[.int .i32 m.hi] w fun e w' => e = .returned (.bool true) ∧ w = w') := Lib.hid (fun w => by have h := HR.out m.hi w; rw [hhi] at h; exact h)
      go_wp2_with (go_at_call 78; first | (refine (R1.out _).mono ?_; clear R1; rintro e w' ⟨rfl, rfl⟩) | (refine (R2.out _).mono ?_; rintro e w' ⟨rfl, rfl⟩))
      by_cases h1 : m.hi < m.lo
      · go_quiet (fail)
        go_wp2_with fail
        go_ret
        exact ⟨by rw [spanAt_11 hlo hhi h1]; rfl, ⟨rfl, rfl, rfl, Nat.le_refl _, fun _ _ => rfl⟩⟩
      · by_cases h2 : 0 < k
        · obtain ⟨p, hp⟩ : ∃ p, l[k - 1]? = some p := ⟨_, List.getElem?_eq_getElem (by omega)⟩
          obtain ⟨j, hj⟩ : ∃ j, k - 1 = j := ⟨_, rfl⟩
          obtain ⟨a', ea, _, hcc2⟩ := hc (by rw [hln]; omega)
          cases ea
          rw [hj] at hp
          have d1 : w.cell? ⟨(a.add (j * 2)).block, (a.add (j * 2)).off + 1, none⟩ = some (.int .i32 p.hi) := by rw [addr_fld a (j * 2) 0]; exact hcc2 j (encSpan p) 1 _ (by rw [List.getElem?_map, hp]; rfl) rfl
          have e1 : (k : Int) - 1 = (j : Int) := by omega
          have j0 : (0 : Int) ≤ (j : Int) := by omega
          have j1 : (j : Int) < (n : Int) := by omega
          have g0 : (0 : Int) < (k : Int) := by omega
          have Hp := Lib.hid hp
          have Hj := Lib.hid hj
          clear hcc2 hc hp hj hm hcc
          by_cases h3 : m.lo ≤ p.hi
          · go_quiet (fail)
            go_wp2_with fail
            go_quiet (fail)
            go_wp2_with fail
            go_ret
            exact ⟨by rw [spanAt_13 hlo hhi (by omega) h2 (by rw [Hj.out]; exact Hp.out) h3]; rfl, ⟨rfl, rfl, rfl, Nat.le_refl _, fun _ _ => rfl⟩⟩
          · go_quiet (fail)
            go_wp2_with fail
            go_quiet (fail)
            go_wp2_with fail
            go_ret
            exact ⟨by rw [spanAt_0 hlo hhi (by omega) (fun _ q hq => by rw [Hj.out, Hp.out] at hq; cases hq; omega)]; rfl, ⟨rfl, rfl, rfl, Nat.le_refl _, fun _ _ => rfl⟩⟩
        · have g0 : ¬ (0 : Int) < (k : Int) := by omega
          clear hc hm hcc
          go_quiet (fail)
          go_wp2_with fail
          go_quiet (fail)
          go_wp2_with fail
          go_ret
          exact ⟨by rw [spanAt_0 hlo hhi (by omega) (fun h => absurd h h2)]; rfl, ⟨rfl, rfl, rfl, Nat.le_refl _, fun _ _ => rfl⟩⟩

/-- the forms of a list of spans -/
def spansW (l : List SpanT) (list : Int) : Option (Int × Int × Int) := scan (spanAt l) list 0 l
theorem below_trans {w X Y : World} (h : Below w.heap.size w X) (k : Below X.heap.size X Y) : Below w.heap.size w Y := h.trans (k.mono h.size)

theorem wrong_facts {W : World} {g : Nat} {t : TypeId} {a b c : Value} (h : Blk W g t #[a, b, c]) : W.cell? ⟨g, 0, none⟩ = some a ∧ W.cell? ⟨g, 1, none⟩ = some b ∧ W.cell? ⟨g, 2, none⟩ = some c ∧ W.frozen? ⟨g, 0, none⟩ = false ∧ W.frozen? ⟨g, 1, none⟩ = false ∧ W.frozen? ⟨g, 2, none⟩ = false :=
  ⟨h.cell 0, h.cell 1, h.cell 2, h.frozen 0, h.frozen 1, h.frozen 2⟩

theorem Blk.set3 {W : World} {g : Nat} {t : TypeId} {x y z : Value} (h : Blk W g t #[x, y, z]) (a b c : Value) : Blk (((W.setCell ⟨g, 0, none⟩ a).setCell ⟨g, 1, none⟩ b).setCell ⟨g, 2, none⟩ c) g t #[a, b, c] := by
  have h3 := ((h.set_ 0 a).set_ 1 b).set_ 2 c
  simpa using h3
theorem below_set3 {w W : World} (h : Below w.heap.size w W) (a b c : Value) : Below w.heap.size w (((W.setCell ⟨w.heap.size, 0, none⟩ a).setCell ⟨w.heap.size, 1, none⟩ b).setCell ⟨w.heap.size, 2, none⟩ c) :=
  ((h.setCell (Nat.le_refl _) _).setCell (Nat.le_refl _) _).setCell (Nat.le_refl _) _

set_option maxRecDepth 100000 in
set_option maxHeartbeats 2000000 in
theorem ref_spans {w : World} {v : Value} (l : List SpanT) (h : ListAt w v 2 (l.map encSpan)) (list : Int) :
    Calls Tryz.prog 77 #[v, .int .i64 list] w fun e w' => e = .returned (wrongV (spansW l list)) ∧ Below w.heap.size w w' := by
  have hl := h
  obtain ⟨A, c, rfl, hn, _⟩ := h
  rw [List.length_map] at *
  obtain ⟨n, hln⟩ : ∃ n, l.length = n := ⟨_, rfl⟩
  rw [hln] at hn hl
  rw [hln]
  have Hl := Lib.hid hln
  have HL := Lib.hid hl
  clear hln hl
  go_enter Tryz.func77, Tryz.ntmps77
  go_wp2_with fail
  go_loopw [5, 6] (fun i _ wr => ∃ k : Nat, k ≤ n ∧ i = .int .i64 (k : Int) ∧ NoneTo (spanAt l) l k ∧ Below w.heap.size w wr ∧ Blk wr w.heap.size 40 #[.int .i64 0, .int .i64 0, .int .i64 0]) (fun i _ _ => n - (intOf i).toNat)
  case atStart => exact ⟨0, Nat.zero_le _, rfl, NoneTo.zero _ _, (Below.refl _ w).alloc (Nat.le_refl _) _, Blk.new w _ _⟩
  case round =>
    obtain ⟨k, hk, rfl, hno, hb, hblk⟩ := hrel
    have Hno := Lib.hid hno
    have Hb := Lib.hid hb
    have Hk := Lib.hid hblk
    clear hno hb hblk
    by_cases hlt : k < n
    · obtain ⟨m, hm⟩ : ∃ m, l[k]? = some m := ⟨_, List.getElem?_eq_getElem (by rw [Hl.out]; exact hlt)⟩
      have HS := Lib.hid (ref_span (w := wr) l (HL.out.below Hb.out) k m hm)
      have Hm := Lib.hid hm
      clear hm
      by_cases h0 : spanAt l k m = 0
      · have HS' : Hid (Calls Tryz.prog 124 #[.slice A n c, .int .i64 (k : Int)] wr fun e w' => e = .returned (.int .i64 0) ∧ Below wr.heap.size wr w') := Lib.hid (by have h := HS.out; rw [h0] at h; exact h)
        have H0 := Lib.hid h0
        clear h0
        go_wp2_with (go_at_call 124; refine HS'.out.mono ?_; rintro e w2 ⟨rfl, hb2⟩)
        go_roundw
        case rel => exact ⟨k + 1, by omega, by go_num, Hno.out.succ Hm.out H0.out, below_trans Hb.out hb2, Hk.out.below hb2⟩
        case measure => simp [intOf]; omega
      · have h1 : (spanAt l k m != 0) = true := by simpa using h0
        have H0 := Lib.hid h0
        clear h0
        go_wp2_with (go_at_call 124; refine HS.out.mono ?_; rintro e w2 ⟨rfl, hb2⟩; obtain ⟨r1, r2, r3, f1, f2, f3⟩ := wrong_facts (Hk.out.below hb2))
        obtain ⟨s1, s2, s3, -, -, -⟩ := wrong_facts ((Hk.out.below hb2).set3 (.int .i64 (spanAt l k m)) (.int .i64 list) (.int .i64 (k : Int)))
        refine bodyPost_ret (v := .agg #[.int .i64 (spanAt l k m), .int .i64 list, .int .i64 (k : Int)]) ?_ rfl ⟨?_, below_set3 (below_trans Hb.out hb2) _ _ _⟩
        · simp [results, Tryz.results77, go_sem, s1, s2, s3]
        · rw [show spansW l list = _ from Hno.out.found Hm.out H0.out list]
          rfl
    · obtain rfl : k = n := by omega
      obtain ⟨r1, r2, r3, f1, f2, f3⟩ := wrong_facts Hk.out
      go_wp2_with fail
      obtain ⟨s1, s2, s3, -, -, -⟩ := wrong_facts (Hk.out.set3 (.int .i64 0) (.int .i64 0) (.int .i64 0))
      refine bodyPost_ret (v := .agg #[.int .i64 0, .int .i64 0, .int .i64 0]) ?_ rfl ⟨?_, below_set3 Hb.out _ _ _⟩
      · simp [results, Tryz.results77, go_sem, s1, s2, s3]
      · rw [show spansW l list = none from NoneTo.all (by rw [Hl.out]; exact Hno.out) list]
        rfl

end
section
open Go.RowKit
set_option linter.unusedVariables false
/-- a byte that may not stand in a script's name -/
def badB (i : Nat) (c : UInt8) : Bool := decide (¬ (97 ≤ c.toNat ∧ c.toNat ≤ 122) ∧ (i = 0 ∨ (c.toNat ≠ 45 ∧ (c.toNat < 48 ∨ 57 < c.toNat))))
def nameOk (s : ByteArray) : Bool := decide (1 ≤ s.size ∧ s.size ≤ 32 ∧ ∀ i, i < s.size → badB i (s.get! i) = false)
theorem nameOk_bad {s : ByteArray} {k : Nat} (hk : k < s.size) (h : badB k s[k] = true) : nameOk s = false := by
  unfold nameOk
  rw [decide_eq_false_iff_not]
  rintro ⟨_, _, h3⟩
  have := h3 k hk
  rw [show s.get! k = s[k] from get_at s k hk, h] at this
  cases this

set_option maxRecDepth 100000 in
set_option maxHeartbeats 4000000 in
theorem ref_ScriptName (s : ByteArray) (w : World) (hm : s.size ≤ 2097152) :
    Calls Tryz.prog 123 #[.string s] w fun e w' => e = .returned (.bool (nameOk s)) ∧ w = w' := by
  go_enter Tryz.func123, Tryz.ntmps123
  go_wp2_with fail
  go_loopw [3] (fun i wr => ∃ k : Nat, k ≤ s.size ∧ i = .int .i64 (k : Int) ∧ (∀ j, j < k → badB j (s.get! j) = false) ∧ wr = w) (fun i _ => s.size - (intOf i).toNat)
  case atStart => exact ⟨0, Nat.zero_le _, rfl, fun j h => absurd h (Nat.not_lt_zero _), rfl⟩
  case round =>
    obtain ⟨k, hk, rfl, hno, rfl⟩ := hrel
    have Hno := Lib.hid hno
    clear hno
    by_cases hlt : k < s.size
    · have Hb := Lib.hid (fun h => nameOk_bad (k := k) hlt h)
      have Hs : Hid (badB k s[k] = false → ∀ j, j < k + 1 → badB j (s.get! j) = false) := Lib.hid (fun h j hj => by
        by_cases e : j = k
        · rw [e, show s.get! k = s[k] from get_at s k hlt]; exact h
        · exact Hno.out j (by omega))
      have hc : badB k s[k] = decide (¬ (97 ≤ s[k].toNat ∧ s[k].toNat ≤ 122) ∧ (k = 0 ∨ (s[k].toNat ≠ 45 ∧ (s[k].toNat < 48 ∨ 57 < s[k].toNat)))) := rfl
      have hb := s[k].toNat_lt
      have HC := Lib.hid hc
      clear hc
      generalize hcc : s[k].toNat = c at *
      have k0 : (0 : Int) ≤ (k : Int) := by omega
      have k1 : (k : Int) < (s.size : Int) := by omega
      by_cases h1 : 97 ≤ c ∧ c ≤ 122
      · have t1 : (97 : Int) ≤ (c : Int) := by omega
        have t2 : (c : Int) ≤ 122 := by omega
        go_wp2_with fail
        go_roundw
        case rel => exact ⟨k + 1, by omega, by go_num, Hs.out (by rw [HC.out, decide_eq_false_iff_not]; omega), trivial⟩
        case measure => simp [intOf]; omega
      · by_cases h2 : (97 : Int) ≤ (c : Int)
        · have t2 : ¬ (c : Int) ≤ 122 := by omega
          by_cases hz : (k : Int) = 0
          · have t3 : ((k : Int) == 0) = true := by simpa using hz
            have Hz : Hid (k = 0) := Lib.hid (by omega)
            clear hz
            go_wp2_with fail
            go_ret
            exact ⟨by rw [Hb.out (by have := Hz.out; rw [HC.out, decide_eq_true_iff]; omega)]; rfl, rfl⟩
          · have t3 : ((k : Int) == 0) = false := by simpa using hz
            have Hz : Hid (k ≠ 0) := Lib.hid (by omega)
            clear hz
            have t4 : ((c : Int) != 45) = true := by rw [bne_iff_ne]; omega
            have t5 : ¬ (c : Int) < 48 := by omega
            have t6 : (57 : Int) < (c : Int) := by omega
            go_wp2_with fail
            go_ret
            exact ⟨by rw [Hb.out (by have := Hz.out; rw [HC.out, decide_eq_true_iff]; omega)]; rfl, rfl⟩
        · by_cases hz : (k : Int) = 0
          · have t3 : ((k : Int) == 0) = true := by simpa using hz
            have Hz : Hid (k = 0) := Lib.hid (by omega)
            clear hz
            go_wp2_with fail
            go_ret
            exact ⟨by rw [Hb.out (by have := Hz.out; rw [HC.out, decide_eq_true_iff]; omega)]; rfl, rfl⟩
          · have t3 : ((k : Int) == 0) = false := by simpa using hz
            have Hz : Hid (k ≠ 0) := Lib.hid (by omega)
            clear hz
            by_cases h3 : c = 45
            · have t4 : ((c : Int) != 45) = false := by rw [bne_eq_false_iff_eq]; omega
              go_wp2_with fail
              go_roundw
              case rel => exact ⟨k + 1, by omega, by go_num, Hs.out (by have := Hz.out; rw [HC.out, decide_eq_false_iff_not]; omega), trivial⟩
              case measure => simp [intOf]; omega
            · have t4 : ((c : Int) != 45) = true := by rw [bne_iff_ne]; omega
              by_cases h4 : (c : Int) < 48
              · go_wp2_with fail
                go_ret
                exact ⟨by rw [Hb.out (by have := Hz.out; rw [HC.out, decide_eq_true_iff]; omega)]; rfl, rfl⟩
              · by_cases h5 : (57 : Int) < (c : Int)
                · go_wp2_with fail
                  go_ret
                  exact ⟨by rw [Hb.out (by have := Hz.out; rw [HC.out, decide_eq_true_iff]; omega)]; rfl, rfl⟩
                · go_wp2_with fail
                  go_roundw
                  case rel => exact ⟨k + 1, by omega, by go_num, Hs.out (by have := Hz.out; rw [HC.out, decide_eq_false_iff_not]; omega), trivial⟩
                  case measure => simp [intOf]; omega
    · obtain rfl : k = s.size := by omega
      have hok : nameOk s = decide (1 ≤ s.size ∧ s.size ≤ 32) := by
        unfold nameOk
        rw [decide_eq_decide]
        exact ⟨fun h => ⟨h.1, h.2.1⟩, fun h => ⟨h.1, h.2, Hno.out⟩⟩
      have Hok := Lib.hid hok
      clear hok
      by_cases h1 : (1 : Int) ≤ (s.size : Int)
      · by_cases h2 : (s.size : Int) ≤ 32
        · go_wp2_with fail
          go_ret
          exact ⟨by rw [Hok.out, show decide (1 ≤ s.size ∧ s.size ≤ 32) = true by rw [decide_eq_true_iff]; omega]; rfl, rfl⟩
        · go_wp2_with fail
          go_ret
          exact ⟨by rw [Hok.out, show decide (1 ≤ s.size ∧ s.size ≤ 32) = false by rw [decide_eq_false_iff_not]; omega]; rfl, rfl⟩
      · go_wp2_with fail
        go_ret
        exact ⟨by rw [Hok.out, show decide (1 ≤ s.size ∧ s.size ≤ 32) = false by rw [decide_eq_false_iff_not]; omega]; rfl, rfl⟩

end
end Go.Proofs.YtjmkdimbbacnfaaGreatDoor
