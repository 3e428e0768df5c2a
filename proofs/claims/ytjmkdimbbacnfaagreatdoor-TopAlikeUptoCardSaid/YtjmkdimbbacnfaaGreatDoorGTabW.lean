/- tables.New. (Printed by gen_new.py.) -/
import Derived.Test.YtjmkdimbbacnfaaGreatDoorGTabV
import Derived.Test.YtjmkdimbbacnfaaGreatDoorGTabT
import Derived.Test.YtjmkdimbbacnfaaGreatDoorGTabS
import Derived.Test.YtjmkdimbbacnfaaGreatDoorGTabR
import Derived.Test.YtjmkdimbbacnfaaGreatDoorGTabP
import Derived.Test.YtjmkdimbbacnfaaGreatDoorGTabN
import Derived.Test.YtjmkdimbbacnfaaGreatDoorGTabJ
import Derived.Deep.RegionHeld3
import Derived.BigRegion
namespace Go.Proofs.YtjmkdimbbacnfaaGreatDoor
open Go.RowKit
set_option linter.unusedVariables false
/-- the steps' answers, in the order of the program -/
def stepW (T : Tab) : Nat → Option (Int × Int × Int)
  | 0 => longW T | 1 => formsW T | 2 => twiceW T | 3 => pairsM T | 4 => chainsM T | 5 => dropsW T | 6 => fromsM T | 7 => tosP T | _ => houseW T
theorem orW_none {a b : Option (Int × Int × Int)} (h : a = none) : orW a b = b := by subst h; rfl
theorem orW_some {a b : Option (Int × Int × Int)} {x : Int × Int × Int} (h : a = some x) : orW a b = some x := by subst h; rfl
theorem checkW_steps (T : Tab) : checkW T = orW (longW T) (orW (formsW T) (orW (twiceW T) (orW (pairsM T) (orW (chainsM T) (orW (dropsW T) (orW (fromsM T) (orW (tosP T) (houseW T)))))))) := by
  have h1 : pairsW T = orW (pairsM T) (chainsM T) := rfl
  have h2 : tosW T = orW (fromsM T) (tosP T) := by
    show orW _ (orW _ (tosP T)) = orW (orW _ _) _
    rw [orW_assoc]
  unfold checkW
  rw [h1, h2]
  simp only [orW_assoc]
theorem check_some {T : Tab} {j : Nat} (hj : j ≤ 8) {x : Int × Int × Int} (hp : ∀ q, q < j → stepW T q = none) (h : stepW T j = some x) : checkW T = some x := by
  rw [checkW_steps]
  have hq : ∀ q, q < j → stepW T q = none := hp
  match j, hj, h with
  | 0, _, h => exact orW_some h
  | 1, _, h => rw [orW_none (show longW T = none from hq 0 (by omega))]; exact orW_some h
  | 2, _, h => rw [orW_none (show longW T = none from hq 0 (by omega))]; rw [orW_none (show formsW T = none from hq 1 (by omega))]; exact orW_some h
  | 3, _, h => rw [orW_none (show longW T = none from hq 0 (by omega))]; rw [orW_none (show formsW T = none from hq 1 (by omega))]; rw [orW_none (show twiceW T = none from hq 2 (by omega))]; exact orW_some h
  | 4, _, h => rw [orW_none (show longW T = none from hq 0 (by omega))]; rw [orW_none (show formsW T = none from hq 1 (by omega))]; rw [orW_none (show twiceW T = none from hq 2 (by omega))]; rw [orW_none (show pairsM T = none from hq 3 (by omega))]; exact orW_some h
  | 5, _, h => rw [orW_none (show longW T = none from hq 0 (by omega))]; rw [orW_none (show formsW T = none from hq 1 (by omega))]; rw [orW_none (show twiceW T = none from hq 2 (by omega))]; rw [orW_none (show pairsM T = none from hq 3 (by omega))]; rw [orW_none (show chainsM T = none from hq 4 (by omega))]; exact orW_some h
  | 6, _, h => rw [orW_none (show longW T = none from hq 0 (by omega))]; rw [orW_none (show formsW T = none from hq 1 (by omega))]; rw [orW_none (show twiceW T = none from hq 2 (by omega))]; rw [orW_none (show pairsM T = none from hq 3 (by omega))]; rw [orW_none (show chainsM T = none from hq 4 (by omega))]; rw [orW_none (show dropsW T = none from hq 5 (by omega))]; exact orW_some h
  | 7, _, h => rw [orW_none (show longW T = none from hq 0 (by omega))]; rw [orW_none (show formsW T = none from hq 1 (by omega))]; rw [orW_none (show twiceW T = none from hq 2 (by omega))]; rw [orW_none (show pairsM T = none from hq 3 (by omega))]; rw [orW_none (show chainsM T = none from hq 4 (by omega))]; rw [orW_none (show dropsW T = none from hq 5 (by omega))]; rw [orW_none (show fromsM T = none from hq 6 (by omega))]; exact orW_some h
  | 8, _, h => rw [orW_none (show longW T = none from hq 0 (by omega))]; rw [orW_none (show formsW T = none from hq 1 (by omega))]; rw [orW_none (show twiceW T = none from hq 2 (by omega))]; rw [orW_none (show pairsM T = none from hq 3 (by omega))]; rw [orW_none (show chainsM T = none from hq 4 (by omega))]; rw [orW_none (show dropsW T = none from hq 5 (by omega))]; rw [orW_none (show fromsM T = none from hq 6 (by omega))]; rw [orW_none (show tosP T = none from hq 7 (by omega))]; exact h
  | j + 9, hj, _ => exact absurd hj (by omega)
theorem check_none {T : Tab} (hp : ∀ q, q < 9 → stepW T q = none) : checkW T = none := by
  rw [checkW_steps]
  rw [orW_none (show longW T = none from hp 0 (by omega))]; rw [orW_none (show formsW T = none from hp 1 (by omega))]; rw [orW_none (show twiceW T = none from hp 2 (by omega))]; rw [orW_none (show pairsM T = none from hp 3 (by omega))]; rw [orW_none (show chainsM T = none from hp 4 (by omega))]; rw [orW_none (show dropsW T = none from hp 5 (by omega))]; rw [orW_none (show fromsM T = none from hp 6 (by omega))]; rw [orW_none (show tosP T = none from hp 7 (by omega))]; exact hp 8 (by omega)
theorem stepW_ne {T : Tab} {j : Nat} (hj : j ≤ 8) : ∀ x y z, stepW T j = some (x, y, z) → x ≠ 0 := by
  match j, hj with
  | 0, _ => exact longW_ne
  | 1, _ => exact formsW_ne
  | 2, _ => exact twiceW_ne
  | 3, _ => exact scan_ne'
  | 4, _ => exact scan_ne'
  | 5, _ => exact dropsW_ne
  | 6, _ => exact orW_ne scan_ne' scan_ne'
  | 7, _ => exact orW_ne scan_ne' scan_ne'
  | 8, _ => exact houseW_ne
  | j + 9, hj => exact absurd hj (by omega)
theorem forms_parts {T : Tab} (h : formsW T = none) : InOrder T.common ∧ scan markAt 3 0 T.marks = none ∧ scan mapAt 5 0 T.folds = none ∧ scan mapAt 6 0 T.looks = none ∧ InOrder T.drops ∧ InOrder T.allowed := by
  unfold formsW at h
  have key : ∀ {a b : Option (Int × Int × Int)}, orW a b = none → a = none ∧ b = none := fun {a b} h => by
    cases a with
    | none => exact ⟨rfl, h⟩
    | some x => cases h
  obtain ⟨-, h⟩ := key h
  obtain ⟨h1, h⟩ := key h
  obtain ⟨h2, h⟩ := key h
  obtain ⟨-, h⟩ := key h
  obtain ⟨h3, h⟩ := key h
  obtain ⟨h4, h⟩ := key h
  obtain ⟨h5, h⟩ := key h
  exact ⟨inOrder_of h1, h2, h3, h4, inOrder_of h5, inOrder_of h⟩

/-- what New has laid, from block s on -/
structure NB (s : Nat) (w : World) (v0 v1 v2 v3 v4 v5 v6 v7 : Value) (wr : World) : Prop where
  below : Below w.heap.size w wr
  size : s + 9 < wr.heap.size
  box : Blk wr s 28 #[v0, v1, v2, v3, v4, v5, v6, v7]
  res : Blk wr (s + 1) 40 #[.int .i64 0, .int .i64 0, .int .i64 0]
  chk : Blk wr (s + 8) 68 #[v0, v1, v2, v3, v4, v5, v6, v7, .pointer (some ⟨s + 7, 0, none⟩)]
  fns : Blk wr (s + 9) 69 #[.func (.func 22) #[.pointer (some ⟨s + 8, 0, none⟩)] #[], .func (.func 23) #[.pointer (some ⟨s + 8, 0, none⟩)] #[], .func (.func 24) #[.pointer (some ⟨s + 8, 0, none⟩)] #[], .func (.func 25) #[.pointer (some ⟨s + 8, 0, none⟩)] #[], .func (.func 26) #[.pointer (some ⟨s + 8, 0, none⟩)] #[], .func (.func 27) #[.pointer (some ⟨s + 8, 0, none⟩)] #[], .func (.func 28) #[.pointer (some ⟨s + 8, 0, none⟩)] #[], .func (.func 29) #[.pointer (some ⟨s + 8, 0, none⟩)] #[], .func (.func 30) #[.pointer (some ⟨s + 8, 0, none⟩)] #[]]
/-- the maps are empty -/
structure NE (s : Nat) (w : World) : Prop where
  bk : Blk w (s + 7) 66 #[.slice none 0 0, .slice none 0 0, .slice none 0 0, .slice none 0 0, .slice none 0 0, .slice none 0 0, .slice none 0 0, .slice none 0 0, .map (some (s + 2)), .map (some (s + 3)), .map (some (s + 4)), .map (some (s + 5)), .map (some (s + 6))]
  x1 : M1 w (s + 2) 0 (fun _ => none)
  x2 : M2 w (s + 3) 0 (fun _ => none)
  x3 : M3 w (s + 4) 0 (fun _ => none)
  x4 : M4 w (s + 5) 0 (fun _ => none)
  x5 : M4 w (s + 6) 0 (fun _ => none)
/-- the loop's rounds: j steps have answered that nothing is wrong -/
structure NR (s : Nat) (w : World) (v0 v1 v2 v3 v4 v5 v6 v7 : Value) (T : Tab) (j : Nat) (wr : World) : Prop where
  base : NB s w v0 v1 v2 v3 v4 v5 v6 v7 wr
  pre : ∀ q, q < j → stepW T q = none
  early : j ≤ 2 → NE s wr
  late : 3 ≤ j → MS wr (s + 7) (s + 2) (s + 3) (s + 4) (s + 5) (s + 6) (.slice none 0 0) (.slice none 0 0) (.slice none 0 0) (.slice none 0 0) (.slice none 0 0) (.slice none 0 0) (if 8 ≤ j then v6 else (.slice none 0 0)) (.slice none 0 0) (mapsOf T)
section
variable {s : Nat} {w wr w2 : World} {v0 v1 v2 v3 v4 v5 v6 v7 : Value} {T : Tab}
theorem MapV.belowM {K V : Type} {P : Program} {k : TypeId} {kv : K → Value} {ev : V → Value} {m N : Nat} {g : K → Option V} (h : ∃ n, n ≤ N ∧ MapV P k kv ev wr m n g) (hb : Below wr.heap.size wr w2) : ∃ n, n ≤ N ∧ MapV P k kv ev w2 m n g := by
  obtain ⟨n, hn, h⟩ := h
  exact ⟨n, hn, h.below hb h.lt⟩
theorem NB.step (h : NB s w v0 v1 v2 v3 v4 v5 v6 v7 wr) (hb : Below wr.heap.size wr w2) : NB s w v0 v1 v2 v3 v4 v5 v6 v7 w2 :=
  ⟨below_trans h.below hb, by have := h.size; have := hb.size; omega, h.box.below hb, h.res.below hb, h.chk.below hb, h.fns.below hb⟩
theorem NE.step (h : NE s wr) (hb : Below wr.heap.size wr w2) : NE s w2 :=
  ⟨h.bk.below hb, MapV.belowM h.x1 hb, MapV.belowM h.x2 hb, MapV.belowM h.x3 hb, MapV.belowM h.x4 hb, MapV.belowM h.x5 hb⟩
theorem NR.step {j : Nat} (h : NR s w v0 v1 v2 v3 v4 v5 v6 v7 T j wr) (hb : Below wr.heap.size wr w2) : NR s w v0 v1 v2 v3 v4 v5 v6 v7 T j w2 :=
  ⟨h.base.step hb, h.pre, fun k => (h.early k).step hb, fun k => (h.late k).below hb⟩
theorem NR.next {j : Nat} (h : NR s w v0 v1 v2 v3 v4 v5 v6 v7 T j wr) (hs : stepW T j = none) (hne : j ≠ 2) (hn7 : j ≠ 7) : NR s w v0 v1 v2 v3 v4 v5 v6 v7 T (j + 1) wr := by
  refine ⟨h.base, fun q hq => ?_, fun k => h.early (by omega), fun k => ?_⟩
  · by_cases e : q = j
    · subst e; exact hs
    · exact h.pre q (by omega)
  · have h3 := h.late (by omega)
    by_cases e : 8 ≤ j
    · rw [if_pos e] at h3
      rw [if_pos (by omega)]
      exact h3
    · rw [if_neg e] at h3
      rw [if_neg (by omega)]
      exact h3
theorem NB.dst (h : NB s w v0 v1 v2 v3 v4 v5 v6 v7 wr) (hs : s = w.heap.size) : Dst w wr (s + 2) (s + 3) (s + 4) (s + 5) (s + 6) :=
  ⟨by omega, by have := h.size; omega, by omega⟩
theorem NB.once (h : NB s w v0 v1 v2 v3 v4 v5 v6 v7 wr) (hb : Below w.heap.size w w2) (ho : OffM wr (s + 2) (s + 3) (s + 4) (s + 5) (s + 6) w2) (hz : wr.heap.size ≤ w2.heap.size) : NB s w v0 v1 v2 v3 v4 v5 v6 v7 w2 :=
  ⟨hb, by have := h.size; omega, h.box.of (ho _ h.box.lt (by omega) (by omega) (by omega) (by omega) (by omega)), h.res.of (ho _ h.res.lt (by omega) (by omega) (by omega) (by omega) (by omega)), h.chk.of (ho _ h.chk.lt (by omega) (by omega) (by omega) (by omega) (by omega)), h.fns.of (ho _ h.fns.lt (by omega) (by omega) (by omega) (by omega) (by omega))⟩
theorem NB.tos (h : NB s w v0 v1 v2 v3 v4 v5 v6 v7 wr) (hb : Below w.heap.size w w2) (ho : ∀ i, i < wr.heap.size → i ≠ s + 7 → w2.heap[i]? = wr.heap[i]?) (hz : wr.heap.size ≤ w2.heap.size) : NB s w v0 v1 v2 v3 v4 v5 v6 v7 w2 :=
  ⟨hb, by have := h.size; omega, h.box.of (ho _ h.box.lt (by omega)), h.res.of (ho _ h.res.lt (by omega)), h.chk.of (ho _ h.chk.lt (by omega)), h.fns.of (ho _ h.fns.lt (by omega))⟩
end
theorem laid {a : World} {n : Nat} (h : a.heap.size = n) (o : Obj) : (a.alloc o).heap.size = n + 1 ∧ (a.alloc o).heap[n]? = some o ∧ ∀ i, i < n → (a.alloc o).heap[i]? = a.heap[i]? := by
  subst h
  exact ⟨by simp, heap_alloc_new a o, fun i hi => Below.heap_alloc a o i hi⟩
theorem below_laid {w a : World} (h : Below w.heap.size w a) (o : Obj) : Below w.heap.size w (a.alloc o) := h.alloc h.size o
theorem NR.start {s : Nat} {w : World} {v0 v1 v2 v3 v4 v5 v6 v7 : Value} {T : Tab} (hs : w.heap.size = s) : NR s w v0 v1 v2 v3 v4 v5 v6 v7 T 0 ((((((((((w.alloc (.cells #[v0, v1, v2, v3, v4, v5, v6, v7] 28)).alloc (.cells #[.int .i64 0, .int .i64 0, .int .i64 0] 40)).alloc (.map #[] 0)).alloc (.map #[] 0)).alloc (.map #[] 0)).alloc (.map #[] 0)).alloc (.map #[] 0)).alloc (.cells #[.slice none 0 0, .slice none 0 0, .slice none 0 0, .slice none 0 0, .slice none 0 0, .slice none 0 0, .slice none 0 0, .slice none 0 0, .map (some (s + 2)), .map (some (s + 3)), .map (some (s + 4)), .map (some (s + 5)), .map (some (s + 6))] 66)).alloc (.cells #[v0, v1, v2, v3, v4, v5, v6, v7, .pointer (some ⟨s + 7, 0, none⟩)] 68)).alloc (.cells #[.func (.func 22) #[.pointer (some ⟨s + 8, 0, none⟩)] #[], .func (.func 23) #[.pointer (some ⟨s + 8, 0, none⟩)] #[], .func (.func 24) #[.pointer (some ⟨s + 8, 0, none⟩)] #[], .func (.func 25) #[.pointer (some ⟨s + 8, 0, none⟩)] #[], .func (.func 26) #[.pointer (some ⟨s + 8, 0, none⟩)] #[], .func (.func 27) #[.pointer (some ⟨s + 8, 0, none⟩)] #[], .func (.func 28) #[.pointer (some ⟨s + 8, 0, none⟩)] #[], .func (.func 29) #[.pointer (some ⟨s + 8, 0, none⟩)] #[], .func (.func 30) #[.pointer (some ⟨s + 8, 0, none⟩)] #[]] 69)) := by
  have l0 : Below w.heap.size w w := Below.refl _ w
  have l1 := below_laid l0 (.cells #[v0, v1, v2, v3, v4, v5, v6, v7] 28)
  have k1 := laid hs (.cells #[v0, v1, v2, v3, v4, v5, v6, v7] 28)
  obtain ⟨a1, e1⟩ : ∃ a, w.alloc (.cells #[v0, v1, v2, v3, v4, v5, v6, v7] 28) = a := ⟨_, rfl⟩
  rw [e1] at l1 k1 ⊢
  have l2 := below_laid l1 (.cells #[.int .i64 0, .int .i64 0, .int .i64 0] 40)
  have k2 := laid k1.1 (.cells #[.int .i64 0, .int .i64 0, .int .i64 0] 40)
  obtain ⟨a2, e2⟩ : ∃ a, a1.alloc (.cells #[.int .i64 0, .int .i64 0, .int .i64 0] 40) = a := ⟨_, rfl⟩
  rw [e2] at l2 k2 ⊢
  have l3 := below_laid l2 (.map #[] 0)
  have k3 := laid k2.1 (.map #[] 0)
  have mp2 := fun (k : TypeId) (K V : Type) (kv : K → Value) (ev : V → Value) => MapV.made Tryz.prog k kv ev a2
  obtain ⟨a3, e3⟩ : ∃ a, a2.alloc (.map #[] 0) = a := ⟨_, rfl⟩
  rw [e3] at l3 k3 ⊢
  rw [e3, k2.1] at mp2
  have l4 := below_laid l3 (.map #[] 0)
  have k4 := laid k3.1 (.map #[] 0)
  have mp3 := fun (k : TypeId) (K V : Type) (kv : K → Value) (ev : V → Value) => MapV.made Tryz.prog k kv ev a3
  obtain ⟨a4, e4⟩ : ∃ a, a3.alloc (.map #[] 0) = a := ⟨_, rfl⟩
  rw [e4] at l4 k4 ⊢
  rw [e4, k3.1] at mp3
  have l5 := below_laid l4 (.map #[] 0)
  have k5 := laid k4.1 (.map #[] 0)
  have mp4 := fun (k : TypeId) (K V : Type) (kv : K → Value) (ev : V → Value) => MapV.made Tryz.prog k kv ev a4
  obtain ⟨a5, e5⟩ : ∃ a, a4.alloc (.map #[] 0) = a := ⟨_, rfl⟩
  rw [e5] at l5 k5 ⊢
  rw [e5, k4.1] at mp4
  have l6 := below_laid l5 (.map #[] 0)
  have k6 := laid k5.1 (.map #[] 0)
  have mp5 := fun (k : TypeId) (K V : Type) (kv : K → Value) (ev : V → Value) => MapV.made Tryz.prog k kv ev a5
  obtain ⟨a6, e6⟩ : ∃ a, a5.alloc (.map #[] 0) = a := ⟨_, rfl⟩
  rw [e6] at l6 k6 ⊢
  rw [e6, k5.1] at mp5
  have l7 := below_laid l6 (.map #[] 0)
  have k7 := laid k6.1 (.map #[] 0)
  have mp6 := fun (k : TypeId) (K V : Type) (kv : K → Value) (ev : V → Value) => MapV.made Tryz.prog k kv ev a6
  obtain ⟨a7, e7⟩ : ∃ a, a6.alloc (.map #[] 0) = a := ⟨_, rfl⟩
  rw [e7] at l7 k7 ⊢
  rw [e7, k6.1] at mp6
  have l8 := below_laid l7 (.cells #[.slice none 0 0, .slice none 0 0, .slice none 0 0, .slice none 0 0, .slice none 0 0, .slice none 0 0, .slice none 0 0, .slice none 0 0, .map (some (s + 2)), .map (some (s + 3)), .map (some (s + 4)), .map (some (s + 5)), .map (some (s + 6))] 66)
  have k8 := laid k7.1 (.cells #[.slice none 0 0, .slice none 0 0, .slice none 0 0, .slice none 0 0, .slice none 0 0, .slice none 0 0, .slice none 0 0, .slice none 0 0, .map (some (s + 2)), .map (some (s + 3)), .map (some (s + 4)), .map (some (s + 5)), .map (some (s + 6))] 66)
  obtain ⟨a8, e8⟩ : ∃ a, a7.alloc (.cells #[.slice none 0 0, .slice none 0 0, .slice none 0 0, .slice none 0 0, .slice none 0 0, .slice none 0 0, .slice none 0 0, .slice none 0 0, .map (some (s + 2)), .map (some (s + 3)), .map (some (s + 4)), .map (some (s + 5)), .map (some (s + 6))] 66) = a := ⟨_, rfl⟩
  rw [e8] at l8 k8 ⊢
  have l9 := below_laid l8 (.cells #[v0, v1, v2, v3, v4, v5, v6, v7, .pointer (some ⟨s + 7, 0, none⟩)] 68)
  have k9 := laid k8.1 (.cells #[v0, v1, v2, v3, v4, v5, v6, v7, .pointer (some ⟨s + 7, 0, none⟩)] 68)
  obtain ⟨a9, e9⟩ : ∃ a, a8.alloc (.cells #[v0, v1, v2, v3, v4, v5, v6, v7, .pointer (some ⟨s + 7, 0, none⟩)] 68) = a := ⟨_, rfl⟩
  rw [e9] at l9 k9 ⊢
  have l10 := below_laid l9 (.cells #[.func (.func 22) #[.pointer (some ⟨s + 8, 0, none⟩)] #[], .func (.func 23) #[.pointer (some ⟨s + 8, 0, none⟩)] #[], .func (.func 24) #[.pointer (some ⟨s + 8, 0, none⟩)] #[], .func (.func 25) #[.pointer (some ⟨s + 8, 0, none⟩)] #[], .func (.func 26) #[.pointer (some ⟨s + 8, 0, none⟩)] #[], .func (.func 27) #[.pointer (some ⟨s + 8, 0, none⟩)] #[], .func (.func 28) #[.pointer (some ⟨s + 8, 0, none⟩)] #[], .func (.func 29) #[.pointer (some ⟨s + 8, 0, none⟩)] #[], .func (.func 30) #[.pointer (some ⟨s + 8, 0, none⟩)] #[]] 69)
  have k10 := laid k9.1 (.cells #[.func (.func 22) #[.pointer (some ⟨s + 8, 0, none⟩)] #[], .func (.func 23) #[.pointer (some ⟨s + 8, 0, none⟩)] #[], .func (.func 24) #[.pointer (some ⟨s + 8, 0, none⟩)] #[], .func (.func 25) #[.pointer (some ⟨s + 8, 0, none⟩)] #[], .func (.func 26) #[.pointer (some ⟨s + 8, 0, none⟩)] #[], .func (.func 27) #[.pointer (some ⟨s + 8, 0, none⟩)] #[], .func (.func 28) #[.pointer (some ⟨s + 8, 0, none⟩)] #[], .func (.func 29) #[.pointer (some ⟨s + 8, 0, none⟩)] #[], .func (.func 30) #[.pointer (some ⟨s + 8, 0, none⟩)] #[]] 69)
  obtain ⟨a10, e10⟩ : ∃ a, a9.alloc (.cells #[.func (.func 22) #[.pointer (some ⟨s + 8, 0, none⟩)] #[], .func (.func 23) #[.pointer (some ⟨s + 8, 0, none⟩)] #[], .func (.func 24) #[.pointer (some ⟨s + 8, 0, none⟩)] #[], .func (.func 25) #[.pointer (some ⟨s + 8, 0, none⟩)] #[], .func (.func 26) #[.pointer (some ⟨s + 8, 0, none⟩)] #[], .func (.func 27) #[.pointer (some ⟨s + 8, 0, none⟩)] #[], .func (.func 28) #[.pointer (some ⟨s + 8, 0, none⟩)] #[], .func (.func 29) #[.pointer (some ⟨s + 8, 0, none⟩)] #[], .func (.func 30) #[.pointer (some ⟨s + 8, 0, none⟩)] #[]] 69) = a := ⟨_, rfl⟩
  rw [e10] at l10 k10 ⊢
  refine ⟨⟨l10, by have := k10.1; omega, ((k10.2.2 _ (by omega)).trans ((k9.2.2 _ (by omega)).trans ((k8.2.2 _ (by omega)).trans ((k7.2.2 _ (by omega)).trans ((k6.2.2 _ (by omega)).trans ((k5.2.2 _ (by omega)).trans ((k4.2.2 _ (by omega)).trans ((k3.2.2 _ (by omega)).trans ((k2.2.2 _ (by omega)).trans k1.2.1))))))))), ((k10.2.2 _ (by omega)).trans ((k9.2.2 _ (by omega)).trans ((k8.2.2 _ (by omega)).trans ((k7.2.2 _ (by omega)).trans ((k6.2.2 _ (by omega)).trans ((k5.2.2 _ (by omega)).trans ((k4.2.2 _ (by omega)).trans ((k3.2.2 _ (by omega)).trans k2.2.1)))))))), ((k10.2.2 _ (by omega)).trans k9.2.1), k10.2.1⟩, fun q hq => absurd hq (by omega), fun _ => ⟨((k10.2.2 _ (by omega)).trans ((k9.2.2 _ (by omega)).trans k8.2.1)), ⟨0, Nat.le_refl _, (mp2 _ _ _ _ _).of_block ((k10.2.2 _ (by omega)).trans ((k9.2.2 _ (by omega)).trans ((k8.2.2 _ (by omega)).trans ((k7.2.2 _ (by omega)).trans ((k6.2.2 _ (by omega)).trans ((k5.2.2 _ (by omega)).trans (k4.2.2 _ (by omega))))))))⟩, ⟨0, Nat.le_refl _, (mp3 _ _ _ _ _).of_block ((k10.2.2 _ (by omega)).trans ((k9.2.2 _ (by omega)).trans ((k8.2.2 _ (by omega)).trans ((k7.2.2 _ (by omega)).trans ((k6.2.2 _ (by omega)).trans (k5.2.2 _ (by omega)))))))⟩, ⟨0, Nat.le_refl _, (mp4 _ _ _ _ _).of_block ((k10.2.2 _ (by omega)).trans ((k9.2.2 _ (by omega)).trans ((k8.2.2 _ (by omega)).trans ((k7.2.2 _ (by omega)).trans (k6.2.2 _ (by omega))))))⟩, ⟨0, Nat.le_refl _, (mp5 _ _ _ _ _).of_block ((k10.2.2 _ (by omega)).trans ((k9.2.2 _ (by omega)).trans ((k8.2.2 _ (by omega)).trans (k7.2.2 _ (by omega)))))⟩, ⟨0, Nat.le_refl _, (mp6 _ _ _ _ _).of_block ((k10.2.2 _ (by omega)).trans ((k9.2.2 _ (by omega)).trans (k8.2.2 _ (by omega))))⟩⟩, fun h => absurd h (by omega)⟩
theorem NR.call {s j : Nat} {w wr : World} {v0 v1 v2 v3 v4 v5 v6 v7 : Value} {T : Tab} (hj : j ≤ 8) (h : NR s w v0 v1 v2 v3 v4 v5 v6 v7 T j wr) (hs : w.heap.size = s) (ht : TabAt w v0 v1 v2 v3 v4 v5 v6 v7 T) (hok : TabOk T) (hU : Lib.Utf8Tabs 0 1 w) :
    Calls Tryz.prog (22 + j) #[.pointer (some ⟨s + 8, 0, none⟩)] wr fun e w' => e = .returned (wrongV (stepW T j)) ∧ NB s w v0 v1 v2 v3 v4 v5 v6 v7 w' ∧ (stepW T j = none → NR s w v0 v1 v2 v3 v4 v5 v6 v7 T (j + 1) w') := by
  have htr := ht.below h.base.below
  have fp : 1 < j → _ := fun hj => forms_parts (T := T) (h.pre 1 hj)
  match j, hj, h, fp with
  | 0, _, h, fp =>
    refine (chk_long T htr hok (s + 8) (s + 7) h.base.chk).mono (fun e w' h9 => ?_)
    exact ⟨h9.1, h.base.step h9.2, fun hn => (h.next hn (by omega) (by omega)).step h9.2⟩
  | 1, _, h, fp =>
    refine (chk_forms T htr hok (s + 8) (s + 7) h.base.chk (Utf8Tabs_below hU h.base.below)).mono (fun e w' h9 => ?_)
    exact ⟨h9.1, h.base.step h9.2, fun hn => (h.next hn (by omega) (by omega)).step h9.2⟩
  | 2, _, h, fp =>
    obtain ⟨f1, f2, f3, f4, f5, f6⟩ := fp (by omega)
    have he := h.early (by omega)
    refine (chk_once (w0 := w) T ht hok (s + 8) (s + 7) h.base.below h.base.chk he.bk (h.base.dst hs.symm) he.x1 he.x2 he.x3 he.x4 he.x5 f2).mono (fun e w' h9 => ?_)
    obtain ⟨h1, h2, h3, h4, h5⟩ := h9
    refine ⟨h1, h.base.once h2 h3 h4, fun hn => ⟨h.base.once h2 h3 h4, fun q hq => ?_, fun k => absurd k (by omega), fun _ => h5 hn⟩⟩
    by_cases e : q = 2
    · subst e; exact hn
    · exact h.pre q (by omega)
  | 3, _, h, fp =>
    obtain ⟨f1, f2, f3, f4, f5, f6⟩ := fp (by omega)
    refine (chk_pairs T htr hok (s + 8) (s + 7) h.base.chk (h.late (by omega)) f2).mono (fun e w' h9 => ?_)
    exact ⟨h9.1, h.base.step h9.2, fun hn => (h.next hn (by omega) (by omega)).step h9.2⟩
  | 4, _, h, fp =>
    obtain ⟨f1, f2, f3, f4, f5, f6⟩ := fp (by omega)
    refine (chk_chains T htr hok (s + 8) (s + 7) h.base.chk (h.late (by omega)) f2).mono (fun e w' h9 => ?_)
    exact ⟨h9.1, h.base.step h9.2, fun hn => (h.next hn (by omega) (by omega)).step h9.2⟩
  | 5, _, h, fp =>
    obtain ⟨f1, f2, f3, f4, f5, f6⟩ := fp (by omega)
    refine (chk_drops T htr hok (s + 8) (s + 7) h.base.chk f5).mono (fun e w' h9 => ?_)
    exact ⟨h9.1, h.base.step h9.2, fun hn => (h.next hn (by omega) (by omega)).step h9.2⟩
  | 6, _, h, fp =>
    obtain ⟨f1, f2, f3, f4, f5, f6⟩ := fp (by omega)
    refine (chk_froms T htr hok (s + 8) (s + 7) h.base.chk (h.late (by omega)) f2).mono (fun e w' h9 => ?_)
    exact ⟨h9.1, h.base.step h9.2, fun hn => (h.next hn (by omega) (by omega)).step h9.2⟩
  | 7, _, h, fp =>
    obtain ⟨f1, f2, f3, f4, f5, f6⟩ := fp (by omega)
    refine (chk_tos (w0 := w) T ht hok (s + 8) (s + 7) h.base.below (by omega) h.base.chk (h.late (by omega)) f2 f5 f3 f4).mono (fun e w' h9 => ?_)
    obtain ⟨h1, h2, h3, h4, h5⟩ := h9
    refine ⟨h1, h.base.tos h2 h3 h4, fun hn => ⟨h.base.tos h2 h3 h4, fun q hq => ?_, fun k => absurd k (by omega), fun _ => h5⟩⟩
    by_cases e : q = 7
    · subst e; exact hn
    · exact h.pre q (by omega)
  | 8, _, h, fp =>
    obtain ⟨f1, f2, f3, f4, f5, f6⟩ := fp (by omega)
    refine (chk_house T htr hok (s + 8) (s + 7) h.base.chk f1 f6 f3 f4).mono (fun e w' h9 => ?_)
    exact ⟨h9.1, h.base.step h9.2, fun hn => (h.next hn (by omega) (by omega)).step h9.2⟩
  | j + 9, hj, _, _ => exact absurd hj (by omega)
/-- a Book at block b, not older than n: the table and its maps -/
def BookAt (w : World) (n b : Nat) (T : Tab) : Prop := ∃ m1 m2 m3 m4 m5 u0 u1 u2 u3 u4 u5 u6 u7, n ≤ b ∧ n ≤ m1 ∧ n ≤ m2 ∧ n ≤ m3 ∧ n ≤ m4 ∧ n ≤ m5 ∧ TabAt w u0 u1 u2 u3 u4 u5 u6 u7 T ∧ MS w b m1 m2 m3 m4 m5 u0 u1 u2 u3 u4 u5 u6 u7 (mapsOf T)
/-- New's answer -/
def NewAns (n : Nat) (T : Tab) (e : Ending) (w : World) : Prop := match checkW T with
  | some x => e = .returned (.tuple #[.pointer none, wrongV (some x)])
  | none => ∃ b, e = .returned (.tuple #[.pointer (some ⟨b, 0, none⟩), wrongV none]) ∧ BookAt w n b T
theorem NewAns.bad {n : Nat} {T : Tab} {w : World} {x : Int × Int × Int} (h : checkW T = some x) : NewAns n T (.returned (.tuple #[.pointer none, wrongV (some x)])) w := by
  unfold NewAns
  rw [h]
theorem NewAns.good {n : Nat} {T : Tab} {w : World} {b : Nat} (h : checkW T = none) (hb : BookAt w n b T) : NewAns n T (.returned (.tuple #[.pointer (some ⟨b, 0, none⟩), wrongV none])) w := by
  unfold NewAns
  rw [h]
  exact ⟨b, rfl, hb⟩
theorem ListAt.form0 {w : World} {v : Value} {k : Nat} {L : List (List Value)} (h : ListAt w v k L) : ∃ A n c, v = .slice A n c := by
  obtain ⟨A, c, e, _⟩ := h
  exact ⟨A, _, c, e⟩
/-- New's end: the copy lies in the Book, the answer's cell is cleared -/
theorem new_end {s : Nat} {w w2 : World} {v0 v1 v2 v3 v4 v5 v6 v7 u0 u1 u2 u3 u4 u5 u6 u7 t0 t1 t2 t3 t4 t5 t6 t7 : Value} {T : Tab} (hs : w.heap.size = s) (h : NB s w v0 v1 v2 v3 v4 v5 v6 v7 w2) (hM : MS w2 (s + 7) (s + 2) (s + 3) (s + 4) (s + 5) (s + 6) t0 t1 t2 t3 t4 t5 t6 t7 (mapsOf T))
    (hX : ∀ X : World, (∀ i, i ≠ s + 7 → X.heap[i]? = w2.heap[i]?) → w2.heap.size ≤ X.heap.size → TabAt X u0 u1 u2 u3 u4 u5 u6 u7 T) :
    ∃ W9, W9 = ((((((((w2.setCell ⟨s + 7, 0, none⟩ u0).setCell ⟨s + 7, 1, none⟩ u1).setCell ⟨s + 7, 2, none⟩ u2).setCell ⟨s + 7, 3, none⟩ u3).setCell ⟨s + 7, 4, none⟩ u4).setCell ⟨s + 7, 5, none⟩ u5).setCell ⟨s + 7, 6, none⟩ u6).setCell ⟨s + 7, 7, none⟩ u7) ∧ NB s w v0 v1 v2 v3 v4 v5 v6 v7 W9 ∧ ∃ W10, W10 = (((W9.setCell ⟨s + 1, 0, none⟩ (.int .i64 0)).setCell ⟨s + 1, 1, none⟩ (.int .i64 0)).setCell ⟨s + 1, 2, none⟩ (.int .i64 0)) ∧ Below w.heap.size w W10 ∧ BookAt W10 w.heap.size (s + 7) T ∧ Blk W10 (s + 1) 40 #[.int .i64 0, .int .i64 0, .int .i64 0] := by
  have h8 : ∀ i, i ≠ s + 7 → ((((((((w2.setCell ⟨s + 7, 0, none⟩ u0).setCell ⟨s + 7, 1, none⟩ u1).setCell ⟨s + 7, 2, none⟩ u2).setCell ⟨s + 7, 3, none⟩ u3).setCell ⟨s + 7, 4, none⟩ u4).setCell ⟨s + 7, 5, none⟩ u5).setCell ⟨s + 7, 6, none⟩ u6).setCell ⟨s + 7, 7, none⟩ u7).heap[i]? = w2.heap[i]? := fun i hi => by
    rw [Below.heap_setCell _ _ _ _ hi, Below.heap_setCell _ _ _ _ hi, Below.heap_setCell _ _ _ _ hi, Below.heap_setCell _ _ _ _ hi, Below.heap_setCell _ _ _ _ hi, Below.heap_setCell _ _ _ _ hi, Below.heap_setCell _ _ _ _ hi, Below.heap_setCell _ _ _ _ hi]
  have hz8 : ((((((((w2.setCell ⟨s + 7, 0, none⟩ u0).setCell ⟨s + 7, 1, none⟩ u1).setCell ⟨s + 7, 2, none⟩ u2).setCell ⟨s + 7, 3, none⟩ u3).setCell ⟨s + 7, 4, none⟩ u4).setCell ⟨s + 7, 5, none⟩ u5).setCell ⟨s + 7, 6, none⟩ u6).setCell ⟨s + 7, 7, none⟩ u7).heap.size = w2.heap.size := by simp [World.setCell]
  have hbk := ((((((((hM.book.set_ 0 u0).set_ 1 u1).set_ 2 u2).set_ 3 u3).set_ 4 u4).set_ 5 u5).set_ 6 u6).set_ 7 u7)
  have hbe : Below w.heap.size w ((((((((w2.setCell ⟨s + 7, 0, none⟩ u0).setCell ⟨s + 7, 1, none⟩ u1).setCell ⟨s + 7, 2, none⟩ u2).setCell ⟨s + 7, 3, none⟩ u3).setCell ⟨s + 7, 4, none⟩ u4).setCell ⟨s + 7, 5, none⟩ u5).setCell ⟨s + 7, 6, none⟩ u6).setCell ⟨s + 7, 7, none⟩ u7) := ((((((((h.below.setCell (by show w.heap.size ≤ s + 7; omega) _).setCell (by show w.heap.size ≤ s + 7; omega) _).setCell (by show w.heap.size ≤ s + 7; omega) _).setCell (by show w.heap.size ≤ s + 7; omega) _).setCell (by show w.heap.size ≤ s + 7; omega) _).setCell (by show w.heap.size ≤ s + 7; omega) _).setCell (by show w.heap.size ≤ s + 7; omega) _).setCell (by show w.heap.size ≤ s + 7; omega) _)
  obtain ⟨W9, hW9⟩ : ∃ W9, W9 = ((((((((w2.setCell ⟨s + 7, 0, none⟩ u0).setCell ⟨s + 7, 1, none⟩ u1).setCell ⟨s + 7, 2, none⟩ u2).setCell ⟨s + 7, 3, none⟩ u3).setCell ⟨s + 7, 4, none⟩ u4).setCell ⟨s + 7, 5, none⟩ u5).setCell ⟨s + 7, 6, none⟩ u6).setCell ⟨s + 7, 7, none⟩ u7) := ⟨_, rfl⟩
  rw [← hW9] at h8 hz8 hbk hbe
  have hN9 : NB s w v0 v1 v2 v3 v4 v5 v6 v7 W9 := h.tos hbe (fun i _ hi => h8 i hi) (by omega)
  have h3 : ∀ i, i ≠ s + 1 → (((W9.setCell ⟨s + 1, 0, none⟩ (.int .i64 0)).setCell ⟨s + 1, 1, none⟩ (.int .i64 0)).setCell ⟨s + 1, 2, none⟩ (.int .i64 0)).heap[i]? = W9.heap[i]? := fun i hi => by
    rw [Below.heap_setCell _ _ _ _ hi, Below.heap_setCell _ _ _ _ hi, Below.heap_setCell _ _ _ _ hi]
  have hz3 : (((W9.setCell ⟨s + 1, 0, none⟩ (.int .i64 0)).setCell ⟨s + 1, 1, none⟩ (.int .i64 0)).setCell ⟨s + 1, 2, none⟩ (.int .i64 0)).heap.size = W9.heap.size := by simp [World.setCell]
  have hrs := hN9.res.set3 (.int .i64 0) (.int .i64 0) (.int .i64 0)
  have hb3 : Below w.heap.size w (((W9.setCell ⟨s + 1, 0, none⟩ (.int .i64 0)).setCell ⟨s + 1, 1, none⟩ (.int .i64 0)).setCell ⟨s + 1, 2, none⟩ (.int .i64 0)) := (((hbe.setCell (by show w.heap.size ≤ s + 1; omega) _).setCell (by show w.heap.size ≤ s + 1; omega) _).setCell (by show w.heap.size ≤ s + 1; omega) _)
  obtain ⟨W10, hW10⟩ : ∃ W10, W10 = (((W9.setCell ⟨s + 1, 0, none⟩ (.int .i64 0)).setCell ⟨s + 1, 1, none⟩ (.int .i64 0)).setCell ⟨s + 1, 2, none⟩ (.int .i64 0)) := ⟨_, rfl⟩
  rw [← hW10] at h3 hz3 hrs hb3
  have hall : ∀ i, i ≠ s + 7 → W10.heap[i]? = w2.heap[i]? := fun i hi => by
    by_cases e : i = s + 1
    · subst e
      exact (show W10.heap[s + 1]? = _ from hrs).trans (show w2.heap[s + 1]? = _ from h.res).symm
    · exact (h3 i e).trans (h8 i hi)
  refine ⟨W9, hW9, hN9, W10, hW10, hb3, ⟨s + 2, s + 3, s + 4, s + 5, s + 6, _, _, _, _, _, _, _, _, by omega, by omega, by omega, by omega, by omega, by omega, hX W10 hall (by omega), ⟨(by simpa using hbk : Blk W9 _ _ _).of (h3 _ (by omega)), ?_, ?_, ?_, ?_, ?_⟩⟩, hrs⟩
  · obtain ⟨n, hn⟩ := hM.cls; exact ⟨n, hn.of_block (hall _ (by omega))⟩
  · obtain ⟨n, hn⟩ := hM.pr; exact ⟨n, hn.of_block (hall _ (by omega))⟩
  · obtain ⟨n, hn⟩ := hM.jn; exact ⟨n, hn.of_block (hall _ (by omega))⟩
  · obtain ⟨n, hn⟩ := hM.fl; exact ⟨n, hn.of_block (hall _ (by omega))⟩
  · obtain ⟨n, hn⟩ := hM.lk; exact ⟨n, hn.of_block (hall _ (by omega))⟩
set_option maxRecDepth 100000 in
set_option maxHeartbeats 8000000 in
theorem tab_New {w : World} {v0 v1 v2 v3 v4 v5 v6 v7 : Value} (T : Tab) (h : TabAt w v0 v1 v2 v3 v4 v5 v6 v7 T) (hok : TabOk T) (hT : Lib.Utf8Tabs 0 1 w) :
    Calls Tryz.prog 10 #[.agg #[v0, v1, v2, v3, v4, v5, v6, v7]] w fun e w' => Below w.heap.size w w' ∧ NewAns w.heap.size T e w' := by
  have HT := Lib.hid h
  have HO := Lib.hid hok
  have HU := Lib.hid hT
  clear h hok hT
  have hmm := @run_makeMap Tryz.prog
  go_enter Tryz.func10, Tryz.ntmps10
  go_wp2_with fail
  simp only [Nat.add_assoc, Nat.reduceAdd]
  obtain ⟨s, hs⟩ : ∃ s, w.heap.size = s := ⟨_, rfl⟩
  simp only [hs]
  have hst := @NR.start s w v0 v1 v2 v3 v4 v5 v6 v7 T hs
  obtain ⟨W0, hW0⟩ : ∃ W, ((((((((((w.alloc (.cells #[v0, v1, v2, v3, v4, v5, v6, v7] 28)).alloc (.cells #[.int .i64 0, .int .i64 0, .int .i64 0] 40)).alloc (.map #[] 0)).alloc (.map #[] 0)).alloc (.map #[] 0)).alloc (.map #[] 0)).alloc (.map #[] 0)).alloc (.cells #[.slice none 0 0, .slice none 0 0, .slice none 0 0, .slice none 0 0, .slice none 0 0, .slice none 0 0, .slice none 0 0, .slice none 0 0, .map (some (s + 2)), .map (some (s + 3)), .map (some (s + 4)), .map (some (s + 5)), .map (some (s + 6))] 66)).alloc (.cells #[v0, v1, v2, v3, v4, v5, v6, v7, .pointer (some ⟨s + 7, 0, none⟩)] 68)).alloc (.cells #[.func (.func 22) #[.pointer (some ⟨s + 8, 0, none⟩)] #[], .func (.func 23) #[.pointer (some ⟨s + 8, 0, none⟩)] #[], .func (.func 24) #[.pointer (some ⟨s + 8, 0, none⟩)] #[], .func (.func 25) #[.pointer (some ⟨s + 8, 0, none⟩)] #[], .func (.func 26) #[.pointer (some ⟨s + 8, 0, none⟩)] #[], .func (.func 27) #[.pointer (some ⟨s + 8, 0, none⟩)] #[], .func (.func 28) #[.pointer (some ⟨s + 8, 0, none⟩)] #[], .func (.func 29) #[.pointer (some ⟨s + 8, 0, none⟩)] #[], .func (.func 30) #[.pointer (some ⟨s + 8, 0, none⟩)] #[]] 69)) = W := ⟨_, rfl⟩
  rw [hW0] at hst ⊢
  have Hst := Lib.hid hst
  have Hs := Lib.hid hs
  clear hst hW0 hs hmm
  go_loopw [38] (fun i wr => ∃ j : Nat, ((i = .int .i64 0 ∧ j = 0) ∨ (i = .int .i64 1 ∧ j = 1) ∨ (i = .int .i64 2 ∧ j = 2) ∨ (i = .int .i64 3 ∧ j = 3) ∨ (i = .int .i64 4 ∧ j = 4) ∨ (i = .int .i64 5 ∧ j = 5) ∨ (i = .int .i64 6 ∧ j = 6) ∨ (i = .int .i64 7 ∧ j = 7) ∨ (i = .int .i64 8 ∧ j = 8) ∨ (i = .int .i64 9 ∧ j = 9)) ∧ NR s w v0 v1 v2 v3 v4 v5 v6 v7 T j wr) (fun i _ => 9 - (intOf i).toNat)
  case atStart => exact ⟨0, Or.inl ⟨rfl, rfl⟩, Hst.out⟩
  case round =>
    clear Hst
    obtain ⟨j, hji, hnr⟩ := hrel
    rcases hji with ⟨rfl, rfl⟩ | ⟨rfl, rfl⟩ | ⟨rfl, rfl⟩ | ⟨rfl, rfl⟩ | ⟨rfl, rfl⟩ | ⟨rfl, rfl⟩ | ⟨rfl, rfl⟩ | ⟨rfl, rfl⟩ | ⟨rfl, rfl⟩ | ⟨rfl, rfl⟩
    · have hf := hnr.base.fns.cell 0
      have u0 : wr.cell? ⟨s + 9, 0, none⟩ = some (.func (.func 22) #[.pointer (some ⟨s + 8, 0, none⟩)] #[]) := hf
      have hcon := NR.call (j := 0) (by omega) hnr Hs.out HT.out HO.out HU.out
      have Hnr := Lib.hid hnr
      clear hnr hf
      cases hsw : stepW T 0 with
      | none =>
        rw [hsw] at hcon
        have HC := Lib.hid hcon
        clear hcon
        unfold wrongV at HC
        go_wp2_with (go_at_call 22; refine HC.out.mono ?_; rintro e w2 ⟨rfl, hb2, hn2⟩)
        exact ⟨⟨1, Or.inr (Or.inl ⟨rfl, rfl⟩), (hn2 trivial).step ((Below.refl _ w2).alloc (Nat.le_refl _) _)⟩, by decide⟩
      | some x =>
        obtain ⟨xa, xb, xc⟩ := x
        have hck := check_some (by omega) Hnr.out.pre hsw
        have Hck := Lib.hid hck
        rw [hsw] at hcon
        have HC := Lib.hid hcon
        unfold wrongV at HC
        have h1 : (xa == 0) = false := by have := stepW_ne (by omega) _ _ _ hsw; simpa using this
        clear hcon hck hsw
        go_wp2_with (go_at_call 22; refine HC.out.mono ?_; rintro e w2 ⟨rfl, hb2, hn2⟩; have hb3 := hb2.step ((Below.refl _ w2).alloc (Nat.le_refl _) (.cells #[.int .i64 xa, .int .i64 xb, .int .i64 xc] 40)); obtain ⟨r1, r2, r3, f1, f2, f3⟩ := wrong_facts hb3.res)
        have hg := Blk.new w2 40 #[.int .i64 xa, .int .i64 xb, .int .i64 xc]
        have hgl : s + 1 < w2.heap.size := by have := hb2.size; omega
        clear hb2 hn2 HC HT HO HU
        obtain ⟨g, hge⟩ : ∃ g, w2.heap.size = g := ⟨_, rfl⟩
        rw [hge] at hg hgl
        simp only [hge]
        obtain ⟨W2, hW2⟩ : ∃ W, w2.alloc (.cells #[.int .i64 xa, .int .i64 xb, .int .i64 xc] 40) = W := ⟨_, rfl⟩
        rw [hW2] at hg hb3 r1 r2 r3 f1 f2 f3 ⊢
        clear hW2 hge
        obtain ⟨s1, s2, s3, -, -, -⟩ := wrong_facts hg
        have Hb3 := Lib.hid hb3
        have Hg := Lib.hid hg
        clear hb3 hg
        go_region
        all_goals (
          have hR := Blk.of (Hb3.out.res.set3 (.int .i64 xa) (.int .i64 xb) (.int .i64 xc)) (w' := (((W2.setCell ⟨s + 1, 0, none⟩ (.int .i64 xa)).setCell ⟨s + 1, 1, none⟩ (.int .i64 xb)).setCell ⟨s + 1, 2, none⟩ (.int .i64 xc)).drew) rfl
          have hle : w.heap.size ≤ s + 1 := by have := Hs.out; omega
          have hbe : Below w.heap.size w ((((W2.setCell ⟨s + 1, 0, none⟩ (.int .i64 xa)).setCell ⟨s + 1, 1, none⟩ (.int .i64 xb)).setCell ⟨s + 1, 2, none⟩ (.int .i64 xc)).drew) := (((Hb3.out.below.setCell hle _).setCell hle _).setCell hle _).drew
          obtain ⟨W3, hW3⟩ : ∃ W, (((W2.setCell ⟨s + 1, 0, none⟩ (.int .i64 xa)).setCell ⟨s + 1, 1, none⟩ (.int .i64 xb)).setCell ⟨s + 1, 2, none⟩ (.int .i64 xc)).drew = W := ⟨_, rfl⟩
          rw [hW3] at hR hbe ⊢
          obtain ⟨z1, z2, z3, -, -, -⟩ := wrong_facts hR
          have Hbe := Lib.hid hbe
          clear hR hbe hW3 hle s1 s2 s3 r1 r2 r3 f1 f2 f3
          go_wp2_with fail
          refine bodyPost_ret (v := .tuple #[.pointer none, .agg #[.int .i64 xa, .int .i64 xb, .int .i64 xc]]) ?_ rfl ⟨Hbe.out, ?_⟩
          · simp [results, Tryz.results10, go_sem, z1, z2, z3]
          · exact NewAns.bad Hck.out)
    · have hf := hnr.base.fns.cell 1
      have u0 : wr.cell? ⟨s + 9, 1, none⟩ = some (.func (.func 23) #[.pointer (some ⟨s + 8, 0, none⟩)] #[]) := hf
      have hcon := NR.call (j := 1) (by omega) hnr Hs.out HT.out HO.out HU.out
      have Hnr := Lib.hid hnr
      clear hnr hf
      cases hsw : stepW T 1 with
      | none =>
        rw [hsw] at hcon
        have HC := Lib.hid hcon
        clear hcon
        unfold wrongV at HC
        go_wp2_with (go_at_call 23; refine HC.out.mono ?_; rintro e w2 ⟨rfl, hb2, hn2⟩)
        exact ⟨⟨2, Or.inr (Or.inr (Or.inl ⟨rfl, rfl⟩)), (hn2 trivial).step ((Below.refl _ w2).alloc (Nat.le_refl _) _)⟩, by decide⟩
      | some x =>
        obtain ⟨xa, xb, xc⟩ := x
        have hck := check_some (by omega) Hnr.out.pre hsw
        have Hck := Lib.hid hck
        rw [hsw] at hcon
        have HC := Lib.hid hcon
        unfold wrongV at HC
        have h1 : (xa == 0) = false := by have := stepW_ne (by omega) _ _ _ hsw; simpa using this
        clear hcon hck hsw
        go_wp2_with (go_at_call 23; refine HC.out.mono ?_; rintro e w2 ⟨rfl, hb2, hn2⟩; have hb3 := hb2.step ((Below.refl _ w2).alloc (Nat.le_refl _) (.cells #[.int .i64 xa, .int .i64 xb, .int .i64 xc] 40)); obtain ⟨r1, r2, r3, f1, f2, f3⟩ := wrong_facts hb3.res)
        have hg := Blk.new w2 40 #[.int .i64 xa, .int .i64 xb, .int .i64 xc]
        have hgl : s + 1 < w2.heap.size := by have := hb2.size; omega
        clear hb2 hn2 HC HT HO HU
        obtain ⟨g, hge⟩ : ∃ g, w2.heap.size = g := ⟨_, rfl⟩
        rw [hge] at hg hgl
        simp only [hge]
        obtain ⟨W2, hW2⟩ : ∃ W, w2.alloc (.cells #[.int .i64 xa, .int .i64 xb, .int .i64 xc] 40) = W := ⟨_, rfl⟩
        rw [hW2] at hg hb3 r1 r2 r3 f1 f2 f3 ⊢
        clear hW2 hge
        obtain ⟨s1, s2, s3, -, -, -⟩ := wrong_facts hg
        have Hb3 := Lib.hid hb3
        have Hg := Lib.hid hg
        clear hb3 hg
        go_region
        all_goals (
          have hR := Blk.of (Hb3.out.res.set3 (.int .i64 xa) (.int .i64 xb) (.int .i64 xc)) (w' := (((W2.setCell ⟨s + 1, 0, none⟩ (.int .i64 xa)).setCell ⟨s + 1, 1, none⟩ (.int .i64 xb)).setCell ⟨s + 1, 2, none⟩ (.int .i64 xc)).drew) rfl
          have hle : w.heap.size ≤ s + 1 := by have := Hs.out; omega
          have hbe : Below w.heap.size w ((((W2.setCell ⟨s + 1, 0, none⟩ (.int .i64 xa)).setCell ⟨s + 1, 1, none⟩ (.int .i64 xb)).setCell ⟨s + 1, 2, none⟩ (.int .i64 xc)).drew) := (((Hb3.out.below.setCell hle _).setCell hle _).setCell hle _).drew
          obtain ⟨W3, hW3⟩ : ∃ W, (((W2.setCell ⟨s + 1, 0, none⟩ (.int .i64 xa)).setCell ⟨s + 1, 1, none⟩ (.int .i64 xb)).setCell ⟨s + 1, 2, none⟩ (.int .i64 xc)).drew = W := ⟨_, rfl⟩
          rw [hW3] at hR hbe ⊢
          obtain ⟨z1, z2, z3, -, -, -⟩ := wrong_facts hR
          have Hbe := Lib.hid hbe
          clear hR hbe hW3 hle s1 s2 s3 r1 r2 r3 f1 f2 f3
          go_wp2_with fail
          refine bodyPost_ret (v := .tuple #[.pointer none, .agg #[.int .i64 xa, .int .i64 xb, .int .i64 xc]]) ?_ rfl ⟨Hbe.out, ?_⟩
          · simp [results, Tryz.results10, go_sem, z1, z2, z3]
          · exact NewAns.bad Hck.out)
    · have hf := hnr.base.fns.cell 2
      have u0 : wr.cell? ⟨s + 9, 2, none⟩ = some (.func (.func 24) #[.pointer (some ⟨s + 8, 0, none⟩)] #[]) := hf
      have hcon := NR.call (j := 2) (by omega) hnr Hs.out HT.out HO.out HU.out
      have Hnr := Lib.hid hnr
      clear hnr hf
      cases hsw : stepW T 2 with
      | none =>
        rw [hsw] at hcon
        have HC := Lib.hid hcon
        clear hcon
        unfold wrongV at HC
        go_wp2_with (go_at_call 24; refine HC.out.mono ?_; rintro e w2 ⟨rfl, hb2, hn2⟩)
        exact ⟨⟨3, Or.inr (Or.inr (Or.inr (Or.inl ⟨rfl, rfl⟩))), (hn2 trivial).step ((Below.refl _ w2).alloc (Nat.le_refl _) _)⟩, by decide⟩
      | some x =>
        obtain ⟨xa, xb, xc⟩ := x
        have hck := check_some (by omega) Hnr.out.pre hsw
        have Hck := Lib.hid hck
        rw [hsw] at hcon
        have HC := Lib.hid hcon
        unfold wrongV at HC
        have h1 : (xa == 0) = false := by have := stepW_ne (by omega) _ _ _ hsw; simpa using this
        clear hcon hck hsw
        go_wp2_with (go_at_call 24; refine HC.out.mono ?_; rintro e w2 ⟨rfl, hb2, hn2⟩; have hb3 := hb2.step ((Below.refl _ w2).alloc (Nat.le_refl _) (.cells #[.int .i64 xa, .int .i64 xb, .int .i64 xc] 40)); obtain ⟨r1, r2, r3, f1, f2, f3⟩ := wrong_facts hb3.res)
        have hg := Blk.new w2 40 #[.int .i64 xa, .int .i64 xb, .int .i64 xc]
        have hgl : s + 1 < w2.heap.size := by have := hb2.size; omega
        clear hb2 hn2 HC HT HO HU
        obtain ⟨g, hge⟩ : ∃ g, w2.heap.size = g := ⟨_, rfl⟩
        rw [hge] at hg hgl
        simp only [hge]
        obtain ⟨W2, hW2⟩ : ∃ W, w2.alloc (.cells #[.int .i64 xa, .int .i64 xb, .int .i64 xc] 40) = W := ⟨_, rfl⟩
        rw [hW2] at hg hb3 r1 r2 r3 f1 f2 f3 ⊢
        clear hW2 hge
        obtain ⟨s1, s2, s3, -, -, -⟩ := wrong_facts hg
        have Hb3 := Lib.hid hb3
        have Hg := Lib.hid hg
        clear hb3 hg
        go_region
        all_goals (
          have hR := Blk.of (Hb3.out.res.set3 (.int .i64 xa) (.int .i64 xb) (.int .i64 xc)) (w' := (((W2.setCell ⟨s + 1, 0, none⟩ (.int .i64 xa)).setCell ⟨s + 1, 1, none⟩ (.int .i64 xb)).setCell ⟨s + 1, 2, none⟩ (.int .i64 xc)).drew) rfl
          have hle : w.heap.size ≤ s + 1 := by have := Hs.out; omega
          have hbe : Below w.heap.size w ((((W2.setCell ⟨s + 1, 0, none⟩ (.int .i64 xa)).setCell ⟨s + 1, 1, none⟩ (.int .i64 xb)).setCell ⟨s + 1, 2, none⟩ (.int .i64 xc)).drew) := (((Hb3.out.below.setCell hle _).setCell hle _).setCell hle _).drew
          obtain ⟨W3, hW3⟩ : ∃ W, (((W2.setCell ⟨s + 1, 0, none⟩ (.int .i64 xa)).setCell ⟨s + 1, 1, none⟩ (.int .i64 xb)).setCell ⟨s + 1, 2, none⟩ (.int .i64 xc)).drew = W := ⟨_, rfl⟩
          rw [hW3] at hR hbe ⊢
          obtain ⟨z1, z2, z3, -, -, -⟩ := wrong_facts hR
          have Hbe := Lib.hid hbe
          clear hR hbe hW3 hle s1 s2 s3 r1 r2 r3 f1 f2 f3
          go_wp2_with fail
          refine bodyPost_ret (v := .tuple #[.pointer none, .agg #[.int .i64 xa, .int .i64 xb, .int .i64 xc]]) ?_ rfl ⟨Hbe.out, ?_⟩
          · simp [results, Tryz.results10, go_sem, z1, z2, z3]
          · exact NewAns.bad Hck.out)
    · have hf := hnr.base.fns.cell 3
      have u0 : wr.cell? ⟨s + 9, 3, none⟩ = some (.func (.func 25) #[.pointer (some ⟨s + 8, 0, none⟩)] #[]) := hf
      have hcon := NR.call (j := 3) (by omega) hnr Hs.out HT.out HO.out HU.out
      have Hnr := Lib.hid hnr
      clear hnr hf
      cases hsw : stepW T 3 with
      | none =>
        rw [hsw] at hcon
        have HC := Lib.hid hcon
        clear hcon
        unfold wrongV at HC
        go_wp2_with (go_at_call 25; refine HC.out.mono ?_; rintro e w2 ⟨rfl, hb2, hn2⟩)
        exact ⟨⟨4, Or.inr (Or.inr (Or.inr (Or.inr (Or.inl ⟨rfl, rfl⟩)))), (hn2 trivial).step ((Below.refl _ w2).alloc (Nat.le_refl _) _)⟩, by decide⟩
      | some x =>
        obtain ⟨xa, xb, xc⟩ := x
        have hck := check_some (by omega) Hnr.out.pre hsw
        have Hck := Lib.hid hck
        rw [hsw] at hcon
        have HC := Lib.hid hcon
        unfold wrongV at HC
        have h1 : (xa == 0) = false := by have := stepW_ne (by omega) _ _ _ hsw; simpa using this
        clear hcon hck hsw
        go_wp2_with (go_at_call 25; refine HC.out.mono ?_; rintro e w2 ⟨rfl, hb2, hn2⟩; have hb3 := hb2.step ((Below.refl _ w2).alloc (Nat.le_refl _) (.cells #[.int .i64 xa, .int .i64 xb, .int .i64 xc] 40)); obtain ⟨r1, r2, r3, f1, f2, f3⟩ := wrong_facts hb3.res)
        have hg := Blk.new w2 40 #[.int .i64 xa, .int .i64 xb, .int .i64 xc]
        have hgl : s + 1 < w2.heap.size := by have := hb2.size; omega
        clear hb2 hn2 HC HT HO HU
        obtain ⟨g, hge⟩ : ∃ g, w2.heap.size = g := ⟨_, rfl⟩
        rw [hge] at hg hgl
        simp only [hge]
        obtain ⟨W2, hW2⟩ : ∃ W, w2.alloc (.cells #[.int .i64 xa, .int .i64 xb, .int .i64 xc] 40) = W := ⟨_, rfl⟩
        rw [hW2] at hg hb3 r1 r2 r3 f1 f2 f3 ⊢
        clear hW2 hge
        obtain ⟨s1, s2, s3, -, -, -⟩ := wrong_facts hg
        have Hb3 := Lib.hid hb3
        have Hg := Lib.hid hg
        clear hb3 hg
        go_region
        all_goals (
          have hR := Blk.of (Hb3.out.res.set3 (.int .i64 xa) (.int .i64 xb) (.int .i64 xc)) (w' := (((W2.setCell ⟨s + 1, 0, none⟩ (.int .i64 xa)).setCell ⟨s + 1, 1, none⟩ (.int .i64 xb)).setCell ⟨s + 1, 2, none⟩ (.int .i64 xc)).drew) rfl
          have hle : w.heap.size ≤ s + 1 := by have := Hs.out; omega
          have hbe : Below w.heap.size w ((((W2.setCell ⟨s + 1, 0, none⟩ (.int .i64 xa)).setCell ⟨s + 1, 1, none⟩ (.int .i64 xb)).setCell ⟨s + 1, 2, none⟩ (.int .i64 xc)).drew) := (((Hb3.out.below.setCell hle _).setCell hle _).setCell hle _).drew
          obtain ⟨W3, hW3⟩ : ∃ W, (((W2.setCell ⟨s + 1, 0, none⟩ (.int .i64 xa)).setCell ⟨s + 1, 1, none⟩ (.int .i64 xb)).setCell ⟨s + 1, 2, none⟩ (.int .i64 xc)).drew = W := ⟨_, rfl⟩
          rw [hW3] at hR hbe ⊢
          obtain ⟨z1, z2, z3, -, -, -⟩ := wrong_facts hR
          have Hbe := Lib.hid hbe
          clear hR hbe hW3 hle s1 s2 s3 r1 r2 r3 f1 f2 f3
          go_wp2_with fail
          refine bodyPost_ret (v := .tuple #[.pointer none, .agg #[.int .i64 xa, .int .i64 xb, .int .i64 xc]]) ?_ rfl ⟨Hbe.out, ?_⟩
          · simp [results, Tryz.results10, go_sem, z1, z2, z3]
          · exact NewAns.bad Hck.out)
    · have hf := hnr.base.fns.cell 4
      have u0 : wr.cell? ⟨s + 9, 4, none⟩ = some (.func (.func 26) #[.pointer (some ⟨s + 8, 0, none⟩)] #[]) := hf
      have hcon := NR.call (j := 4) (by omega) hnr Hs.out HT.out HO.out HU.out
      have Hnr := Lib.hid hnr
      clear hnr hf
      cases hsw : stepW T 4 with
      | none =>
        rw [hsw] at hcon
        have HC := Lib.hid hcon
        clear hcon
        unfold wrongV at HC
        go_wp2_with (go_at_call 26; refine HC.out.mono ?_; rintro e w2 ⟨rfl, hb2, hn2⟩)
        exact ⟨⟨5, Or.inr (Or.inr (Or.inr (Or.inr (Or.inr (Or.inl ⟨rfl, rfl⟩))))), (hn2 trivial).step ((Below.refl _ w2).alloc (Nat.le_refl _) _)⟩, by decide⟩
      | some x =>
        obtain ⟨xa, xb, xc⟩ := x
        have hck := check_some (by omega) Hnr.out.pre hsw
        have Hck := Lib.hid hck
        rw [hsw] at hcon
        have HC := Lib.hid hcon
        unfold wrongV at HC
        have h1 : (xa == 0) = false := by have := stepW_ne (by omega) _ _ _ hsw; simpa using this
        clear hcon hck hsw
        go_wp2_with (go_at_call 26; refine HC.out.mono ?_; rintro e w2 ⟨rfl, hb2, hn2⟩; have hb3 := hb2.step ((Below.refl _ w2).alloc (Nat.le_refl _) (.cells #[.int .i64 xa, .int .i64 xb, .int .i64 xc] 40)); obtain ⟨r1, r2, r3, f1, f2, f3⟩ := wrong_facts hb3.res)
        have hg := Blk.new w2 40 #[.int .i64 xa, .int .i64 xb, .int .i64 xc]
        have hgl : s + 1 < w2.heap.size := by have := hb2.size; omega
        clear hb2 hn2 HC HT HO HU
        obtain ⟨g, hge⟩ : ∃ g, w2.heap.size = g := ⟨_, rfl⟩
        rw [hge] at hg hgl
        simp only [hge]
        obtain ⟨W2, hW2⟩ : ∃ W, w2.alloc (.cells #[.int .i64 xa, .int .i64 xb, .int .i64 xc] 40) = W := ⟨_, rfl⟩
        rw [hW2] at hg hb3 r1 r2 r3 f1 f2 f3 ⊢
        clear hW2 hge
        obtain ⟨s1, s2, s3, -, -, -⟩ := wrong_facts hg
        have Hb3 := Lib.hid hb3
        have Hg := Lib.hid hg
        clear hb3 hg
        go_region
        all_goals (
          have hR := Blk.of (Hb3.out.res.set3 (.int .i64 xa) (.int .i64 xb) (.int .i64 xc)) (w' := (((W2.setCell ⟨s + 1, 0, none⟩ (.int .i64 xa)).setCell ⟨s + 1, 1, none⟩ (.int .i64 xb)).setCell ⟨s + 1, 2, none⟩ (.int .i64 xc)).drew) rfl
          have hle : w.heap.size ≤ s + 1 := by have := Hs.out; omega
          have hbe : Below w.heap.size w ((((W2.setCell ⟨s + 1, 0, none⟩ (.int .i64 xa)).setCell ⟨s + 1, 1, none⟩ (.int .i64 xb)).setCell ⟨s + 1, 2, none⟩ (.int .i64 xc)).drew) := (((Hb3.out.below.setCell hle _).setCell hle _).setCell hle _).drew
          obtain ⟨W3, hW3⟩ : ∃ W, (((W2.setCell ⟨s + 1, 0, none⟩ (.int .i64 xa)).setCell ⟨s + 1, 1, none⟩ (.int .i64 xb)).setCell ⟨s + 1, 2, none⟩ (.int .i64 xc)).drew = W := ⟨_, rfl⟩
          rw [hW3] at hR hbe ⊢
          obtain ⟨z1, z2, z3, -, -, -⟩ := wrong_facts hR
          have Hbe := Lib.hid hbe
          clear hR hbe hW3 hle s1 s2 s3 r1 r2 r3 f1 f2 f3
          go_wp2_with fail
          refine bodyPost_ret (v := .tuple #[.pointer none, .agg #[.int .i64 xa, .int .i64 xb, .int .i64 xc]]) ?_ rfl ⟨Hbe.out, ?_⟩
          · simp [results, Tryz.results10, go_sem, z1, z2, z3]
          · exact NewAns.bad Hck.out)
    · have hf := hnr.base.fns.cell 5
      have u0 : wr.cell? ⟨s + 9, 5, none⟩ = some (.func (.func 27) #[.pointer (some ⟨s + 8, 0, none⟩)] #[]) := hf
      have hcon := NR.call (j := 5) (by omega) hnr Hs.out HT.out HO.out HU.out
      have Hnr := Lib.hid hnr
      clear hnr hf
      cases hsw : stepW T 5 with
      | none =>
        rw [hsw] at hcon
        have HC := Lib.hid hcon
        clear hcon
        unfold wrongV at HC
        go_wp2_with (go_at_call 27; refine HC.out.mono ?_; rintro e w2 ⟨rfl, hb2, hn2⟩)
        exact ⟨⟨6, Or.inr (Or.inr (Or.inr (Or.inr (Or.inr (Or.inr (Or.inl ⟨rfl, rfl⟩)))))), (hn2 trivial).step ((Below.refl _ w2).alloc (Nat.le_refl _) _)⟩, by decide⟩
      | some x =>
        obtain ⟨xa, xb, xc⟩ := x
        have hck := check_some (by omega) Hnr.out.pre hsw
        have Hck := Lib.hid hck
        rw [hsw] at hcon
        have HC := Lib.hid hcon
        unfold wrongV at HC
        have h1 : (xa == 0) = false := by have := stepW_ne (by omega) _ _ _ hsw; simpa using this
        clear hcon hck hsw
        go_wp2_with (go_at_call 27; refine HC.out.mono ?_; rintro e w2 ⟨rfl, hb2, hn2⟩; have hb3 := hb2.step ((Below.refl _ w2).alloc (Nat.le_refl _) (.cells #[.int .i64 xa, .int .i64 xb, .int .i64 xc] 40)); obtain ⟨r1, r2, r3, f1, f2, f3⟩ := wrong_facts hb3.res)
        have hg := Blk.new w2 40 #[.int .i64 xa, .int .i64 xb, .int .i64 xc]
        have hgl : s + 1 < w2.heap.size := by have := hb2.size; omega
        clear hb2 hn2 HC HT HO HU
        obtain ⟨g, hge⟩ : ∃ g, w2.heap.size = g := ⟨_, rfl⟩
        rw [hge] at hg hgl
        simp only [hge]
        obtain ⟨W2, hW2⟩ : ∃ W, w2.alloc (.cells #[.int .i64 xa, .int .i64 xb, .int .i64 xc] 40) = W := ⟨_, rfl⟩
        rw [hW2] at hg hb3 r1 r2 r3 f1 f2 f3 ⊢
        clear hW2 hge
        obtain ⟨s1, s2, s3, -, -, -⟩ := wrong_facts hg
        have Hb3 := Lib.hid hb3
        have Hg := Lib.hid hg
        clear hb3 hg
        go_region
        all_goals (
          have hR := Blk.of (Hb3.out.res.set3 (.int .i64 xa) (.int .i64 xb) (.int .i64 xc)) (w' := (((W2.setCell ⟨s + 1, 0, none⟩ (.int .i64 xa)).setCell ⟨s + 1, 1, none⟩ (.int .i64 xb)).setCell ⟨s + 1, 2, none⟩ (.int .i64 xc)).drew) rfl
          have hle : w.heap.size ≤ s + 1 := by have := Hs.out; omega
          have hbe : Below w.heap.size w ((((W2.setCell ⟨s + 1, 0, none⟩ (.int .i64 xa)).setCell ⟨s + 1, 1, none⟩ (.int .i64 xb)).setCell ⟨s + 1, 2, none⟩ (.int .i64 xc)).drew) := (((Hb3.out.below.setCell hle _).setCell hle _).setCell hle _).drew
          obtain ⟨W3, hW3⟩ : ∃ W, (((W2.setCell ⟨s + 1, 0, none⟩ (.int .i64 xa)).setCell ⟨s + 1, 1, none⟩ (.int .i64 xb)).setCell ⟨s + 1, 2, none⟩ (.int .i64 xc)).drew = W := ⟨_, rfl⟩
          rw [hW3] at hR hbe ⊢
          obtain ⟨z1, z2, z3, -, -, -⟩ := wrong_facts hR
          have Hbe := Lib.hid hbe
          clear hR hbe hW3 hle s1 s2 s3 r1 r2 r3 f1 f2 f3
          go_wp2_with fail
          refine bodyPost_ret (v := .tuple #[.pointer none, .agg #[.int .i64 xa, .int .i64 xb, .int .i64 xc]]) ?_ rfl ⟨Hbe.out, ?_⟩
          · simp [results, Tryz.results10, go_sem, z1, z2, z3]
          · exact NewAns.bad Hck.out)
    · have hf := hnr.base.fns.cell 6
      have u0 : wr.cell? ⟨s + 9, 6, none⟩ = some (.func (.func 28) #[.pointer (some ⟨s + 8, 0, none⟩)] #[]) := hf
      have hcon := NR.call (j := 6) (by omega) hnr Hs.out HT.out HO.out HU.out
      have Hnr := Lib.hid hnr
      clear hnr hf
      cases hsw : stepW T 6 with
      | none =>
        rw [hsw] at hcon
        have HC := Lib.hid hcon
        clear hcon
        unfold wrongV at HC
        go_wp2_with (go_at_call 28; refine HC.out.mono ?_; rintro e w2 ⟨rfl, hb2, hn2⟩)
        exact ⟨⟨7, Or.inr (Or.inr (Or.inr (Or.inr (Or.inr (Or.inr (Or.inr (Or.inl ⟨rfl, rfl⟩))))))), (hn2 trivial).step ((Below.refl _ w2).alloc (Nat.le_refl _) _)⟩, by decide⟩
      | some x =>
        obtain ⟨xa, xb, xc⟩ := x
        have hck := check_some (by omega) Hnr.out.pre hsw
        have Hck := Lib.hid hck
        rw [hsw] at hcon
        have HC := Lib.hid hcon
        unfold wrongV at HC
        have h1 : (xa == 0) = false := by have := stepW_ne (by omega) _ _ _ hsw; simpa using this
        clear hcon hck hsw
        go_wp2_with (go_at_call 28; refine HC.out.mono ?_; rintro e w2 ⟨rfl, hb2, hn2⟩; have hb3 := hb2.step ((Below.refl _ w2).alloc (Nat.le_refl _) (.cells #[.int .i64 xa, .int .i64 xb, .int .i64 xc] 40)); obtain ⟨r1, r2, r3, f1, f2, f3⟩ := wrong_facts hb3.res)
        have hg := Blk.new w2 40 #[.int .i64 xa, .int .i64 xb, .int .i64 xc]
        have hgl : s + 1 < w2.heap.size := by have := hb2.size; omega
        clear hb2 hn2 HC HT HO HU
        obtain ⟨g, hge⟩ : ∃ g, w2.heap.size = g := ⟨_, rfl⟩
        rw [hge] at hg hgl
        simp only [hge]
        obtain ⟨W2, hW2⟩ : ∃ W, w2.alloc (.cells #[.int .i64 xa, .int .i64 xb, .int .i64 xc] 40) = W := ⟨_, rfl⟩
        rw [hW2] at hg hb3 r1 r2 r3 f1 f2 f3 ⊢
        clear hW2 hge
        obtain ⟨s1, s2, s3, -, -, -⟩ := wrong_facts hg
        have Hb3 := Lib.hid hb3
        have Hg := Lib.hid hg
        clear hb3 hg
        go_region
        all_goals (
          have hR := Blk.of (Hb3.out.res.set3 (.int .i64 xa) (.int .i64 xb) (.int .i64 xc)) (w' := (((W2.setCell ⟨s + 1, 0, none⟩ (.int .i64 xa)).setCell ⟨s + 1, 1, none⟩ (.int .i64 xb)).setCell ⟨s + 1, 2, none⟩ (.int .i64 xc)).drew) rfl
          have hle : w.heap.size ≤ s + 1 := by have := Hs.out; omega
          have hbe : Below w.heap.size w ((((W2.setCell ⟨s + 1, 0, none⟩ (.int .i64 xa)).setCell ⟨s + 1, 1, none⟩ (.int .i64 xb)).setCell ⟨s + 1, 2, none⟩ (.int .i64 xc)).drew) := (((Hb3.out.below.setCell hle _).setCell hle _).setCell hle _).drew
          obtain ⟨W3, hW3⟩ : ∃ W, (((W2.setCell ⟨s + 1, 0, none⟩ (.int .i64 xa)).setCell ⟨s + 1, 1, none⟩ (.int .i64 xb)).setCell ⟨s + 1, 2, none⟩ (.int .i64 xc)).drew = W := ⟨_, rfl⟩
          rw [hW3] at hR hbe ⊢
          obtain ⟨z1, z2, z3, -, -, -⟩ := wrong_facts hR
          have Hbe := Lib.hid hbe
          clear hR hbe hW3 hle s1 s2 s3 r1 r2 r3 f1 f2 f3
          go_wp2_with fail
          refine bodyPost_ret (v := .tuple #[.pointer none, .agg #[.int .i64 xa, .int .i64 xb, .int .i64 xc]]) ?_ rfl ⟨Hbe.out, ?_⟩
          · simp [results, Tryz.results10, go_sem, z1, z2, z3]
          · exact NewAns.bad Hck.out)
    · have hf := hnr.base.fns.cell 7
      have u0 : wr.cell? ⟨s + 9, 7, none⟩ = some (.func (.func 29) #[.pointer (some ⟨s + 8, 0, none⟩)] #[]) := hf
      have hcon := NR.call (j := 7) (by omega) hnr Hs.out HT.out HO.out HU.out
      have Hnr := Lib.hid hnr
      clear hnr hf
      cases hsw : stepW T 7 with
      | none =>
        rw [hsw] at hcon
        have HC := Lib.hid hcon
        clear hcon
        unfold wrongV at HC
        go_wp2_with (go_at_call 29; refine HC.out.mono ?_; rintro e w2 ⟨rfl, hb2, hn2⟩)
        exact ⟨⟨8, Or.inr (Or.inr (Or.inr (Or.inr (Or.inr (Or.inr (Or.inr (Or.inr (Or.inl ⟨rfl, rfl⟩)))))))), (hn2 trivial).step ((Below.refl _ w2).alloc (Nat.le_refl _) _)⟩, by decide⟩
      | some x =>
        obtain ⟨xa, xb, xc⟩ := x
        have hck := check_some (by omega) Hnr.out.pre hsw
        have Hck := Lib.hid hck
        rw [hsw] at hcon
        have HC := Lib.hid hcon
        unfold wrongV at HC
        have h1 : (xa == 0) = false := by have := stepW_ne (by omega) _ _ _ hsw; simpa using this
        clear hcon hck hsw
        go_wp2_with (go_at_call 29; refine HC.out.mono ?_; rintro e w2 ⟨rfl, hb2, hn2⟩; have hb3 := hb2.step ((Below.refl _ w2).alloc (Nat.le_refl _) (.cells #[.int .i64 xa, .int .i64 xb, .int .i64 xc] 40)); obtain ⟨r1, r2, r3, f1, f2, f3⟩ := wrong_facts hb3.res)
        have hg := Blk.new w2 40 #[.int .i64 xa, .int .i64 xb, .int .i64 xc]
        have hgl : s + 1 < w2.heap.size := by have := hb2.size; omega
        clear hb2 hn2 HC HT HO HU
        obtain ⟨g, hge⟩ : ∃ g, w2.heap.size = g := ⟨_, rfl⟩
        rw [hge] at hg hgl
        simp only [hge]
        obtain ⟨W2, hW2⟩ : ∃ W, w2.alloc (.cells #[.int .i64 xa, .int .i64 xb, .int .i64 xc] 40) = W := ⟨_, rfl⟩
        rw [hW2] at hg hb3 r1 r2 r3 f1 f2 f3 ⊢
        clear hW2 hge
        obtain ⟨s1, s2, s3, -, -, -⟩ := wrong_facts hg
        have Hb3 := Lib.hid hb3
        have Hg := Lib.hid hg
        clear hb3 hg
        go_region
        all_goals (
          have hR := Blk.of (Hb3.out.res.set3 (.int .i64 xa) (.int .i64 xb) (.int .i64 xc)) (w' := (((W2.setCell ⟨s + 1, 0, none⟩ (.int .i64 xa)).setCell ⟨s + 1, 1, none⟩ (.int .i64 xb)).setCell ⟨s + 1, 2, none⟩ (.int .i64 xc)).drew) rfl
          have hle : w.heap.size ≤ s + 1 := by have := Hs.out; omega
          have hbe : Below w.heap.size w ((((W2.setCell ⟨s + 1, 0, none⟩ (.int .i64 xa)).setCell ⟨s + 1, 1, none⟩ (.int .i64 xb)).setCell ⟨s + 1, 2, none⟩ (.int .i64 xc)).drew) := (((Hb3.out.below.setCell hle _).setCell hle _).setCell hle _).drew
          obtain ⟨W3, hW3⟩ : ∃ W, (((W2.setCell ⟨s + 1, 0, none⟩ (.int .i64 xa)).setCell ⟨s + 1, 1, none⟩ (.int .i64 xb)).setCell ⟨s + 1, 2, none⟩ (.int .i64 xc)).drew = W := ⟨_, rfl⟩
          rw [hW3] at hR hbe ⊢
          obtain ⟨z1, z2, z3, -, -, -⟩ := wrong_facts hR
          have Hbe := Lib.hid hbe
          clear hR hbe hW3 hle s1 s2 s3 r1 r2 r3 f1 f2 f3
          go_wp2_with fail
          refine bodyPost_ret (v := .tuple #[.pointer none, .agg #[.int .i64 xa, .int .i64 xb, .int .i64 xc]]) ?_ rfl ⟨Hbe.out, ?_⟩
          · simp [results, Tryz.results10, go_sem, z1, z2, z3]
          · exact NewAns.bad Hck.out)
    · have hf := hnr.base.fns.cell 8
      have u0 : wr.cell? ⟨s + 9, 8, none⟩ = some (.func (.func 30) #[.pointer (some ⟨s + 8, 0, none⟩)] #[]) := hf
      have hcon := NR.call (j := 8) (by omega) hnr Hs.out HT.out HO.out HU.out
      have Hnr := Lib.hid hnr
      clear hnr hf
      cases hsw : stepW T 8 with
      | none =>
        rw [hsw] at hcon
        have HC := Lib.hid hcon
        clear hcon
        unfold wrongV at HC
        go_wp2_with (go_at_call 30; refine HC.out.mono ?_; rintro e w2 ⟨rfl, hb2, hn2⟩)
        exact ⟨⟨9, Or.inr (Or.inr (Or.inr (Or.inr (Or.inr (Or.inr (Or.inr (Or.inr (Or.inr (⟨rfl, rfl⟩))))))))), (hn2 trivial).step ((Below.refl _ w2).alloc (Nat.le_refl _) _)⟩, by decide⟩
      | some x =>
        obtain ⟨xa, xb, xc⟩ := x
        have hck := check_some (by omega) Hnr.out.pre hsw
        have Hck := Lib.hid hck
        rw [hsw] at hcon
        have HC := Lib.hid hcon
        unfold wrongV at HC
        have h1 : (xa == 0) = false := by have := stepW_ne (by omega) _ _ _ hsw; simpa using this
        clear hcon hck hsw
        go_wp2_with (go_at_call 30; refine HC.out.mono ?_; rintro e w2 ⟨rfl, hb2, hn2⟩; have hb3 := hb2.step ((Below.refl _ w2).alloc (Nat.le_refl _) (.cells #[.int .i64 xa, .int .i64 xb, .int .i64 xc] 40)); obtain ⟨r1, r2, r3, f1, f2, f3⟩ := wrong_facts hb3.res)
        have hg := Blk.new w2 40 #[.int .i64 xa, .int .i64 xb, .int .i64 xc]
        have hgl : s + 1 < w2.heap.size := by have := hb2.size; omega
        clear hb2 hn2 HC HT HO HU
        obtain ⟨g, hge⟩ : ∃ g, w2.heap.size = g := ⟨_, rfl⟩
        rw [hge] at hg hgl
        simp only [hge]
        obtain ⟨W2, hW2⟩ : ∃ W, w2.alloc (.cells #[.int .i64 xa, .int .i64 xb, .int .i64 xc] 40) = W := ⟨_, rfl⟩
        rw [hW2] at hg hb3 r1 r2 r3 f1 f2 f3 ⊢
        clear hW2 hge
        obtain ⟨s1, s2, s3, -, -, -⟩ := wrong_facts hg
        have Hb3 := Lib.hid hb3
        have Hg := Lib.hid hg
        clear hb3 hg
        go_region
        all_goals (
          have hR := Blk.of (Hb3.out.res.set3 (.int .i64 xa) (.int .i64 xb) (.int .i64 xc)) (w' := (((W2.setCell ⟨s + 1, 0, none⟩ (.int .i64 xa)).setCell ⟨s + 1, 1, none⟩ (.int .i64 xb)).setCell ⟨s + 1, 2, none⟩ (.int .i64 xc)).drew) rfl
          have hle : w.heap.size ≤ s + 1 := by have := Hs.out; omega
          have hbe : Below w.heap.size w ((((W2.setCell ⟨s + 1, 0, none⟩ (.int .i64 xa)).setCell ⟨s + 1, 1, none⟩ (.int .i64 xb)).setCell ⟨s + 1, 2, none⟩ (.int .i64 xc)).drew) := (((Hb3.out.below.setCell hle _).setCell hle _).setCell hle _).drew
          obtain ⟨W3, hW3⟩ : ∃ W, (((W2.setCell ⟨s + 1, 0, none⟩ (.int .i64 xa)).setCell ⟨s + 1, 1, none⟩ (.int .i64 xb)).setCell ⟨s + 1, 2, none⟩ (.int .i64 xc)).drew = W := ⟨_, rfl⟩
          rw [hW3] at hR hbe ⊢
          obtain ⟨z1, z2, z3, -, -, -⟩ := wrong_facts hR
          have Hbe := Lib.hid hbe
          clear hR hbe hW3 hle s1 s2 s3 r1 r2 r3 f1 f2 f3
          go_wp2_with fail
          refine bodyPost_ret (v := .tuple #[.pointer none, .agg #[.int .i64 xa, .int .i64 xb, .int .i64 xc]]) ?_ rfl ⟨Hbe.out, ?_⟩
          · simp [results, Tryz.results10, go_sem, z1, z2, z3]
          · exact NewAns.bad Hck.out)
    · have hf := hnr.base.chk.cell 8
      have hnone := check_none hnr.pre
      have Hnone := Lib.hid hnone
      clear hnone
      have hMS := hnr.late (by omega)
      rw [if_pos (by omega)] at hMS
      have hb := hnr.base
      clear hnr
      have hf9 : ∀ w', Below wr.heap.size wr w' → w'.cell? ⟨s + 8, 8, none⟩ = some (.pointer (some ⟨s + 7, 0, none⟩)) ∧ w'.cell? ⟨s, 0, none⟩ = some v0 ∧ w'.cell? ⟨s, 1, none⟩ = some v1 ∧ w'.cell? ⟨s, 2, none⟩ = some v2 ∧ w'.cell? ⟨s, 3, none⟩ = some v3 ∧ w'.cell? ⟨s, 4, none⟩ = some v4 ∧ w'.cell? ⟨s, 5, none⟩ = some v5 ∧ w'.cell? ⟨s, 6, none⟩ = some v6 ∧ w'.cell? ⟨s, 7, none⟩ = some v7 := fun w' hw => by
        have h := hb.step hw
        exact ⟨(h.chk.cell 8).trans rfl, h.box.cell 0, h.box.cell 1, h.box.cell 2, h.box.cell 3, h.box.cell 4, h.box.cell 5, h.box.cell 6, h.box.cell 7⟩
      obtain ⟨u8, b0, b1, b2, b3, b4, b5, b6, b7⟩ := hf9 wr (Below.refl _ _)
      have HSf := Lib.hid hf9
      have Hb := Lib.hid hb
      have HM := Lib.hid hMS
      clear hf9 hf hb hMS
      have Hw := Lib.hid ((Below.refl wr.heap.size wr).drew)
      go_wp2_with fail
      go_region_held3 (fun w' => w'.cell? ⟨s + 8, 8, none⟩ = some (.pointer (some ⟨s + 7, 0, none⟩)) ∧ w'.cell? ⟨s, 0, none⟩ = some v0 ∧ w'.cell? ⟨s, 1, none⟩ = some v1 ∧ w'.cell? ⟨s, 2, none⟩ = some v2 ∧ w'.cell? ⟨s, 3, none⟩ = some v3 ∧ w'.cell? ⟨s, 4, none⟩ = some v4 ∧ w'.cell? ⟨s, 5, none⟩ = some v5 ∧ w'.cell? ⟨s, 6, none⟩ = some v6 ∧ w'.cell? ⟨s, 7, none⟩ = some v7) (first | with_reducible exact HSf.out _ Hw.out | go_keep) ((go_at_call 31; have hcc := tab_copied T HT.out (below_trans Hb.out.below Hw.out) (s + 7) (by have := Hs.out; omega) (by have := (Hb.out.step Hw.out).size; omega); with_reducible (refine hcc.mono ?_); clear hcc; rintro e w2 ⟨⟨u0, u1, u2, u3, u4, u5, u6, u7, rfl, hX⟩, hb2⟩; have hx0 := hX w2 (fun _ _ => rfl) (Nat.le_refl _); have hx1 := hx0.common.form0; have hx2 := hx0.marks.form0; have hx3 := hx0.pairs.form0; have hx4 := hx0.folds.form0; have hx5 := hx0.looks.form0; have hx6 := hx0.drops.form0; have hx7 := hx0.allowed.form0; obtain ⟨scs, -, hx8, -⟩ := hx0.scripts; have hx9 := hx8.form0; clear hx0 hx8; obtain ⟨A0, n0, c0, rfl⟩ := hx9; obtain ⟨A1, n1, c1, rfl⟩ := hx1; obtain ⟨A2, n2, c2, rfl⟩ := hx2; obtain ⟨A3, n3, c3, rfl⟩ := hx3; obtain ⟨A4, n4, c4, rfl⟩ := hx4; obtain ⟨A5, n5, c5, rfl⟩ := hx5; obtain ⟨A6, n6, c6, rfl⟩ := hx6; obtain ⟨A7, n7, c7, rfl⟩ := hx7; have hwn := below_trans Hw.out hb2; clear Hw; have Hw := Lib.hid hwn; have HX := Lib.hid hX; clear hb2 hwn hX; have yb := (HM.out.below Hw.out).book; have yf0 : w2.frozen? ⟨s + 7, 0, none⟩ = false := yb.frozen _; have yf1 : w2.frozen? ⟨s + 7, 1, none⟩ = false := yb.frozen _; have yf2 : w2.frozen? ⟨s + 7, 2, none⟩ = false := yb.frozen _; have yf3 : w2.frozen? ⟨s + 7, 3, none⟩ = false := yb.frozen _; have yf4 : w2.frozen? ⟨s + 7, 4, none⟩ = false := yb.frozen _; have yf5 : w2.frozen? ⟨s + 7, 5, none⟩ = false := yb.frozen _; have yf6 : w2.frozen? ⟨s + 7, 6, none⟩ = false := yb.frozen _; have yf7 : w2.frozen? ⟨s + 7, 7, none⟩ = false := yb.frozen _; have y0 : w2.cell? ⟨s + 7, 0, none⟩ = some (.slice none 0 0) := (yb.cell 0).trans rfl; have y1 : w2.cell? ⟨s + 7, 1, none⟩ = some (.slice none 0 0) := (yb.cell 1).trans rfl; have y2 : w2.cell? ⟨s + 7, 2, none⟩ = some (.slice none 0 0) := (yb.cell 2).trans rfl; have y3 : w2.cell? ⟨s + 7, 3, none⟩ = some (.slice none 0 0) := (yb.cell 3).trans rfl; have y4 : w2.cell? ⟨s + 7, 4, none⟩ = some (.slice none 0 0) := (yb.cell 4).trans rfl; have y5 : w2.cell? ⟨s + 7, 5, none⟩ = some (.slice none 0 0) := (yb.cell 5).trans rfl; have y6 : w2.cell? ⟨s + 7, 6, none⟩ = some (v6) := (yb.cell 6).trans rfl; have y7 : w2.cell? ⟨s + 7, 7, none⟩ = some (.slice none 0 0) := (yb.cell 7).trans rfl; clear yb))
      obtain ⟨W9, hW9, hN9, W10, hW10, hb10, hB10, hR10⟩ := new_end Hs.out (Hb.out.step Hw.out) (HM.out.below Hw.out) HX.out
      rw [← hW9]
      obtain ⟨r1, r2, r3, f1, f2, f3⟩ := wrong_facts hN9.res
      have u9 : W9.cell? ⟨s + 8, 8, none⟩ = some (.pointer (some ⟨s + 7, 0, none⟩)) := (hN9.chk.cell 8).trans rfl
      have Hb10 := Lib.hid hb10
      have HB10 := Lib.hid hB10
      have Hw10 := Lib.hid hW10
      obtain ⟨z1, z2, z3, -, -, -⟩ := wrong_facts hR10
      clear hW9 hN9 hb10 hB10 hR10 Hb HM HX HSf Hw u8 b0 b1 b2 b3 b4 b5 b6 b7 HT HO HU
      go_wp2_with fail
      rw [← hW10]
      refine bodyPost_ret (v := .tuple #[.pointer (some ⟨s + 7, 0, none⟩), .agg #[.int .i64 0, .int .i64 0, .int .i64 0]]) ?_ rfl ⟨Hb10.out, ?_⟩
      · simp [results, Tryz.results10, go_sem, z1, z2, z3]
      · exact NewAns.good Hnone.out HB10.out

end Go.Proofs.YtjmkdimbbacnfaaGreatDoor
