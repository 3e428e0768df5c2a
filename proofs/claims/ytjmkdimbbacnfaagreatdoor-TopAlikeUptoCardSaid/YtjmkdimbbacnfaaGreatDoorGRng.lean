/- utf.Spots: what it hands out; the law of a range over a function, an element's memory told to the body. (Began from mkrng.py's print.) -/
import Derived.Test.YtjmkdimbbacnfaaGreatDoorGSkF
import Derived.RangeFuncFrom
import Derived.RangeFuncCalls
import Derived.RangeFuncBound
import Derived.RangeFuncLeaves
import Derived.RangeFuncNested
import Derived.LoopNIn
import Derived.LoopIn
import Derived.Shelf.Abstract
import Derived.Shelf.RegionOpen
import Derived.OwnWalkIn
import Derived.TacticsInMore
import Derived.Laws.Runes
import Derived.Sort.BigQuietIn
namespace Go.Proofs.YtjmkdimbbacnfaaGreatDoor
open Go.RowKit Go.Shelf
set_option linter.unusedVariables false
attribute [local go_sem] Oper.semAt_some
def sp (s : ByteArray) : List Spt := spots s.data.toList
def nS (s : ByteArray) : Nat := (sp s).length
def bAt (s : ByteArray) (i : Nat) : Nat := (byteStarts (sp s) s.size).getD i 0
theorem nS_le (s : ByteArray) : nS s ≤ s.size := by
  have h := spots_length_le s.data.toList
  rw [Array.length_toList] at h
  exact h
theorem sp_range (s : ByteArray) (x : Spt) (h : x ∈ sp s) : x.r ≤ 1114111 ∧ 1 ≤ x.n ∧ x.n ≤ 4 ∧ x.pos + x.n ≤ s.size := by
  have h1 := spotsAt_range s.data.toList 0 x h
  rw [Array.length_toList] at h1
  have h2 : s.data.size = s.size := rfl
  omega
theorem bAt_le (s : ByteArray) (i : Nat) : bAt s i ≤ s.size := by
  unfold bAt
  rw [List.getD_eq_getElem?_getD]
  cases h : (byteStarts (sp s) s.size)[i]? with
  | none => simp
  | some v =>
    have hm := List.mem_of_getElem? h
    simp only [byteStarts, List.mem_append, List.mem_map, List.mem_singleton] at hm
    rcases hm with ⟨x, hx, rfl⟩ | rfl
    · have := sp_range s x hx
      simp only [Option.getD_some]
      omega
    · simp
theorem toList_len (s : ByteArray) : s.data.toList.length = s.size := by rw [Array.length_toList]; rfl
theorem bAt_pos (s : ByteArray) (i : Nat) : bAt s i = posL s.data.toList i := by
  unfold bAt posL sp; rw [toList_len]
theorem bAt_lt (s : ByteArray) (i j : Nat) (h : i < j) (hj : j ≤ nS s) : bAt s i < bAt s j := by
  rw [bAt_pos, bAt_pos]; exact posL_lt s.data.toList i j h hj
theorem bAt_nil (s : ByteArray) : bAt s 0 = 0 := by rw [bAt_pos, posL_zero]
theorem bAt_end (s : ByteArray) : bAt s (nS s) = s.size := by
  unfold bAt nS byteStarts
  simp [List.getD_eq_getElem?_getD]
theorem ext_list (s : ByteArray) (a b : Nat) : (s.extract a b).data.toList = (s.data.toList.drop a).take (b - a) := by
  rw [ByteArray.data_extract, Array.toList_extract, List.extract_eq_take_drop]
def utfV (r n : Nat) (b : Bool) : Value := .agg #[.int .i32 (r : Int), .int .i64 (n : Int), .bool b]
theorem isBad_no {r n : Nat} (h : ¬ (r = 65533 ∧ n = 1)) : isBad (r, n) = false := by
  unfold isBad
  rw [Bool.and_eq_false_iff, beq_eq_false_iff_ne, beq_eq_false_iff_ne]
  dsimp only
  omega
set_option maxHeartbeats 1000000 in
theorem utfSpot (r n : Nat) (w : World) (hr : r ≤ 1114111) (hn : n ≤ 4) :
    Calls Tryz.prog 150 #[.int .i32 (r : Int), .int .i64 (n : Int)] w fun e w' => e = .returned (utfV r n (isBad (r, n))) ∧ Below w.heap.size w w' := by
  by_cases h1 : r = 65533
  · by_cases h2 : n = 1
    · subst h1 h2
      go_enter Tryz.func150, Tryz.ntmps150
      go_wp2
      refine bodyPost_ret (v := .agg #[.int .i32 65533, .int .i64 1, .bool true]) (by simp [results, Tryz.results150, go_sem]) rfl ⟨rfl, ?_⟩
      first | exact (Below.refl _ w).alloc (Nat.le_refl _) _ | exact ((((Below.refl _ w).alloc (Nat.le_refl _) _).setCell (Nat.le_refl _) _).setCell (Nat.le_refl _) _).setCell (Nat.le_refl _) _
    · subst h1
      have Hb := Lib.hid (isBad_no (r := 65533) (n := n) (by omega))
      have t2 : ((n : Int) == 1) = false := by rw [beq_eq_false_iff_ne]; omega
      go_enter Tryz.func150, Tryz.ntmps150
      go_wp2
      refine bodyPost_ret (v := .agg #[.int .i32 65533, .int .i64 (n : Int), .bool false]) (by simp [results, Tryz.results150, go_sem]) rfl ⟨?_, ?_⟩
      · rw [Hb.out]; rfl
      · first | exact (Below.refl _ w).alloc (Nat.le_refl _) _ | exact ((((Below.refl _ w).alloc (Nat.le_refl _) _).setCell (Nat.le_refl _) _).setCell (Nat.le_refl _) _).setCell (Nat.le_refl _) _
  · have Hb := Lib.hid (isBad_no (r := r) (n := n) (by omega))
    have t1 : ((r : Int) == 65533) = false := by rw [beq_eq_false_iff_ne]; omega
    go_enter Tryz.func150, Tryz.ntmps150
    go_wp2
    refine bodyPost_ret (v := .agg #[.int .i32 (r : Int), .int .i64 (n : Int), .bool false]) (by simp [results, Tryz.results150, go_sem]) rfl ⟨?_, ?_⟩
    · rw [Hb.out]; rfl
    · first | exact (Below.refl _ w).alloc (Nat.le_refl _) _ | exact ((((Below.refl _ w).alloc (Nat.le_refl _) _).setCell (Nat.le_refl _) _).setCell (Nat.le_refl _) _).setCell (Nat.le_refl _) _
def spA (s : ByteArray) (i : Nat) : Spt := (sp s).getD i ⟨0, 0, 0, false⟩
theorem spA_get (s : ByteArray) (i : Nat) (h : i < nS s) : (sp s)[i]? = some (spA s i) := by
  unfold spA nS at *
  rw [List.getD_eq_getElem?_getD, List.getElem?_eq_getElem h]; rfl
theorem spA_dec (s : ByteArray) (i : Nat) (h : i < nS s) : Lib.decodeL (s.data.toList.drop (bAt s i)) = ((spA s i).r, (spA s i).n) ∧ (spA s i).pos = bAt s i ∧ bAt s i + (spA s i).n = bAt s (i + 1) ∧ bAt s i < s.size ∧ (spA s i).bad = isBad ((spA s i).r, (spA s i).n) := by
  obtain ⟨e1, e2, e3, e4⟩ := spot_dec s.data.toList i _ (spA_get s i h)
  have a : (spA s i).r = (Lib.decodeL (s.data.toList.drop (spA s i).pos)).1 := congrArg Spt.r e1
  have b : (spA s i).n = (Lib.decodeL (s.data.toList.drop (spA s i).pos)).2 := congrArg Spt.n e1
  have c : (spA s i).bad = isBad (Lib.decodeL (s.data.toList.drop (spA s i).pos)) := congrArg Spt.bad e1
  rw [toList_len] at e4
  rw [e2] at a b c e3 e4
  rw [← bAt_pos] at a b c e2 e3 e4
  rw [← bAt_pos] at e3
  have hd : Lib.decodeL (s.data.toList.drop (bAt s i)) = ((spA s i).r, (spA s i).n) := by rw [a, b]
  rw [hd] at c
  exact ⟨hd, e2, e3, e4, c⟩
theorem spA_range (s : ByteArray) (i : Nat) (h : i < nS s) : (spA s i).r ≤ 1114111 ∧ 1 ≤ (spA s i).n ∧ (spA s i).n ≤ 4 := by
  have := sp_range s (spA s i) (List.mem_of_getElem? (spA_get s i h))
  omega
abbrev encS (s : ByteArray) (i : Fin (nS s)) : Array Value := #[.int .i64 (bAt s i.val : Int), .agg #[.int .i32 ((spA s i.val).r : Int), .int .i64 ((spA s i.val).n : Int), .bool (spA s i.val).bad]]
def firstK (s : ByteArray) (k : Nat) : List (Fin (nS s)) := (List.finRange (nS s)).take k
theorem firstK_succ (s : ByteArray) (k : Nat) (h : k < nS s) : firstK s k ++ [⟨k, h⟩] = firstK s (k + 1) := by
  unfold firstK
  rw [List.take_succ_eq_append_getElem (by simpa using h)]
  simp
theorem firstK_length (s : ByteArray) (k : Nat) (h : k ≤ nS s) : (firstK s k).length = k := by
  unfold firstK; simp; omega
theorem firstK_all (s : ByteArray) : firstK s (nS s) = List.finRange (nS s) := by
  unfold firstK; rw [List.take_of_length_le (by simp)]
theorem firstK_last {s : ByteArray} {k : Nat} {pre : List (Fin (nS s))} {i : Fin (nS s)} (hk : k ≤ nS s) (h : pre ++ [i] = firstK s k) : i.val = pre.length ∧ k = pre.length + 1 ∧ pre = firstK s pre.length := by
  have hl := congrArg List.length h
  rw [firstK_length s k hk, List.length_append] at hl
  simp only [List.length_cons, List.length_nil] at hl
  obtain rfl : k = pre.length + 1 := by omega
  rw [← firstK_succ s pre.length (by omega)] at h
  have h2 := List.append_inj h (by rw [firstK_length s _ (by omega)])
  have h3 := h2.2
  simp only [List.cons.injEq, and_true] at h3
  refine ⟨by rw [h3], rfl, h2.1⟩
theorem prefix_bad (l : List UInt8) (hb : isBad (Lib.decodeL l) = true) : Lib.hasPrefix l [239, 191, 189] = false := by
  unfold Lib.hasPrefix
  rw [Bool.eq_false_iff]
  intro h
  obtain ⟨t, rfl⟩ := List.isPrefixOf_iff_prefix.1 h
  have hd := dec_enc 65533 (by omega) t
  rw [show ((65533 : Nat) : Int) = 65533 from rfl, show Lib.encodeRune 65533 = [239, 191, 189] by decide] at hd
  rw [hd] at hb
  cases hb
theorem prefix_good (l : List UInt8) (hne : l ≠ []) (h1 : (Lib.decodeL l).1 = 65533) (hb : isBad (Lib.decodeL l) = false) : Lib.hasPrefix l [239, 191, 189] = true ∧ (Lib.decodeL l).2 = 3 := by
  have hn : ¬ ((Lib.decodeL l).1 = 65533 ∧ (Lib.decodeL l).2 = 1) := fun c => by
    unfold isBad at hb
    rw [c.1, c.2] at hb
    cases hb
  have e := Lib.encode_decode l hne hn
  rw [h1, show ((65533 : Nat) : Int) = 65533 from rfl, show Lib.encodeRune 65533 = [239, 191, 189] by decide] at e
  have hle := Lib.decodeL_le l hne
  have hlen := congrArg List.length e
  rw [List.length_take] at hlen
  simp only [List.length_cons, List.length_nil] at hlen
  refine ⟨?_, by omega⟩
  unfold Lib.hasPrefix
  rw [List.isPrefixOf_iff_prefix, e]
  exact List.take_prefix _ _
theorem Spots_val (s : ByteArray) (w : World) : Calls Tryz.prog 106 #[.string s] w fun e w' => e = .returned (.func (.func 147) #[] #[.pointer (some ⟨w.heap.size, 0, none⟩)]) ∧ w.alloc (.cells #[.string s] 9) = w' := by
  go_enter Tryz.func106, Tryz.ntmps106
  go_wp2
  go_ret
  exact ⟨rfl, rfl⟩
section
variable {W W' : World} {row : Option Nat} {B : Nat}
theorem blk_own {g : Nat} {t : TypeId} {cs : Array Value} (h : Blk W g t cs) (hg : W.grownBy W' row) (hr : ∀ r, row = some r → B ≤ r ∧ ∃ o : Obj, W.heap[r]? = some o ∧ o.isCells = false) : Blk W' g t cs :=
  h.of (grownBy_keeps_cells hg (fun r e => (hr r e).2) h rfl)
end
/-- no row of bytes -/
def NoB (o : Obj) : Prop := ∀ c fz, o ≠ .cells c 5 fz
/-- nothing below block z turns; from there on the blocks of A and the rows of bytes alone -/
structure Only (z : Nat) (A : Nat → Prop) (X Y : World) : Prop where
  below : Below z X Y
  same : ∀ (k : Nat) (o : Obj), X.heap[k]? = some o → ¬ A k → NoB o → Y.heap[k]? = some o
section
variable {z : Nat} {A B : Nat → Prop} {X Y Z : World}
theorem Only.trans (h : Only z A X Y) (k : Only z A Y Z) : Only z A X Z :=
  ⟨h.below.trans k.below, fun i o ho ha hn => k.same i o (h.same i o ho ha hn) ha hn⟩
theorem Only.mono (h : Only z A X Y) (hAB : ∀ k, A k → B k) : Only z B X Y := ⟨h.below, fun k o ho hb hn => h.same k o ho (fun ha => hb (hAB k ha)) hn⟩
theorem Only.new (h : Below X.heap.size X Y) (hz : z ≤ X.heap.size) : Only z A X Y :=
  ⟨h.mono hz, fun k o ho _ _ => (h.block k (Array.getElem?_eq_some_iff.1 ho).1).trans ho⟩
theorem Only.alloc (X : World) (o : Obj) (hz : z ≤ X.heap.size) : Only z A X (X.alloc o) := Only.new ((Below.refl _ X).alloc (Nat.le_refl _) o) hz
theorem Only.setCell (X : World) (b i : Nat) (v : Value) (hz : z ≤ b) (hb : A b) : Only z A X (X.setCell ⟨b, i, none⟩ v) :=
  ⟨(Below.refl z X).setCell (p := ⟨b, i, none⟩) hz v, fun k o ho ha _ => (Below.heap_setCell X ⟨b, i, none⟩ v k (fun e => ha (by rw [e]; exact hb))).trans ho⟩
theorem Only.putObj {l : Nat} (o' : Obj) (hz : z ≤ l) (hl : A l) : Only z A X (X.putObj l o') :=
  ⟨⟨rfl, rfl, rfl, (grownBy_putObj' X l o').size, fun k hk => World.putObj_heap_other (by omega)⟩, fun k o ho ha _ => (World.putObj_heap_other (fun e => ha (by rw [e]; exact hl))).trans ho⟩
theorem Only.others {b : Nat} (h : Lib.OthersKept 5 (some b) X Y) (hb : Below z X Y) (hA : A b) : Only z A X Y :=
  ⟨hb, fun k o ho ha hn => h k o ho (fun e => ha (by cases e; exact hA)) hn⟩
theorem Only.blk {g : Nat} {t : TypeId} {cs : Array Value} (h : Only z A X Y) (hA : ¬ A g) (ht : t ≠ 5) (hb : Blk X g t cs) : Blk Y g t cs :=
  h.same g _ hb hA (fun c fz e => by cases e; exact ht rfl)
end
/-- nothing below block B turns, and no row of bytes -/
structure Calm (B : Nat) (X Y : World) : Prop where
  below : Below B X Y
  rows : ∀ (k : Nat) c fz, X.heap[k]? = some (.cells c 5 fz) → Y.heap[k]? = some (.cells c 5 fz)
section
variable {B B' : Nat} {X Y Z : World}
theorem Calm.mono (h : Calm B X Y) (hB : B' ≤ B) : Calm B' X Y := ⟨h.below.mono hB, h.rows⟩
theorem Calm.new (h : Below X.heap.size X Y) (hB : B ≤ X.heap.size) : Calm B X Y := ⟨h.mono hB, fun k c fz hk => (h.block k (Array.getElem?_eq_some_iff.1 hk).1).trans hk⟩
theorem Calm.alloc (X : World) (o : Obj) (hB : B ≤ X.heap.size) : Calm B X (X.alloc o) := Calm.new ((Below.refl _ X).alloc (Nat.le_refl _) o) hB
theorem Calm.setCell {b i : Nat} {t : TypeId} {cs : Array Value} (hb : Blk X b t cs) (ht : t ≠ 5) (hB : B ≤ b) (v : Value) : Calm B X (X.setCell ⟨b, i, none⟩ v) :=
  ⟨(Below.refl B X).setCell (p := ⟨b, i, none⟩) hB v, fun k c fz hk => (Below.heap_setCell X ⟨b, i, none⟩ v k (fun e => by subst e; unfold Blk at hb; rw [hb] at hk; cases hk; exact ht rfl)).trans hk⟩
theorem Calm.putObj {l : Nat} {o o' : Obj} (hB : B ≤ l) (hl : X.heap[l]? = some o) (hn : NoB o) : Calm B X (X.putObj l o') :=
  ⟨⟨rfl, rfl, rfl, (grownBy_putObj' X l o').size, fun k hk => World.putObj_heap_other (by omega)⟩, fun k c fz hk => (World.putObj_heap_other (fun e => by subst e; rw [hl] at hk; cases hk; exact hn _ _ rfl)).trans hk⟩
theorem Calm.iterAt {g p q : Nat} {s : ByteArray} (hB : B ≤ g) (h : X.heap[g]? = some (.stringIter s p)) : Calm B X (X.iterAt g s q) :=
  ⟨Lib.below_iterAt (Below.refl B X) hB s q, fun k c fz hk => (Lib.iterAt_other _ _ _ _ _ (fun e => by subst e; rw [h] at hk; cases hk)).trans hk⟩
end
def AllFrom {β : Type} (B : Nat) (I : β → World → Prop) : Prop := ∀ s X Y, I s X → Calm B X Y → I s Y
section
variable {F : Fence} {n : Nat} {P : Program} {w : World}
/-- an iterator's contract, for every loop body whose word speaks of what lay ahead of the loop alone -/
def SeqStopsM {α : Type} (F : Fence) (n : Nat) (P : Program) (g : Nat) (lb : Array Value) (encs : α → Array Value) (z : Nat) (A : Nat → Prop) (M : α → World → Prop) (S Sp : List α → Prop) (N : Nat) (w₀ : World) : Prop :=
  ∀ (l : Nat) (J Jx : List α → World → Prop) (W : World), Below w₀.heap.size w₀ W → w₀.heap.size ≤ l → l < W.heap.size → (∃ r, W.heap[l]? = some (.loop r)) → AllFrom W.heap.size J → AllFrom W.heap.size Jx →
    (∀ pre x X, J pre X → M x X → Sp (pre ++ [x]) → pre.length < N → YieldAt F (n - 1) P l (encs x) X fun e Y => Only z (fun k => A k ∨ k = l) X Y ∧ ((e = .returned (.bool true) ∧ J (pre ++ [x]) Y) ∨ (e = .returned (.bool false) ∧ Jx (pre ++ [x]) Y))) → J [] W →
    CallsIn F n P g (#[.func (.yield l) #[] #[]] ++ lb) W fun e Y => (∃ v, e = .returned v) ∧ ((∃ ys, S ys ∧ J ys Y) ∨ (∃ pre, Sp pre ∧ Jx pre Y))

/-- how a round's body may be left -/
def onlyPost {α : Type} (z : Nat) (A : Nat → Prop) (I : List α → World → Prop) (Ix : Code → List α → World → Prop) (xs : List α) (W : World) : Exit → Act → World → Prop
  | .normal, _, W' => Only z A W W' ∧ I xs W'
  | .ret, _, W' => Only z A W W' ∧ Ix .ret xs W'
  | .exit id, _, W' => Only z A W W' ∧ Ix (.exit id) xs W'
  | .goto t, _, W' => Only z A W W' ∧ Ix (.goto t) xs W'
  | .panic _, _, _ => False
  | .outgrown, _, _ => False

theorem wpIn_rangeFunc_ownM {α : Type} {g : Operand} {ps : Array Tmp} {assign body : Code} {Q : Exit → Act → World → Prop} {a : Act}
    (hro : F.round = none) (h1 : 1 ≤ n) {gf : Nat} {lb : Array Value} (hg : a.eval g = .func (.func gf) #[] lb) (hFg : F.fn gf) (eg : ∀ args w, (callFunc gf args).run P w = .ok (.enter gf args) w)
    {encs : α → Array Value} {z : Nat} {A : Nat → Prop} {M : α → World → Prop} {S Sp : List α → Prop} {N : Nat} {w0 : World} (hz0 : z ≤ w.heap.size) (hA : ∀ k, A k → k < w.heap.size) (hseq : SeqStopsM F (n - 1) P gf lb encs z A M S Sp N w0)
    (hb0 : Below w0.heap.size w0 w) (hps : ∀ x, (encs x).size = ps.size)
    (I : List α → World → Prop) (Ix : Code → List α → World → Prop) (hI : AllFrom w.heap.size I) (hIx : ∀ c, AllFrom w.heap.size (Ix c)) (h0 : I [] w) (Ax : α → Act → World → Prop) (hAx : ∀ x a', OwnFrom w.heap.size (fun (_ : Unit) W => Ax x a' W))
    (hassign : ∀ (l : Nat) (pre : List α) (x : α) (W : World) (K : Act → World → Prop), I pre W → M x W → w.heap.size < W.heap.size → (∀ a' W', Only z A W W' → I pre W' → Ax x a' W' → K a' W') →
      assign.wpIn (F.inRound l) (n - 1 - 1) P (Exit.then K (fun _ _ _ => False)) { tmps := (ps.zip (encs x)).foldl (fun t (p, v) => t.setIfInBounds p v) a.tmps, defers := [] } W)
    (hbody : ∀ (l : Nat) (pre : List α) (x : α) (a' : Act) (W : World), w.heap.size ≤ l → (∃ r, W.heap[l]? = some (.loop r)) → I pre W → Ax x a' W → Sp (pre ++ [x]) → pre.length < N → body.wpIn (F.inRound l) (n - 1 - 1) P (onlyPost z A I Ix (pre ++ [x]) W) a' W)
    (hdone : ∀ (D : Nat) (xs : List α) (W : World), w.heap.size ≤ D → S xs → I xs W → W.heap[D]? = some (.deferred (some [])) → Q .normal { a with defers := { target := .collected D, args := #[] } :: a.defers } W)
    (hstop : ∀ (D : Nat) (c : Code) (pre : List α) (W : World), w.heap.size ≤ D → Sp pre → Ix c pre W → W.heap[D]? = some (.deferred (some [])) → c.wpIn F n P Q { a with defers := { target := .collected D, args := #[] } :: a.defers } W) :
    (Code.rangeFunc g ps assign body).wpIn F n P Q a w := by
  refine wpIn_rangeFunc ?_
  intro fn hfn
  rw [hro]
  obtain ⟨rec, hrec⟩ : ∃ rec : LoopState → Option Code → Loop, rec = fun st pe => { state := st, pending := pe, fn, tmps := a.tmps, params := ps, assign, body, defers := w.heap.size } := ⟨_, rfl⟩
  obtain ⟨W1, hW1⟩ : ∃ W1, (w.alloc (.deferred (some []))).alloc (.loop (rec .ready none)) = W1 := ⟨_, rfl⟩
  have hL1 : W1.heap[w.heap.size + 1]? = some (.loop (rec .ready none)) := by
    rw [← hW1]; have := World.alloc_heap_new (w.alloc (.deferred (some []))) (.loop (rec .ready none)); rwa [World.size_alloc] at this
  have hK1 : W1.heap[w.heap.size]? = some (.deferred (some [])) := by
    rw [← hW1]; exact (Below.heap_alloc _ _ _ (by simp)).trans (World.alloc_heap_new w _)
  have hww : Below w.heap.size w W1 := by
    rw [← hW1]; exact ((Below.refl _ w).alloc (Nat.le_refl _) _).alloc (by simp) _
  have hI1 : I [] W1 := hI _ _ _ h0 (Calm.new hww (Nat.le_refl _))
  have hb1 : Below w0.heap.size w0 W1 := hb0.trans (hww.mono hb0.size)
  have hz1 : w.heap.size + 1 < W1.heap.size := (Array.getElem?_eq_some_iff.1 hL1).1
  have hnl : ¬ A (w.heap.size + 1) := fun h => by have := hA _ h; omega
  have hnd : ¬ A w.heap.size := fun h => by have := hA _ h; omega
  refine ⟨w.heap.size + 1, [{ target := .collected w.heap.size, args := #[] }], W1, { target := .fn (.func gf) lb, args := #[.func (.yield (w.heap.size + 1)) #[] #[]] }, W1, gf,
    #[.func (.yield (w.heap.size + 1)) #[] #[]] ++ lb, W1, ?_, ?_, ?_, ?_, fun _ => h1, ?_⟩
  · rw [← hW1, hrec]; exact run_enterLoop_outer _ _ _ _ _
  · simp only [resolve, hg]
    simp [go_sem]
  · intro f' hf'; simp [Target.leads] at hf'; subst hf'; exact hFg
  · simp [invoke, go_sem, eg]
  · refine (hseq (w.heap.size + 1)
      (fun pre W => I pre W ∧ W.heap[w.heap.size + 1]? = some (.loop (rec .ready none)) ∧ W.heap[w.heap.size]? = some (.deferred (some [])))
      (fun pre W => ∃ c, Ix c pre W ∧ W.heap[w.heap.size + 1]? = some (.loop (rec .done (some c))) ∧ W.heap[w.heap.size]? = some (.deferred (some [])))
      W1 hb1 (by have := hb0.size; omega) hz1 ⟨_, hL1⟩
      (fun s X Y hs hb => ⟨hI s X Y hs.1 (hb.mono hww.size), (hb.below.block _ hz1).trans hs.2.1, (hb.below.block _ (by omega)).trans hs.2.2⟩)
      (fun s X Y hs hb => by
        obtain ⟨c, hc, hl, hk⟩ := hs
        exact ⟨c, hIx c s X Y hc (hb.mono hww.size), (hb.below.block _ hz1).trans hl, (hb.below.block _ (by omega)).trans hk⟩)
      ?_ ⟨hI1, hL1, hK1⟩).mono ?_
    · -- ONE ROUND
      rintro pre x W ⟨hi, hl, hk⟩ hm hsp hlen
      have hlt : w.heap.size + 1 < W.heap.size := (Array.getElem?_eq_some_iff.1 hl).1
      have hy := run_yield (P := P) (args := encs x) hl (by rw [hrec]; exact hps x)
      rw [hrec] at hy
      refine ⟨fn, _, assign, body, hy, roundIn_of_wpIn hfn (hassign _ pre x W _ hi hm (by omega) ?_)⟩
      clear hy
      intro a' Wa hoa hia hax
      replace hl := hoa.same _ _ hl hnl (fun _ _ e => by cases e)
      replace hk := hoa.same _ _ hk hnd (fun _ _ e => by cases e)
      have hlta : w.heap.size + 1 < Wa.heap.size := (Array.getElem?_eq_some_iff.1 hl).1
      refine ⟨_, run_beginRound hl (by rw [hrec]), ?_⟩
      have hl2 : (Wa.putObj (w.heap.size + 1) (.loop { rec .ready none with state := .busy })).heap[w.heap.size + 1]? = some (.loop { rec .ready none with state := .busy }) := World.putObj_heap_same hlta
      have hk2 : (Wa.putObj (w.heap.size + 1) (.loop { rec .ready none with state := .busy })).heap[w.heap.size]? = some (.deferred (some [])) := (World.putObj_heap_other (by omega)).trans hk
      have hz2 := (grownBy_putObj' Wa (w.heap.size + 1) (.loop { rec .ready none with state := .busy })).size
      have ho2 : Only z (fun k => A k ∨ k = w.heap.size + 1) W (Wa.putObj (w.heap.size + 1) (.loop { rec .ready none with state := .busy })) := (hoa.mono (fun k h => .inl h)).trans (Only.putObj _ (by omega) (.inr rfl))
      refine wpIn_mono (hbody _ pre x a' _ (by omega) ⟨_, hl2⟩ (hI _ _ _ hia (Calm.putObj (by omega) hl (fun _ _ e => by cases e))) ((hAx x a').putObj (s := ()) _ hax (by omega) hl rfl) hsp hlen) ?_
      have fin : ∀ (jump : Option Code) (W3 : World), Only z A (Wa.putObj (w.heap.size + 1) (.loop { rec .ready none with state := .busy })) W3 →
          (Instr.endRound (w.heap.size + 1) jump).run P W3 = .ok (.bool jump.isNone) (W3.putObj (w.heap.size + 1) (.loop (rec (if jump.isNone then .ready else .done) jump))) ∧
          (W3.putObj (w.heap.size + 1) (.loop (rec (if jump.isNone then .ready else .done) jump))).heap[w.heap.size + 1]? = some (.loop (rec (if jump.isNone then .ready else .done) jump)) ∧
          (W3.putObj (w.heap.size + 1) (.loop (rec (if jump.isNone then .ready else .done) jump))).heap[w.heap.size]? = some (.deferred (some [])) ∧
          Only z (fun k => A k ∨ k = w.heap.size + 1) W (W3.putObj (w.heap.size + 1) (.loop (rec (if jump.isNone then .ready else .done) jump))) := fun jump W3 hk3 => by
        have hl3 := hk3.same _ _ hl2 hnl (fun _ _ e => by cases e)
        have hd3 := hk3.same _ _ hk2 hnd (fun _ _ e => by cases e)
        have := run_endRound (P := P) jump hl3
        have ho4 : Only z (fun k => A k ∨ k = w.heap.size + 1) W (W3.putObj (w.heap.size + 1) (.loop (rec (if jump.isNone then .ready else .done) jump))) := (ho2.trans (hk3.mono (fun k h => .inl h))).trans (Only.putObj _ (by omega) (.inr rfl))
        rw [hrec] at this ho4 ⊢
        exact ⟨this, World.putObj_heap_same (Array.getElem?_eq_some_iff.1 hl3).1, (World.putObj_heap_other (by omega)).trans hd3, ho4⟩
      rintro e a3 W3 hp
      cases e with
      | normal =>
        obtain ⟨hk3, hi3⟩ := hp
        obtain ⟨hr, hl4, hk4, ho4⟩ := fin none W3 hk3
        exact ⟨_, _, hr, ho4, .inl ⟨rfl, hI _ _ _ hi3 (Calm.putObj (by omega) (hk3.same _ _ hl2 hnl (fun _ _ e => by cases e)) (fun _ _ e => by cases e)), hl4, hk4⟩⟩
      | ret =>
        obtain ⟨hk3, hi3⟩ := hp
        obtain ⟨hr, hl4, hk4, ho4⟩ := fin (some .ret) W3 hk3
        exact ⟨_, _, hr, ho4, .inr ⟨rfl, .ret, hIx _ _ _ _ hi3 (Calm.putObj (by omega) (hk3.same _ _ hl2 hnl (fun _ _ e => by cases e)) (fun _ _ e => by cases e)), hl4, hk4⟩⟩
      | exit id =>
        obtain ⟨hk3, hi3⟩ := hp
        obtain ⟨hr, hl4, hk4, ho4⟩ := fin (some (.exit id)) W3 hk3
        exact ⟨_, _, hr, ho4, .inr ⟨rfl, .exit id, hIx _ _ _ _ hi3 (Calm.putObj (by omega) (hk3.same _ _ hl2 hnl (fun _ _ e => by cases e)) (fun _ _ e => by cases e)), hl4, hk4⟩⟩
      | goto t =>
        obtain ⟨hk3, hi3⟩ := hp
        obtain ⟨hr, hl4, hk4, ho4⟩ := fin (some (.goto t)) W3 hk3
        exact ⟨_, _, hr, ho4, .inr ⟨rfl, .goto t, hIx _ _ _ _ hi3 (Calm.putObj (by omega) (hk3.same _ _ hl2 hnl (fun _ _ e => by cases e)) (fun _ _ e => by cases e)), hl4, hk4⟩⟩
      | panic ch => exact hp.elim
      | outgrown => exact hp.elim
    · -- BEHIND THE ITERATOR
      rintro e W2 ⟨⟨v, rfl⟩, (⟨xs, hS, hi, hl, hk⟩ | ⟨pre, hSp, c, hi, hl, hk⟩)⟩
      · exact ⟨none, _, by have := run_endLoop (P := P) hl (by rw [hrec]; simp); rw [hrec] at this; exact this, hdone _ xs _ (Nat.le_refl _) hS (hI _ _ _ hi (Calm.putObj (by omega) hl (fun _ _ e => by cases e))) ((World.putObj_heap_other (by omega)).trans hk)⟩
      · exact ⟨some c, _, by have := run_endLoop (P := P) hl (by rw [hrec]; simp); rw [hrec] at this; exact this, hstop _ c pre _ (Nat.le_refl _) hSp (hIx c _ _ _ hi (Calm.putObj (by omega) hl (fun _ _ e => by cases e))) ((World.putObj_heap_other (by omega)).trans hk)⟩

/-- where the depth is not told, a round may be asked for at any depth -/
theorem round_deep {F : Fence} (hd : F.depth = none) {n m l : Nat} {f : FuncId} {tmps : Array Value} {assign body : Code} {W : World} {R : Ending → World → Prop}
    (h : RoundIn F n P l f tmps assign body W R) : RoundIn F m P l f tmps assign body W R := ⟨h.1, fun c cs _ => h.2 c cs (fun d e => by rw [hd] at e; cases e)⟩
/-- a round of a loop ahead, in a round -/
theorem round_in {l l' : Nat} {f : FuncId} {tmps : Array Value} {assign body : Code} {W : World} {R : Ending → World → Prop}
    (h : RoundIn F n P l f tmps assign body W R) : RoundIn (F.inRound l') n P l f tmps assign body W R := h
end
set_option maxRecDepth 100000 in
set_option maxHeartbeats 4000000 in
theorem spots_B (s : ByteArray) (z Bn : Nat) (A : Nat → Prop) (hA : ¬ A Bn) (w : World) (hAw : ∀ k, A k → k < w.heap.size) (hbox : Blk w Bn 9 #[.string s]) (n : Nat) (hn : 1 ≤ n) :
    SeqStopsM Fence.wide n Tryz.prog 147 #[.pointer (some ⟨Bn, 0, none⟩)] (encS s) z A (fun _ _ => True) (fun xs => xs = List.finRange (nS s)) (fun pre => ∃ k, k ≤ nS s ∧ pre = firstK s k) (nS s) w := fun l J Jx W hW hl0 hl1 hlr hJ hJx hY h0 => by
  have hwW := hW.size
  have hAl : ∀ k, W.heap.size ≤ k → ¬ (A k ∨ k = l) := fun k hk h => by
    rcases h with h | rfl
    · have := hAw k h; omega
    · omega
  have hBl : ¬ (A Bn ∨ Bn = l) := fun h => by
    rcases h with h | rfl
    · exact hA h
    · have := hbox.lt; omega
  have hboxW := hbox.below hW
  have c0 := hboxW.cell 0
  simp only [List.getElem?_toArray, List.getElem?_cons_zero] at c0
  refine callsIn_of_wp Tryz.func147 rfl trivial ?_ rfl
  simp only [Tryz.ntmps147, List.size_toArray, List.length_cons, List.length_nil, Nat.reduceAdd, Nat.reduceSub, Array.replicate_succ, Array.replicate_zero, List.push_toArray, List.append_toArray, List.nil_append, List.cons_append]
  gi_wp2
  gi_loopw [3] (fun _ wr => ∃ k : Nat, k ≤ nS s ∧ wr.heap[W.heap.size]? = some (.stringIter s (bAt s k)) ∧ Blk wr Bn 9 #[.string s] ∧ W.heap.size < wr.heap.size ∧ J (firstK s k) wr) (fun _ wr => s.size - wr.iterPos W.heap.size)
  case atStart =>
    refine ⟨0, Nat.zero_le _, by rw [bAt_nil]; exact World.iter_heap W s 0, hboxW.alloc _, (Array.getElem?_eq_some_iff.1 (World.iter_heap W s 0)).1, hJ [] W _ h0 (Calm.alloc _ _ (Nat.le_refl _))⟩
  case round =>
    obtain ⟨k, hk, hit, hbx, hsz, hj⟩ := hrel
    by_cases hlt : k < nS s
    · obtain ⟨hd, hp, hnx1, hlt2, hbad⟩ := spA_dec s k hlt
      obtain ⟨hr1, hr2, hr3⟩ := spA_range s k hlt
      have hdec : Utf8.decode s (bAt s k) = ((spA s k).r, (spA s k).n) := by rw [← Lib.decodeL_drop]; exact hd
      have hnx := fun ty => Lib.run_next_any_at (P := Tryz.prog) wr W.heap.size s (bAt s k) ty hit hlt2
      simp only [hdec, hnx1] at hnx
      obtain ⟨w1, hw1⟩ : ∃ w1, wr.iterAt W.heap.size s (bAt s (k + 1)) = w1 := ⟨_, rfl⟩
      simp only [hw1] at hnx
      have hne : Bn ≠ W.heap.size := by have := hboxW.lt; omega
      have hbx1 : Blk w1 Bn 9 #[.string s] := by rw [← hw1]; exact hbx.of (Lib.iterAt_other _ _ _ _ _ hne)
      have hit1 : w1.heap[W.heap.size]? = some (.stringIter s (bAt s (k + 1))) := by rw [← hw1]; exact Lib.iterAt_heap _ _ _ _ _ hit
      have hj1 : J (firstK s k) w1 := by rw [← hw1]; exact hJ _ _ _ hj (Calm.iterAt (Nat.le_refl _) hit)
      have Hit := Lib.hid hit
      have Hsz : Hid (bAt s k < bAt s (k + 1) ∧ bAt s (k + 1) ≤ s.size) := Lib.hid ⟨bAt_lt s k (k + 1) (by omega) (by omega), bAt_le s (k + 1)⟩
      have c1 := hbx1.cell 0
      simp only [List.getElem?_toArray, List.getElem?_cons_zero] at c1
      have hne2 : s.data.toList.drop (bAt s k) ≠ [] := drop_ne s _ hlt2
      have hext : (s.extract (bAt s k) s.size).data.toList = s.data.toList.drop (bAt s k) := by rw [ext_list, List.take_of_length_le (by rw [List.length_drop, toList_len]; omega)]
      have henc : (Utf8.encode 65533).data.toList = [239, 191, 189] := by decide
      have i1 : (bAt s k : Int) ≤ (s.size : Int) := by omega
      have HR := Lib.hid (fun w => utfSpot (spA s k).r (spA s k).n w hr1 hr3)
      rw [← hbad] at HR
      clear hdec hw1 hbx hit hsz hj hnx1 hp
      by_cases hr : (spA s k).r = 65533
      · have t1 : (((spA s k).r : Int) == 65533) = true := by rw [beq_iff_eq]; omega
        have hr1' : (Lib.decodeL (s.data.toList.drop (bAt s k))).1 = 65533 := by rw [hd]; exact hr
        cases hb : (spA s k).bad with
        | true =>
          have hbd : isBad (Lib.decodeL (s.data.toList.drop (bAt s k))) = true := by rw [hd, ← hbad]; exact hb
          have hn1 : (spA s k).n = 1 := by
            rw [hd] at hbd
            unfold isBad at hbd
            simp only [Bool.and_eq_true, beq_iff_eq] at hbd
            exact hbd.2
          have hpre := prefix_bad _ hbd
          have HL : Hid (∀ w : World, Calls Tryz.prog 148 #[.int .i32 ((spA s k).r : Int)] w fun e w' => e = .returned (.int .i64 3) ∧ w = w') := Lib.hid (fun w => (Tryz.utf8_RuneLen _ w).mono (by
            rintro e w' ⟨rfl, rfl⟩
            rw [hr]
            exact ⟨rfl, rfl⟩))
          have HP : Hid (∀ w : World, Calls Tryz.prog 149 #[.string (s.extract (bAt s k) s.size), .string (Utf8.encode ((spA s k).r : Int))] w fun e w' => e = .returned (.bool false) ∧ w = w') := Lib.hid (fun w => by
            rw [hr, show ((65533 : Nat) : Int) = 65533 from rfl]
            refine (Tryz.strings_HasPrefix _ _ w).mono ?_
            rintro e w' ⟨rfl, rfl⟩
            rw [hext, henc, hpre]
            exact ⟨rfl, rfl⟩)
          have HS : Hid (∀ w : World, Calls Tryz.prog 150 #[.int .i32 ((spA s k).r : Int), .int .i64 1] w fun e w' => e = .returned (.agg #[.int .i32 ((spA s k).r : Int), .int .i64 ((spA s k).n : Int), .bool (spA s k).bad]) ∧ Below w.heap.size w w') := Lib.hid (fun w => by
            have h := HR.out w
            rw [hn1] at h ⊢
            exact h)
          clear hd hbad hr hb hbd hn1 hpre hr1' henc hext HR
          gi_wp2_with (first | (refine ⟨trivial, ?_⟩; gi_at_call 148; refine (callsIn_wide.2 (HL.out _)).mono ?_; rintro e w' ⟨rfl, rfl⟩) | (refine ⟨trivial, ?_⟩; gi_at_call 149; refine (callsIn_wide.2 (HP.out _)).mono ?_; rintro e w' ⟨rfl, rfl⟩))
          refine ⟨trivial, (callsIn_wide.2 (HS.out _)).mono ?_⟩
          rintro e w2 ⟨rfl, hb2⟩
          have hj2 := hJ _ _ _ hj1 (Calm.new hb2 (by have := (Array.getElem?_eq_some_iff.1 hit1).1; omega))
          have hbx2 := hbx1.below hb2
          have hit2 := (hb2.block _ (Array.getElem?_eq_some_iff.1 hit1).1).trans hit1
          obtain ⟨fn, tmps, assign, body, hy, hR⟩ := hY (firstK s k) ⟨k, hlt⟩ w2 hj2 trivial ⟨k + 1, hlt, firstK_succ s k hlt⟩ (by rw [firstK_length s k hk]; exact hlt)
          dsimp only [encS] at hy
          rw [firstK_succ s k hlt] at hR
          clear hb2 hj1 hbx1 hit1 hj2
          gi_wp2
          refine hR.mono ?_
          rintro e W3 ⟨hk3, (⟨rfl, hJ3⟩ | ⟨rfl, hJx3⟩)⟩
          · have hit3 := hk3.same _ _ hit2 (hAl _ (Nat.le_refl _)) (fun _ _ e => by cases e)
            have hbx3 := hk3.blk hBl (by decide) hbx2
            gi_wp2
            go_roundw
            case rel => exact ⟨k + 1, by omega, hit3, hbx3, (Array.getElem?_eq_some_iff.1 hit3).1, hJ3⟩
            case measure => simp only [World.iterPos, hit3, Hit.out]; have := Hsz.out; omega
          · gi_wp2
            refine bodyPost_ret (results_none rfl _ _ _) rfl ?_
            exact ⟨⟨_, rfl⟩, .inr ⟨_, ⟨k + 1, by omega, rfl⟩, hJx3⟩⟩
        | false =>
          have hbd : isBad (Lib.decodeL (s.data.toList.drop (bAt s k))) = false := by rw [hd, ← hbad]; exact hb
          obtain ⟨hpre, hn3⟩ := prefix_good _ hne2 hr1' hbd
          rw [hd] at hn3
          dsimp only at hn3
          have HL : Hid (∀ w : World, Calls Tryz.prog 148 #[.int .i32 ((spA s k).r : Int)] w fun e w' => e = .returned (.int .i64 ((spA s k).n : Int)) ∧ w = w') := Lib.hid (fun w => (Tryz.utf8_RuneLen _ w).mono (by
            rintro e w' ⟨rfl, rfl⟩
            rw [hr, hn3]
            exact ⟨rfl, rfl⟩))
          have HP : Hid (∀ w : World, Calls Tryz.prog 149 #[.string (s.extract (bAt s k) s.size), .string (Utf8.encode ((spA s k).r : Int))] w fun e w' => e = .returned (.bool true) ∧ w = w') := Lib.hid (fun w => by
            rw [hr, show ((65533 : Nat) : Int) = 65533 from rfl]
            refine (Tryz.strings_HasPrefix _ _ w).mono ?_
            rintro e w' ⟨rfl, rfl⟩
            rw [hext, henc, hpre]
            exact ⟨rfl, rfl⟩)
          have HS := HR
          clear hd hbad hr hb hbd hn3 hpre hr1' henc hext HR
          unfold utfV at HS
          gi_wp2_with (first | (refine ⟨trivial, ?_⟩; gi_at_call 148; refine (callsIn_wide.2 (HL.out _)).mono ?_; rintro e w' ⟨rfl, rfl⟩) | (refine ⟨trivial, ?_⟩; gi_at_call 149; refine (callsIn_wide.2 (HP.out _)).mono ?_; rintro e w' ⟨rfl, rfl⟩))
          refine ⟨trivial, (callsIn_wide.2 (HS.out _)).mono ?_⟩
          rintro e w2 ⟨rfl, hb2⟩
          have hj2 := hJ _ _ _ hj1 (Calm.new hb2 (by have := (Array.getElem?_eq_some_iff.1 hit1).1; omega))
          have hbx2 := hbx1.below hb2
          have hit2 := (hb2.block _ (Array.getElem?_eq_some_iff.1 hit1).1).trans hit1
          obtain ⟨fn, tmps, assign, body, hy, hR⟩ := hY (firstK s k) ⟨k, hlt⟩ w2 hj2 trivial ⟨k + 1, hlt, firstK_succ s k hlt⟩ (by rw [firstK_length s k hk]; exact hlt)
          dsimp only [encS] at hy
          rw [firstK_succ s k hlt] at hR
          clear hb2 hj1 hbx1 hit1 hj2
          gi_wp2
          refine hR.mono ?_
          rintro e W3 ⟨hk3, (⟨rfl, hJ3⟩ | ⟨rfl, hJx3⟩)⟩
          · have hit3 := hk3.same _ _ hit2 (hAl _ (Nat.le_refl _)) (fun _ _ e => by cases e)
            have hbx3 := hk3.blk hBl (by decide) hbx2
            gi_wp2
            go_roundw
            case rel => exact ⟨k + 1, by omega, hit3, hbx3, (Array.getElem?_eq_some_iff.1 hit3).1, hJ3⟩
            case measure => simp only [World.iterPos, hit3, Hit.out]; have := Hsz.out; omega
          · gi_wp2
            refine bodyPost_ret (results_none rfl _ _ _) rfl ?_
            exact ⟨⟨_, rfl⟩, .inr ⟨_, ⟨k + 1, by omega, rfl⟩, hJx3⟩⟩
      · have t1 : (((spA s k).r : Int) == 65533) = false := by rw [beq_eq_false_iff_ne]; omega
        have hrl := Lib.runeLen_decode (s.data.toList.drop (bAt s k)) (by rw [hd]; exact hr)
        rw [hd] at hrl
        dsimp only at hrl
        have HL : Hid (∀ w : World, Calls Tryz.prog 148 #[.int .i32 ((spA s k).r : Int)] w fun e w' => e = .returned (.int .i64 ((spA s k).n : Int)) ∧ w = w') := Lib.hid (fun w => (Tryz.utf8_RuneLen _ w).mono (by
          rintro e w' ⟨rfl, rfl⟩
          rw [hrl]
          exact ⟨rfl, rfl⟩))
        have HS := HR
        clear hd hbad hr hrl henc hext HR
        unfold utfV at HS
        gi_wp2_with (refine ⟨trivial, ?_⟩; gi_at_call 148; refine (callsIn_wide.2 (HL.out _)).mono ?_; rintro e w' ⟨rfl, rfl⟩)
        refine ⟨trivial, ?_⟩
        gi_wp2
        refine ⟨trivial, (callsIn_wide.2 (HS.out _)).mono ?_⟩
        rintro e w2 ⟨rfl, hb2⟩
        have hj2 := hJ _ _ _ hj1 (Calm.new hb2 (by have := (Array.getElem?_eq_some_iff.1 hit1).1; omega))
        have hbx2 := hbx1.below hb2
        have hit2 := (hb2.block _ (Array.getElem?_eq_some_iff.1 hit1).1).trans hit1
        obtain ⟨fn, tmps, assign, body, hy, hR⟩ := hY (firstK s k) ⟨k, hlt⟩ w2 hj2 trivial ⟨k + 1, hlt, firstK_succ s k hlt⟩ (by rw [firstK_length s k hk]; exact hlt)
        dsimp only [encS] at hy
        rw [firstK_succ s k hlt] at hR
        clear hb2 hj1 hbx1 hit1 hj2
        gi_wp2
        refine hR.mono ?_
        rintro e W3 ⟨hk3, (⟨rfl, hJ3⟩ | ⟨rfl, hJx3⟩)⟩
        · have hit3 := hk3.same _ _ hit2 (hAl _ (Nat.le_refl _)) (fun _ _ e => by cases e)
          have hbx3 := hk3.blk hBl (by decide) hbx2
          gi_wp2
          go_roundw
          case rel => exact ⟨k + 1, by omega, hit3, hbx3, (Array.getElem?_eq_some_iff.1 hit3).1, hJ3⟩
          case measure => simp only [World.iterPos, hit3, Hit.out]; have := Hsz.out; omega
        · gi_wp2
          refine bodyPost_ret (results_none rfl _ _ _) rfl ?_
          exact ⟨⟨_, rfl⟩, .inr ⟨_, ⟨k + 1, by omega, rfl⟩, hJx3⟩⟩
    · obtain rfl : k = nS s := by omega
      have hnx := fun ty => Lib.run_next_end_at (P := Tryz.prog) wr W.heap.size s (bAt s (nS s)) ty hit (by rw [bAt_end]; omega)
      rw [firstK_all] at hj
      gi_wp2
      go_end0
      exact ⟨⟨_, rfl⟩, .inl ⟨_, rfl, hj⟩⟩

end Go.Proofs.YtjmkdimbbacnfaaGreatDoor
