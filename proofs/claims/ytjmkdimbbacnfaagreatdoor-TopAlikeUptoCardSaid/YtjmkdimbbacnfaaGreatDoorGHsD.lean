/- guisebook.House. (Printed by gen_house0.py.) shut.Shut, norm.Norm. norm.Norm. -/
import Derived.Test.YtjmkdimbbacnfaaGreatDoorGHsA
import Derived.Laws.EntriesVeiled
import Derived.LoopN
namespace Go.Proofs.YtjmkdimbbacnfaaGreatDoor
section
open Go.RowKit
set_option linter.unusedVariables false
/-- blocks laid one behind the other -/
def lay (w : World) : List Obj → World
  | [] => w
  | o :: os => lay (w.alloc o) os
theorem lay_below : ∀ (os : List Obj) (w : World), Below w.heap.size w (lay w os)
  | [], w => Below.refl _ _
  | o :: os, w => below_trans ((Below.refl _ w).alloc (Nat.le_refl _) o) (lay_below os (w.alloc o))
theorem lay_get : ∀ (os : List Obj) (w : World) (i : Nat) (o : Obj), os[i]? = some o → (lay w os).heap[w.heap.size + i]? = some o
  | [], w, i, o, h => by simp at h
  | x :: os, w, 0, o, h => by
    simp at h
    subst h
    exact ((lay_below os (w.alloc x)).block _ (by simp)).trans (heap_alloc_new w x)
  | x :: os, w, i + 1, o, h => by
    have := lay_get os (w.alloc x) i o (by simpa using h)
    rw [World.size_alloc] at this
    rw [show w.heap.size + (i + 1) = w.heap.size + 1 + i by omega]
    exact this
theorem lay_blk {w : World} {os : List Obj} {t : TypeId} {cs : Array Value} (i : Nat) {g : Nat} (h : os[i]? = some (.cells cs t)) (hg : w.heap.size + i = g) : Blk (lay w os) g t cs := by
  subst hg
  exact lay_get os w i _ h
theorem listAt_blk {W : World} {g k n c : Nat} {t : TypeId} {rows : List (List Value)} (hk : 0 < k) (hb : Blk W g t rows.flatten.toArray) (hr : ∀ x ∈ rows, x.length = k) (hm : rows.length ≤ 2097152) (hn : n = rows.length) : ListAt W (.slice (some ⟨g, 0, none⟩) n c) k rows := by
  subst hn
  refine ⟨some ⟨g, 0, none⟩, c, rfl, hm, fun _ => ⟨⟨g, 0, none⟩, rfl, hb.lt, fun i x j u hi hj => ?_⟩⟩
  rw [addr_at0, hb.cell]
  have hjk : j < k := by
    have := hr x (List.mem_of_getElem? hi)
    have := (List.getElem?_eq_some_iff.1 hj).1
    omega
  simp only [List.getElem?_toArray]
  rw [flat_get hk rows _ hr, show (i * k + j) / k = i by rw [Nat.mul_comm, Nat.mul_add_div hk, Nat.div_eq_of_lt hjk]; omega, show (i * k + j) % k = j by rw [Nat.mul_comm, Nat.mul_add_mod, Nat.mod_eq_of_lt hjk], hi]
  exact hj
/-- what House lays -/
def houseO (w : World) : List Obj := [
    .cells #[.slice (some ⟨w.heap.size + 1 + 1 + 1 + 1, 0, none⟩) 3 3, .slice (some ⟨w.heap.size + 1 + 1 + 1 + 1 + 1, 0, none⟩) 1 1, .slice (some ⟨w.heap.size + 1 + 1 + 1 + 1 + 1 + 1, 0, none⟩) 3 3, .slice (some ⟨w.heap.size + 1 + 1 + 1 + 1 + 1 + 1 + 1, 0, none⟩) 4 4, .slice (some ⟨w.heap.size + 1 + 1 + 1 + 1 + 1 + 1 + 1 + 1, 0, none⟩) 2 2, .slice (some ⟨w.heap.size + 1 + 1 + 1 + 1 + 1 + 1 + 1 + 1 + 1, 0, none⟩) 3 3, .slice (some ⟨w.heap.size + 1 + 1 + 1 + 1 + 1 + 1 + 1 + 1 + 1 + 1, 0, none⟩) 1 1, .slice (some ⟨w.heap.size + 1 + 1 + 1 + 1 + 1 + 1 + 1 + 1 + 1 + 1 + 1, 0, none⟩) 9 9] 28,
    .cells #[.int .i32 65, .int .i32 90, .int .i32 97, .int .i32 122, .int .i32 232, .int .i32 234, .int .i32 7865, .int .i32 7871] 73,
    .cells #[.int .i32 945, .int .i32 969] 73,
    .cells #[.int .i32 1072, .int .i32 1103] 73,
    .cells #[.string ⟨#[108, 97, 116, 105, 110]⟩, .slice (some ⟨w.heap.size + 1, 0, none⟩) 4 4, .string ⟨#[103, 114, 101, 101, 107]⟩, .slice (some ⟨w.heap.size + 1 + 1, 0, none⟩) 1 1, .string ⟨#[99, 121, 114, 105, 108, 108, 105, 99]⟩, .slice (some ⟨w.heap.size + 1 + 1 + 1, 0, none⟩) 1 1] 59,
    .cells #[.int .i32 45, .int .i32 57] 73,
    .cells #[.int .i32 769, .int .i64 230, .int .i32 770, .int .i64 230, .int .i32 803, .int .i64 220] 75,
    .cells #[.int .i32 233, .int .i32 101, .int .i32 769, .int .i32 234, .int .i32 101, .int .i32 770, .int .i32 7865, .int .i32 101, .int .i32 803, .int .i32 7871, .int .i32 234, .int .i32 769] 77,
    .cells #[.int .i32 65, .string ⟨#[97]⟩, .int .i32 69, .string ⟨#[101]⟩] 79,
    .cells #[.int .i32 1072, .string ⟨#[97]⟩, .int .i32 49, .string ⟨#[108]⟩, .int .i32 109, .string ⟨#[114, 110]⟩] 79,
    .cells #[.int .i32 8205, .int .i32 8205] 73,
    .cells #[.int .i32 45, .int .i32 45, .int .i32 48, .int .i32 57, .int .i32 97, .int .i32 122, .int .i32 232, .int .i32 234, .int .i32 769, .int .i32 770, .int .i32 803, .int .i32 803, .int .i32 945, .int .i32 969, .int .i32 1072, .int .i32 1103, .int .i32 7865, .int .i32 7871] 73]
theorem rows_len {α : Type} (l : List α) (f : α → List Value) (k : Nat) (h : ∀ x, (f x).length = k) : ∀ x ∈ l.map f, x.length = k := fun x hx => by
  obtain ⟨y, -, rfl⟩ := List.mem_map.1 hx
  exact h y
theorem house_tab (w : World) : TabAt (lay w (houseO w)) (.slice (some ⟨w.heap.size + 1 + 1 + 1 + 1, 0, none⟩) 3 3) (.slice (some ⟨w.heap.size + 1 + 1 + 1 + 1 + 1, 0, none⟩) 1 1) (.slice (some ⟨w.heap.size + 1 + 1 + 1 + 1 + 1 + 1, 0, none⟩) 3 3) (.slice (some ⟨w.heap.size + 1 + 1 + 1 + 1 + 1 + 1 + 1, 0, none⟩) 4 4) (.slice (some ⟨w.heap.size + 1 + 1 + 1 + 1 + 1 + 1 + 1 + 1, 0, none⟩) 2 2) (.slice (some ⟨w.heap.size + 1 + 1 + 1 + 1 + 1 + 1 + 1 + 1 + 1, 0, none⟩) 3 3) (.slice (some ⟨w.heap.size + 1 + 1 + 1 + 1 + 1 + 1 + 1 + 1 + 1 + 1, 0, none⟩) 1 1) (.slice (some ⟨w.heap.size + 1 + 1 + 1 + 1 + 1 + 1 + 1 + 1 + 1 + 1 + 1, 0, none⟩) 9 9) houseT := by
  refine ⟨⟨[.slice (some ⟨w.heap.size + 1, 0, none⟩) 4 4, .slice (some ⟨w.heap.size + 1 + 1, 0, none⟩) 1 1, .slice (some ⟨w.heap.size + 1 + 1 + 1, 0, none⟩) 1 1], rfl, ?_, fun i x v hx hv => ?_⟩, ?_, ?_, ?_, ?_, ?_, ?_, ?_⟩
  · exact listAt_blk (t := 59) (by decide) (lay_blk 4 rfl (by omega)) (fun x hx => by obtain ⟨y, -, rfl⟩ := List.mem_map.1 hx; rfl) (by simp [houseT]) rfl
  · match i, hx, hv with
    | 0, hx, hv => cases hx; cases hv; exact listAt_blk (t := 73) (by decide) (lay_blk 1 rfl (by omega)) (rows_len _ encSpan 2 fun _ => rfl) (by decide) rfl
    | 1, hx, hv => cases hx; cases hv; exact listAt_blk (t := 73) (by decide) (lay_blk 2 rfl (by omega)) (rows_len _ encSpan 2 fun _ => rfl) (by decide) rfl
    | 2, hx, hv => cases hx; cases hv; exact listAt_blk (t := 73) (by decide) (lay_blk 3 rfl (by omega)) (rows_len _ encSpan 2 fun _ => rfl) (by decide) rfl
    | i + 3, hx, _ => simp [houseT] at hx
  · exact listAt_blk (t := 73) (by decide) (lay_blk 5 rfl (by omega)) (rows_len _ encSpan 2 fun _ => rfl) (by decide) rfl
  · exact listAt_blk (t := 75) (by decide) (lay_blk 6 rfl (by omega)) (rows_len _ encMark 2 fun _ => rfl) (by decide) rfl
  · exact listAt_blk (t := 77) (by decide) (lay_blk 7 rfl (by omega)) (rows_len _ encPair 3 fun _ => rfl) (by decide) rfl
  · exact listAt_blk (t := 79) (by decide) (lay_blk 8 rfl (by omega)) (rows_len _ encMap 2 fun _ => rfl) (by decide) rfl
  · exact listAt_blk (t := 79) (by decide) (lay_blk 9 rfl (by omega)) (rows_len _ encMap 2 fun _ => rfl) (by decide) rfl
  · exact listAt_blk (t := 73) (by decide) (lay_blk 10 rfl (by omega)) (rows_len _ encSpan 2 fun _ => rfl) (by decide) rfl
  · exact listAt_blk (t := 73) (by decide) (lay_blk 11 rfl (by omega)) (rows_len _ encSpan 2 fun _ => rfl) (by decide) rfl
set_option maxRecDepth 100000 in
set_option maxHeartbeats 8000000 in
theorem book_House (w : World) :
    Calls Tryz.prog 12 #[] w fun e w' => (∃ v0 v1 v2 v3 v4 v5 v6 v7, e = .returned (.agg #[v0, v1, v2, v3, v4, v5, v6, v7]) ∧ TabAt w' v0 v1 v2 v3 v4 v5 v6 v7 houseT) ∧ Below w.heap.size w w' := by
  have HT := Lib.hid (house_tab w)
  have HB := Lib.hid (lay_below (houseO w) w)
  have hbx : Blk (lay w (houseO w)) w.heap.size 28 #[.slice (some ⟨w.heap.size + 1 + 1 + 1 + 1, 0, none⟩) 3 3, .slice (some ⟨w.heap.size + 1 + 1 + 1 + 1 + 1, 0, none⟩) 1 1, .slice (some ⟨w.heap.size + 1 + 1 + 1 + 1 + 1 + 1, 0, none⟩) 3 3, .slice (some ⟨w.heap.size + 1 + 1 + 1 + 1 + 1 + 1 + 1, 0, none⟩) 4 4, .slice (some ⟨w.heap.size + 1 + 1 + 1 + 1 + 1 + 1 + 1 + 1, 0, none⟩) 2 2, .slice (some ⟨w.heap.size + 1 + 1 + 1 + 1 + 1 + 1 + 1 + 1 + 1, 0, none⟩) 3 3, .slice (some ⟨w.heap.size + 1 + 1 + 1 + 1 + 1 + 1 + 1 + 1 + 1 + 1, 0, none⟩) 1 1, .slice (some ⟨w.heap.size + 1 + 1 + 1 + 1 + 1 + 1 + 1 + 1 + 1 + 1 + 1, 0, none⟩) 9 9] := lay_blk 0 rfl rfl
  obtain ⟨b0, b1, b2, b3, b4, b5, b6, b7⟩ := box_facts hbx
  clear hbx
  go_enter Tryz.func12, Tryz.ntmps12
  go_wp2_with fail
  rw [show ((((((((((((w.alloc (.cells #[.slice (some ⟨w.heap.size + 1 + 1 + 1 + 1, 0, none⟩) 3 3, .slice (some ⟨w.heap.size + 1 + 1 + 1 + 1 + 1, 0, none⟩) 1 1, .slice (some ⟨w.heap.size + 1 + 1 + 1 + 1 + 1 + 1, 0, none⟩) 3 3, .slice (some ⟨w.heap.size + 1 + 1 + 1 + 1 + 1 + 1 + 1, 0, none⟩) 4 4, .slice (some ⟨w.heap.size + 1 + 1 + 1 + 1 + 1 + 1 + 1 + 1, 0, none⟩) 2 2, .slice (some ⟨w.heap.size + 1 + 1 + 1 + 1 + 1 + 1 + 1 + 1 + 1, 0, none⟩) 3 3, .slice (some ⟨w.heap.size + 1 + 1 + 1 + 1 + 1 + 1 + 1 + 1 + 1 + 1, 0, none⟩) 1 1, .slice (some ⟨w.heap.size + 1 + 1 + 1 + 1 + 1 + 1 + 1 + 1 + 1 + 1 + 1, 0, none⟩) 9 9] 28)).alloc (.cells #[.int .i32 65, .int .i32 90, .int .i32 97, .int .i32 122, .int .i32 232, .int .i32 234, .int .i32 7865, .int .i32 7871] 73)).alloc (.cells #[.int .i32 945, .int .i32 969] 73)).alloc (.cells #[.int .i32 1072, .int .i32 1103] 73)).alloc (.cells #[.string ⟨#[108, 97, 116, 105, 110]⟩, .slice (some ⟨w.heap.size + 1, 0, none⟩) 4 4, .string ⟨#[103, 114, 101, 101, 107]⟩, .slice (some ⟨w.heap.size + 1 + 1, 0, none⟩) 1 1, .string ⟨#[99, 121, 114, 105, 108, 108, 105, 99]⟩, .slice (some ⟨w.heap.size + 1 + 1 + 1, 0, none⟩) 1 1] 59)).alloc (.cells #[.int .i32 45, .int .i32 57] 73)).alloc (.cells #[.int .i32 769, .int .i64 230, .int .i32 770, .int .i64 230, .int .i32 803, .int .i64 220] 75)).alloc (.cells #[.int .i32 233, .int .i32 101, .int .i32 769, .int .i32 234, .int .i32 101, .int .i32 770, .int .i32 7865, .int .i32 101, .int .i32 803, .int .i32 7871, .int .i32 234, .int .i32 769] 77)).alloc (.cells #[.int .i32 65, .string ⟨#[97]⟩, .int .i32 69, .string ⟨#[101]⟩] 79)).alloc (.cells #[.int .i32 1072, .string ⟨#[97]⟩, .int .i32 49, .string ⟨#[108]⟩, .int .i32 109, .string ⟨#[114, 110]⟩] 79)).alloc (.cells #[.int .i32 8205, .int .i32 8205] 73)).alloc (.cells #[.int .i32 45, .int .i32 45, .int .i32 48, .int .i32 57, .int .i32 97, .int .i32 122, .int .i32 232, .int .i32 234, .int .i32 769, .int .i32 770, .int .i32 803, .int .i32 803, .int .i32 945, .int .i32 969, .int .i32 1072, .int .i32 1103, .int .i32 7865, .int .i32 7871] 73)) = lay w (houseO w) from rfl]
  obtain ⟨W, hW⟩ : ∃ W, lay w (houseO w) = W := ⟨_, rfl⟩
  rw [hW] at HT HB b0 b1 b2 b3 b4 b5 b6 b7 ⊢
  refine bodyPost_ret (v := .agg #[.slice (some ⟨w.heap.size + 1 + 1 + 1 + 1, 0, none⟩) 3 3, .slice (some ⟨w.heap.size + 1 + 1 + 1 + 1 + 1, 0, none⟩) 1 1, .slice (some ⟨w.heap.size + 1 + 1 + 1 + 1 + 1 + 1, 0, none⟩) 3 3, .slice (some ⟨w.heap.size + 1 + 1 + 1 + 1 + 1 + 1 + 1, 0, none⟩) 4 4, .slice (some ⟨w.heap.size + 1 + 1 + 1 + 1 + 1 + 1 + 1 + 1, 0, none⟩) 2 2, .slice (some ⟨w.heap.size + 1 + 1 + 1 + 1 + 1 + 1 + 1 + 1 + 1, 0, none⟩) 3 3, .slice (some ⟨w.heap.size + 1 + 1 + 1 + 1 + 1 + 1 + 1 + 1 + 1 + 1, 0, none⟩) 1 1, .slice (some ⟨w.heap.size + 1 + 1 + 1 + 1 + 1 + 1 + 1 + 1 + 1 + 1 + 1, 0, none⟩) 9 9]) ?_ rfl ⟨⟨_, _, _, _, _, _, _, _, rfl, HT.out⟩, HB.out⟩
  simp [results, Tryz.results12, go_sem, b0, b1, b2, b3, b4, b5, b6, b7]

end
section
open Go.RowKit
set_option linter.unusedVariables false
theorem own_full {W : World} {base n : Nat} {v : Value} {ns : List Int} (h : W.ownsRow base 21 1 v n (ns.map (Value.int .i32))) (hn : n = ns.length) : (v = .slice none 0 0 ∧ n = 0) ∨ ∃ g cap, v = .slice (some ⟨g, 0, none⟩) n cap ∧ n ≤ cap ∧ base ≤ g ∧ (∀ j x, ns[j]? = some x → W.cell? ⟨g, j, none⟩ = some (.int .i32 x)) ∧ ∀ j, W.frozen? ⟨g, j, none⟩ = false := by
  obtain ⟨h1, h2 | ⟨g, cap, cur, h2, h3, h4, h5, h6, h7, h8⟩⟩ := h
  · exact .inl h2
  · refine .inr ⟨g, cap, h2, h5, h3, fun j x hx => ?_, fun j => (show Blk W g 21 cur from h4).frozen j⟩
    rw [(show Blk W g 21 cur from h4).cell]
    have hj := (List.getElem?_eq_some_iff.1 hx).1
    have : (cur.toList.take (n * 1))[j]? = some (.int .i32 x) := by rw [h8, List.getElem?_map, hx]; rfl
    rw [List.getElem?_take_of_lt (by omega)] at this
    simpa using this
theorem own_put {W : World} {base n g cap i : Nat} {ns : List Int} (z : Int) (h : W.ownsRow base 21 1 (.slice (some ⟨g, 0, none⟩) n cap) n (ns.map (Value.int .i32))) (hi : i < n) : (W.setCell ⟨g, i, none⟩ (.int .i32 z)).ownsRow base 21 1 (.slice (some ⟨g, 0, none⟩) n cap) n ((ns.set i z).map (Value.int .i32)) := by
  obtain ⟨h1, ⟨h2, -⟩ | ⟨g', cap', cur, h2, h3, h4, h5, h6, h7, h8⟩⟩ := h
  · cases h2
  · cases h2
    refine ⟨by simpa using h1, .inr ⟨g, cap, cur.setIfInBounds i (.int .i32 z), rfl, h3, ?_, h5, h6, by simpa using h7, ?_⟩⟩
    · exact (show Blk W g 21 cur from h4).set_ i (.int .i32 z)
    · rw [Array.toList_setIfInBounds, List.take_set, h8, List.map_set]
/-- one step of Shut: what stands so far, the seat -/
def shutStep (T : Tab) (o : List Int × Int) (r : Int) : List Int × Int :=
  if clsT T r = 0 then (o.1 ++ [r], (o.1.length : Int))
  else if o.2 < 0 ∨ (o.2 + 1 < o.1.length ∧ clsT T r ≤ clsT T (o.1.getD (o.1.length - 1) 0)) then (o.1 ++ [r], o.2)
  else match (mapsOf T).jn (o.1.getD o.2.toNat 0, r) with
    | some z => (o.1.set o.2.toNat z, o.2)
    | none => (o.1 ++ [r], o.2)
def shutS (T : Tab) (s : ByteArray) : ByteArray := strR ((rn (openS T s)).foldl (shutStep T) ([], -1)).1
theorem jn_i32 {T : Tab} (h : RightT T) {x : Int × Int} {z : Int} (hp : (mapsOf T).jn x = some z) : i32 z := by
  unfold mapsOf at hp
  dsimp only at hp
  cases hf : T.pairs.find? fun p => decide ((p.base, p.mark) = x) with
  | none => rw [hf] at hp; cases hp
  | some m => rw [hf] at hp; cases hp; exact (h.ok.pairs m (List.mem_of_find?_eq_some hf)).1
section
variable {w wr w2 : World} {g g' p cap i : Nat} {s : ByteArray} {out : List Int} {v v' : Value}
theorem OpS.pushOne (h : OpS w g s p out v wr) (hg : w.heap.size ≤ g) {o : Obj} {r : Int} (hown : w2.ownsRow (g + 1) 21 1 v' (out.length + 1) (out.map (Value.int .i32) ++ [.int .i32 r])) (hgr : (wr.alloc o).grownBy w2 v.ownBlock) : OpS w g s p (out ++ [r]) v' w2 :=
  (h.step ((Below.refl _ wr).alloc (Nat.le_refl _) o)).push hg (more := [r]) rfl hown hgr
theorem OpS.put (h : OpS w g s p out (.slice (some ⟨g', 0, none⟩) out.length cap) wr) (hg : w.heap.size ≤ g) (hi : i < out.length) (z : Int) : OpS w g s p (out.set i z) (.slice (some ⟨g', 0, none⟩) out.length cap) (wr.setCell ⟨g', i, none⟩ (.int .i32 z)) := by
  have hlt := (h.own.lt g' rfl).1
  refine ⟨⟨h.it.below.setCell (p := ⟨g', i, none⟩) (by show w.heap.size ≤ g'; omega) _, (Below.heap_setCell _ _ _ _ (by show g ≠ g'; omega)).trans h.it.it⟩, ?_⟩
  have := own_put z h.own hi
  rw [List.length_set]
  exact this
end
theorem open_big (T : Tab) (s : ByteArray) : (openS T s).size ≤ 80 * s.size := open_size T s
theorem bk_JoinedQ {w : World} {b : Nat} {T : Tab} (h : Bk w b T) {x y : Int} (hx : i32 x) (hy : i32 y) {z : Int} (hz : ((mapsOf T).jn (x, y)).getD 0 = z) {ok : Bool} (ho : ((mapsOf T).jn (x, y)).isSome = ok) :
    Calls Tryz.prog 103 #[.pointer (some ⟨b, 0, none⟩), .int .i32 x, .int .i32 y] w fun e w' => e = .returned (.tuple #[.int .i32 z, .bool ok]) ∧ w = w' := by
  obtain ⟨m1, m2, m3, m4, m5, u0, u1, u2, u3, u4, u5, u6, u7, -, -, -, -, -, -, ht, hM⟩ := h
  obtain ⟨-, -, q10, -, -⟩ := hM.cells
  have l1 := hM.look_jn (p := (x, y)) hx hy
  rw [hz, ho] at l1
  clear ht hM hz ho
  go_enter Tryz.func103, Tryz.ntmps103
  go_wp2_with fail
  go_ret2
  exact ⟨rfl, rfl⟩
set_option maxRecDepth 100000 in
set_option maxHeartbeats 8000000 in
theorem shut_Shut {w : World} {b : Nat} {T : Tab} (hK : Bk w b T) (hR : RightT T) (s : ByteArray) (hs : s.size ≤ 100000) :
    Calls Tryz.prog 44 #[.pointer (some ⟨b, 0, none⟩), .string s] w fun e w' => e = .returned (.string (shutS T s)) ∧ Below w.heap.size w w' := by
  obtain ⟨i0, hi, hz0, hz1, hz2⟩ := info_parts infoR
  have HK := Lib.hid hK
  have HR := Lib.hid hR
  have hz := open_big T s
  have HO := Lib.hid (open_Open hK hR s (by omega))
  obtain ⟨t, ht⟩ : ∃ t, openS T s = t := ⟨_, rfl⟩
  have HSS : Hid (shutS T s = strR ((rn t).foldl (shutStep T) ([], -1)).1) := Lib.hid (by rw [← ht]; rfl)
  rw [ht] at HO hz
  have htz : t.size ≤ 8000000 := by omega
  clear hK hR ht hz
  go_enter Tryz.func44, Tryz.ntmps44
  go_wp2_with (go_at_call 17; refine HO.out.mono ?_; rintro e w1 ⟨rfl, hb1⟩)
  obtain ⟨g, hg⟩ : ∃ g, w1.heap.size = g := ⟨_, rfl⟩
  have hwg : w.heap.size ≤ g := by rw [← hg]; exact hb1.size
  have HS0 : Hid (OpS w g t 0 [] (.slice none 0 0) (w1.iter t 0)) := Lib.hid (by rw [← hg]; exact ⟨ItAt.start hb1, World.ownsRow_nil _ _ _ _⟩)
  clear hb1
  simp only [hg]
  clear hg
  go_loopw [5, 6] (fun v sv wr => ∃ (p : Nat) (out : List Int) (seat : Int), sv = .int .i64 seat ∧ -1 ≤ seat ∧ seat < out.length ∧ p ≤ t.size ∧ out.length ≤ p ∧ Hid (∀ x ∈ out, i32 x) ∧ Hid (OpS w g t p out v wr) ∧ Hid ((runesI (t.data.toList.drop p)).foldl (shutStep T) (out, seat) = (rn t).foldl (shutStep T) ([], -1))) (fun _ _ wr => t.size - wr.iterPos g)
  case atStart => exact ⟨0, [], -1, rfl, by omega, by simp, Nat.zero_le _, by simp, Lib.hid (fun x hx => by cases hx), HS0, Lib.hid (by rw [rn_def]; rfl)⟩
  case round =>
    clear HS0
    obtain ⟨p, out, seat, rfl, hs1, hs2, hp, hl, HI, HA, HL⟩ := hrel
    by_cases hlt : p < t.size
    · have hnx := fun ty => Lib.run_next_any_at (P := Tryz.prog) wr g t p ty HA.out.it.it hlt
      obtain ⟨d1, d2, d3⟩ := dec_pos t hlt
      obtain ⟨rN, hrN⟩ : ∃ r : Nat, (Utf8.decode t p).1 = r := ⟨_, rfl⟩
      obtain ⟨q, hq⟩ : ∃ q, p + (Utf8.decode t p).2 = q := ⟨_, rfl⟩
      have hrc := rn_cons hlt
      rw [hrN, hq] at hrc
      have HA2 := Lib.hid (HA.out.next hwg q)
      have Hpos := Lib.hid HA.out.it.pos
      simp only [hrN, hq] at hnx
      obtain ⟨w3, hw3⟩ : ∃ w3, wr.iterAt g t q = w3 := ⟨_, rfl⟩
      rw [hw3] at HA2
      simp only [hw3] at hnx
      have hri : i32 (rN : Int) := by unfold i32; omega
      obtain ⟨r, hr⟩ : ∃ r : Int, (rN : Int) = r := ⟨_, rfl⟩
      rw [hr] at hri hrc
      simp only [hr] at hnx
      obtain ⟨c, hc⟩ : ∃ c, clsT T r = c := ⟨_, rfl⟩
      have hKw : Bk w3 b T := HK.out.below HA2.out.it.below
      have HC : Hid (∀ x d, Hid (i32 x) → Hid (clsT T x = d) → Calls Tryz.prog 102 #[.pointer (some ⟨b, 0, none⟩), .int .i32 x] w3 fun e w' => e = .returned (.int .i64 d) ∧ w3 = w') := Lib.hid (fun x d h1 h2 => by rw [← h2.out]; exact bk_Class hKw h1.out)
      rw [hrc, List.foldl_cons] at HL
      have hq1 : p + 1 ≤ q := by omega
      have hq2 : q ≤ t.size := by omega
      have Hm : Hid (t.size - q < t.size - p) := Lib.hid (by omega)
      obtain ⟨n, hn⟩ : ∃ n, out.length = n := ⟨_, rfl⟩
      have Hn := Lib.hid hn
      have Hc := Lib.hid hc
      have Hri := Lib.hid hri
      have HKw := Lib.hid hKw
      have HIr : Hid (∀ x ∈ out ++ [r], i32 x) := Lib.hid (fun x hx => by
        rcases List.mem_append.1 hx with hx | hx
        · exact HI.out x hx
        · simp at hx; rw [hx]; exact hri)
      have hsz := HA2.out.it.lt
      rw [hn] at hs2 hl
      clear hrc hrN hq hw3 d1 d2 d3 HA hn hc hr hri hKw
      by_cases hc0 : c = 0
      · have t1 : (c == 0) = true := by simp [hc0]
        have HL2 : Hid ((runesI (t.data.toList.drop q)).foldl (shutStep T) (out ++ [r], (n : Int)) = (rn t).foldl (shutStep T) ([], -1)) := Lib.hid (by rw [← HL.out, ← Hn.out]; congr 1; unfold shutStep; rw [if_pos (by rw [Hc.out]; exact hc0)])
        clear hc0
        go_wp2_with (first | (go_at_call 102; refine (HC.out _ _ (by assumption) (by assumption)).mono ?_; rintro e w' ⟨rfl, rfl⟩) | (at_builtin; (refine wpList_append_own _ rfl _ _ 55 rfl (g + 1) 21 i0 _ 1 4 Tryz.underlying55 hi hz0 hz1 hz2 rfl (by decide) u5 n _ rfl (by rw [← Hn.out]; exact (HA2.out.own.alloc _)) ⟨w3.heap.size, 0, none⟩ 1 1 [.int .i32 r] rfl rfl (cells_new _ _ _ _ rfl) (by simp [Value.oneCell']) (by unfold maxLen; omega) (by omega) (by rw [World.size_alloc]; omega) ?_); intro v' w5 hown' hgrow _; obtain ⟨A9, c9, rfl, -⟩ := own_form hown'))
        have HA5 := Lib.hid (HA2.out.pushOne hwg (by rw [Hn.out]; exact hown') hgrow)
        go_roundw
        case rel => exact ⟨q, out ++ [r], (n : Int), by go_num, by omega, by simp [Hn.out]; omega, hq2, by simp [Hn.out]; omega, HIr, HA5, HL2⟩
        case measure => rw [HA5.out.it.pos, Hpos.out]; exact Hm.out
      · have t1 : (c == 0) = false := by simpa using hc0
        have Hc0 := Lib.hid hc0
        clear hc0
        by_cases hse : seat < 0
        · have HL2 : Hid ((runesI (t.data.toList.drop q)).foldl (shutStep T) (out ++ [r], seat) = (rn t).foldl (shutStep T) ([], -1)) := Lib.hid (by rw [← HL.out]; congr 1; unfold shutStep; rw [if_neg (by rw [Hc.out]; exact Hc0.out), if_pos (.inl hse)])
          have es : seat + 1 = 0 := by omega
          have hse2 : decide (seat < 0) = true := decide_eq_true hse
          have h0n : (0 : Int) ≤ (n : Int) := by omega
          rcases own_full (HA2.out.own) rfl with ⟨hv, hn0⟩ | ⟨g', cap, hv, hcap, hgg, -, -⟩
          · rw [Hn.out] at hn0
            subst hn0 hv
            have Hown : Hid (∀ o, (w3.alloc o).ownsRow (g + 1) 21 1 (.slice none 0 0) 0 (out.map (Value.int .i32))) := Lib.hid (fun o => by have := HA2.out.own.alloc (o := o); rw [Hn.out] at this; exact this)
            go_wp2_with (first | (go_at_call 102; refine (HC.out _ _ (by assumption) (by assumption)).mono ?_; rintro e w' ⟨rfl, rfl⟩) | (at_builtin; (refine wpList_append_own _ rfl _ _ 55 rfl (g + 1) 21 i0 _ 1 4 Tryz.underlying55 hi hz0 hz1 hz2 rfl (by decide) (.slice none 0 0) 0 _ rfl (Hown.out _) ⟨w3.heap.size, 0, none⟩ 1 1 [.int .i32 r] rfl rfl (cells_new _ _ _ _ rfl) (by simp [Value.oneCell']) (by unfold maxLen; omega) (by omega) (by rw [World.size_alloc]; omega) ?_); intro v' w5 hown' hgrow _; obtain ⟨A9, c9, rfl, -⟩ := own_form hown'))
            have HA5 := Lib.hid (HA2.out.pushOne hwg (by rw [Hn.out]; exact hown') hgrow)
            go_roundw
            case rel => exact ⟨q, out ++ [r], seat, by go_num, by omega, by simp [Hn.out]; omega, hq2, by simp [Hn.out]; omega, HIr, HA5, HL2⟩
            case measure => rw [HA5.out.it.pos, Hpos.out]; exact Hm.out
          · rw [Hn.out] at hcap hv
            subst hv
            have Hown : Hid (∀ o, (w3.alloc o).ownsRow (g + 1) 21 1 (.slice (some ⟨g', 0, none⟩) n cap) n (out.map (Value.int .i32))) := Lib.hid (fun o => by have := HA2.out.own.alloc (o := o); rw [Hn.out] at this; exact this)
            go_wp2_with (first | (go_at_call 102; refine (HC.out _ _ (by assumption) (by assumption)).mono ?_; rintro e w' ⟨rfl, rfl⟩) | (at_builtin; (refine wpList_append_own _ rfl _ _ 55 rfl (g + 1) 21 i0 _ 1 4 Tryz.underlying55 hi hz0 hz1 hz2 rfl (by decide) (.slice (some ⟨g', 0, none⟩) n cap) n _ rfl (Hown.out _) ⟨w3.heap.size, 0, none⟩ 1 1 [.int .i32 r] rfl rfl (cells_new _ _ _ _ rfl) (by simp [Value.oneCell']) (by unfold maxLen; omega) (by omega) (by rw [World.size_alloc]; omega) ?_); intro v' w5 hown' hgrow _; obtain ⟨A9, c9, rfl, -⟩ := own_form hown'))
            have HA5 := Lib.hid (HA2.out.pushOne hwg (by rw [Hn.out]; exact hown') hgrow)
            go_roundw
            case rel => exact ⟨q, out ++ [r], seat, by go_num, by omega, by simp [Hn.out]; omega, hq2, by simp [Hn.out]; omega, HIr, HA5, HL2⟩
            case measure => rw [HA5.out.it.pos, Hpos.out]; exact Hm.out
        · have h1n : 1 ≤ n := by omega
          obtain ⟨j, hj⟩ : ∃ j : Nat, seat = (j : Int) := ⟨seat.toNat, by omega⟩
          subst hj
          have hjn : j < n := by omega
          obtain ⟨m, hm⟩ : ∃ m : Nat, n - (j + 1) = m := ⟨_, rfl⟩
          obtain ⟨j1, hj1⟩ : ∃ j1 : Nat, j + 1 = j1 := ⟨_, rfl⟩
          rcases own_full (HA2.out.own) rfl with ⟨hv, hn0⟩ | ⟨g', cap, hv, hcap, hgg, hcell, hfro⟩
          · exfalso; rw [Hn.out] at hn0; omega
          · rw [Hn.out] at hcap hv
            subst hv
            have Hown : Hid (∀ o, (w3.alloc o).ownsRow (g + 1) 21 1 (.slice (some ⟨g', 0, none⟩) n cap) n (out.map (Value.int .i32))) := Lib.hid (fun o => by have := HA2.out.own.alloc (o := o); rw [Hn.out] at this; exact this)
            have hse2 : decide ((j : Int) < 0) = false := decide_eq_false hse
            have es : (j : Int) + 1 = (j1 : Int) := by omega
            have hb1 : (j1 : Int) ≤ (n : Int) := by omega
            have hc1 := Lib.hid hj1
            have hc2 := Lib.hid hm
            clear hj1 hm
            obtain ⟨x, hx⟩ : ∃ x, out.getD (out.length - 1) 0 = x := ⟨_, rfl⟩
            obtain ⟨y, hy⟩ : ∃ y, out.getD j 0 = y := ⟨_, rfl⟩
            have hcx : w3.cell? ⟨g', n - 1, none⟩ = some (.int .i32 x) := hcell _ _ (by rw [← hx, List.getD_eq_getElem?_getD, Hn.out, List.getElem?_eq_getElem (by rw [Hn.out]; omega)]; rfl)
            have hcy : w3.cell? ⟨g', j, none⟩ = some (.int .i32 y) := hcell _ _ (by rw [← hy, List.getD_eq_getElem?_getD, List.getElem?_eq_getElem (by rw [Hn.out]; omega)]; rfl)
            have hx32 : i32 x := HI.out x (by rw [← hx, List.getD_eq_getElem?_getD, List.getElem?_eq_getElem (by rw [Hn.out]; omega)]; exact List.getElem_mem _)
            have hy32 : i32 y := HI.out y (by rw [← hy, List.getD_eq_getElem?_getD, List.getElem?_eq_getElem (by rw [Hn.out]; omega)]; exact List.getElem_mem _)
            obtain ⟨cx, hcxv⟩ : ∃ cx, clsT T x = cx := ⟨_, rfl⟩
            have Hx32 := Lib.hid hx32
            obtain ⟨z, hz⟩ : ∃ z, ((mapsOf T).jn (y, r)).getD 0 = z := ⟨_, rfl⟩
            obtain ⟨ok, ho⟩ : ∃ ok, ((mapsOf T).jn (y, r)).isSome = ok := ⟨_, rfl⟩
            have HJ := Lib.hid (bk_JoinedQ HKw.out hy32 Hri.out hz ho)
            have Hx := Lib.hid hx
            have Hy := Lib.hid hy
            have Hcx := Lib.hid hcxv
            have Hz := Lib.hid hz
            have Ho := Lib.hid ho
            clear hx hy hcxv hz ho
            by_cases hm0 : 0 < n - j1
            · have hmm : decide (0 < ((n - j1 : Nat) : Int)) = true := decide_eq_true (by omega)
              have he : j1 + (n - j1 - 1) = n - 1 := by omega
              rw [← he] at hcx
              clear he
              have hj0 := hc1.out
              have hp1 : (((j : Int), c) : Int × Int).1 = j := rfl
              by_cases hbk : c ≤ cx
              · have hcc : decide (c ≤ cx) = true := decide_eq_true hbk
                have HL2 : Hid ((runesI (t.data.toList.drop q)).foldl (shutStep T) (out ++ [r], (j : Int)) = (rn t).foldl (shutStep T) ([], -1)) := Lib.hid (by rw [← HL.out]; congr 1; unfold shutStep; rw [if_neg (by rw [Hc.out]; exact Hc0.out), if_pos (.inr ⟨by rw [Hn.out]; show (j : Int) + 1 < _; omega, by rw [Hx.out, Hc.out, Hcx.out]; exact hbk⟩)])
                clear hj0
                go_wp2_with (first | (go_at_call 102; refine (HC.out _ _ (by assumption) (by assumption)).mono ?_; rintro e w' ⟨rfl, rfl⟩) | (at_builtin; (refine wpList_append_own _ rfl _ _ 55 rfl (g + 1) 21 i0 _ 1 4 Tryz.underlying55 hi hz0 hz1 hz2 rfl (by decide) (.slice (some ⟨g', 0, none⟩) n cap) n _ rfl (Hown.out _) ⟨w3.heap.size, 0, none⟩ 1 1 [.int .i32 r] rfl rfl (cells_new _ _ _ _ rfl) (by simp [Value.oneCell']) (by unfold maxLen; omega) (by omega) (by rw [World.size_alloc]; omega) ?_); intro v' w5 hown' hgrow _; obtain ⟨A9, c9, rfl, -⟩ := own_form hown'))
                have HA5 := Lib.hid (HA2.out.pushOne hwg (by rw [Hn.out]; exact hown') hgrow)
                go_roundw
                case rel => exact ⟨q, out ++ [r], (j : Int), by go_num, by omega, by simp [Hn.out]; omega, hq2, by simp [Hn.out]; omega, HIr, HA5, HL2⟩
                case measure => rw [HA5.out.it.pos, Hpos.out]; exact Hm.out
              · have hcc : decide (c ≤ cx) = false := decide_eq_false hbk
                have HLx : shutStep T (out, (j : Int)) r = match (mapsOf T).jn (y, r) with | some z => (out.set j z, (j : Int)) | none => (out ++ [r], (j : Int)) := by
                  unfold shutStep
                  rw [if_neg (by rw [Hc.out]; exact Hc0.out), if_neg (by rw [Hx.out, Hc.out, Hcx.out]; exact fun h => h.elim hse (fun h => hbk h.2))]
                  rw [← Hy.out]; rfl
                clear hj0
                cases hj' : (mapsOf T).jn (y, r) with
                | some z' =>
                  rw [hj'] at HLx
                  have hok : ok = true := by rw [← Ho.out, hj']; rfl
                  have hzz : z = z' := by rw [← Hz.out, hj']; rfl
                  subst hok hzz
                  have HL2 : Hid ((runesI (t.data.toList.drop q)).foldl (shutStep T) (out.set j z, (j : Int)) = (rn t).foldl (shutStep T) ([], -1)) := Lib.hid (by rw [← HL.out, HLx])
                  have hz32 : i32 z := jn_i32 HR.out hj'
                  have HIs : Hid (∀ x ∈ out.set j z, i32 x) := Lib.hid (fun x hx => by
                    rcases List.mem_or_eq_of_mem_set hx with hx | rfl
                    · exact HI.out x hx
                    · exact hz32)
                  have HA5 : Hid (OpS w g t q (out.set j z) (.slice (some ⟨g', 0, none⟩) n cap) (w3.setCell ⟨g', j, none⟩ (.int .i32 z))) := Lib.hid (by
                    have hv : (Value.slice (some ⟨g', 0, none⟩) n cap) = .slice (some ⟨g', 0, none⟩) out.length cap := by rw [Hn.out]
                    rw [hv] at HA2 ⊢
                    exact HA2.out.put hwg (by rw [Hn.out]; exact hjn) z)
                  have hfr := hfro j
                  clear HLx hj'
                  go_wp2_with (first | (go_at_call 102; refine (HC.out _ _ (by assumption) (by assumption)).mono ?_; rintro e w' ⟨rfl, rfl⟩) | (go_at_call 103; refine HJ.out.mono ?_; rintro e w' ⟨rfl, rfl⟩))
                  go_roundw
                  case rel => exact ⟨q, out.set j z, (j : Int), by go_num, by omega, by simp [Hn.out]; omega, hq2, by simp [Hn.out]; omega, HIs, HA5, HL2⟩
                  case measure => rw [HA5.out.it.pos, Hpos.out]; exact Hm.out
                | none =>
                  rw [hj'] at HLx
                  have hok : ok = false := by rw [← Ho.out, hj']; rfl
                  subst hok
                  have HL2 : Hid ((runesI (t.data.toList.drop q)).foldl (shutStep T) (out ++ [r], (j : Int)) = (rn t).foldl (shutStep T) ([], -1)) := Lib.hid (by rw [← HL.out, HLx])
                  clear HLx hj'
                  go_wp2_with (first | (go_at_call 102; refine (HC.out _ _ (by assumption) (by assumption)).mono ?_; rintro e w' ⟨rfl, rfl⟩) | (go_at_call 103; refine HJ.out.mono ?_; rintro e w' ⟨rfl, rfl⟩) | (at_builtin; (refine wpList_append_own _ rfl _ _ 55 rfl (g + 1) 21 i0 _ 1 4 Tryz.underlying55 hi hz0 hz1 hz2 rfl (by decide) (.slice (some ⟨g', 0, none⟩) n cap) n _ rfl (Hown.out _) ⟨w3.heap.size, 0, none⟩ 1 1 [.int .i32 r] rfl rfl (cells_new _ _ _ _ rfl) (by simp [Value.oneCell']) (by unfold maxLen; omega) (by omega) (by rw [World.size_alloc]; omega) ?_); intro v' w5 hown' hgrow _; obtain ⟨A9, c9, rfl, -⟩ := own_form hown'))
                  have HA5 := Lib.hid (HA2.out.pushOne hwg (by rw [Hn.out]; exact hown') hgrow)
                  go_roundw
                  case rel => exact ⟨q, out ++ [r], (j : Int), by go_num, by omega, by simp [Hn.out]; omega, hq2, by simp [Hn.out]; omega, HIr, HA5, HL2⟩
                  case measure => rw [HA5.out.it.pos, Hpos.out]; exact Hm.out
            · have hmm : decide (0 < ((n - j1 : Nat) : Int)) = false := decide_eq_false (by omega)
              have hj0 := hc1.out
              have HLx : shutStep T (out, (j : Int)) r = match (mapsOf T).jn (y, r) with | some z => (out.set j z, (j : Int)) | none => (out ++ [r], (j : Int)) := by
                unfold shutStep
                rw [if_neg (by rw [Hc.out]; exact Hc0.out), if_neg (by rw [Hn.out]; exact fun h => h.elim hse (fun h => by have : (j : Int) + 1 < n := h.1; omega))]
                rw [← Hy.out]; rfl
              clear hj0
              cases hj' : (mapsOf T).jn (y, r) with
              | some z' =>
                rw [hj'] at HLx
                have hok : ok = true := by rw [← Ho.out, hj']; rfl
                have hzz : z = z' := by rw [← Hz.out, hj']; rfl
                subst hok hzz
                have HL2 : Hid ((runesI (t.data.toList.drop q)).foldl (shutStep T) (out.set j z, (j : Int)) = (rn t).foldl (shutStep T) ([], -1)) := Lib.hid (by rw [← HL.out, HLx])
                have hz32 : i32 z := jn_i32 HR.out hj'
                have HIs : Hid (∀ x ∈ out.set j z, i32 x) := Lib.hid (fun x hx => by
                  rcases List.mem_or_eq_of_mem_set hx with hx | rfl
                  · exact HI.out x hx
                  · exact hz32)
                have HA5 : Hid (OpS w g t q (out.set j z) (.slice (some ⟨g', 0, none⟩) n cap) (w3.setCell ⟨g', j, none⟩ (.int .i32 z))) := Lib.hid (by
                  have hv : (Value.slice (some ⟨g', 0, none⟩) n cap) = .slice (some ⟨g', 0, none⟩) out.length cap := by rw [Hn.out]
                  rw [hv] at HA2 ⊢
                  exact HA2.out.put hwg (by rw [Hn.out]; exact hjn) z)
                have hfr := hfro j
                clear HLx hj'
                go_wp2_with (first | (go_at_call 102; refine (HC.out _ _ (by assumption) (by assumption)).mono ?_; rintro e w' ⟨rfl, rfl⟩) | (go_at_call 103; refine HJ.out.mono ?_; rintro e w' ⟨rfl, rfl⟩))
                go_roundw
                case rel => exact ⟨q, out.set j z, (j : Int), by go_num, by omega, by simp [Hn.out]; omega, hq2, by simp [Hn.out]; omega, HIs, HA5, HL2⟩
                case measure => rw [HA5.out.it.pos, Hpos.out]; exact Hm.out
              | none =>
                rw [hj'] at HLx
                have hok : ok = false := by rw [← Ho.out, hj']; rfl
                subst hok
                have HL2 : Hid ((runesI (t.data.toList.drop q)).foldl (shutStep T) (out ++ [r], (j : Int)) = (rn t).foldl (shutStep T) ([], -1)) := Lib.hid (by rw [← HL.out, HLx])
                clear HLx hj'
                go_wp2_with (first | (go_at_call 102; refine (HC.out _ _ (by assumption) (by assumption)).mono ?_; rintro e w' ⟨rfl, rfl⟩) | (go_at_call 103; refine HJ.out.mono ?_; rintro e w' ⟨rfl, rfl⟩) | (at_builtin; (refine wpList_append_own _ rfl _ _ 55 rfl (g + 1) 21 i0 _ 1 4 Tryz.underlying55 hi hz0 hz1 hz2 rfl (by decide) (.slice (some ⟨g', 0, none⟩) n cap) n _ rfl (Hown.out _) ⟨w3.heap.size, 0, none⟩ 1 1 [.int .i32 r] rfl rfl (cells_new _ _ _ _ rfl) (by simp [Value.oneCell']) (by unfold maxLen; omega) (by omega) (by rw [World.size_alloc]; omega) ?_); intro v' w5 hown' hgrow _; obtain ⟨A9, c9, rfl, -⟩ := own_form hown'))
                have HA5 := Lib.hid (HA2.out.pushOne hwg (by rw [Hn.out]; exact hown') hgrow)
                go_roundw
                case rel => exact ⟨q, out ++ [r], (j : Int), by go_num, by omega, by simp [Hn.out]; omega, hq2, by simp [Hn.out]; omega, HIr, HA5, HL2⟩
                case measure => rw [HA5.out.it.pos, Hpos.out]; exact Hm.out
    · have hnx := fun ty => Lib.run_next_end_at (P := Tryz.prog) wr g t p ty HA.out.it.it hlt
      rw [rn_end hlt] at HL
      have HL3 : Hid (shutS T s = strR out) := Lib.hid (by rw [HSS.out, ← HL.out]; rfl)
      obtain ⟨A, c, hv, hA⟩ := own_runes HA.out.own rfl
      have hcr := conv_runes (c := c) hA
      subst hv
      clear HL hA
      go_wp2_with fail
      go_ret
      exact ⟨by rw [HL3.out]; rfl, HA.out.it.below⟩

end
section
open Go.RowKit
set_option linter.unusedVariables false
def normS (T : Tab) (s : ByteArray) : ByteArray := shutS T (foldS T (openS T (stripS T s)))
set_option maxRecDepth 100000 in
set_option maxHeartbeats 4000000 in
theorem norm_Norm {w : World} {b : Nat} {T : Tab} (hK : Bk w b T) (hR : RightT T) (s : ByteArray) (hs : s.size ≤ 10) :
    Calls Tryz.prog 15 #[.pointer (some ⟨b, 0, none⟩), .string s] w fun e w' => e = .returned (.string (normS T s)) ∧ Below w.heap.size w w' := by
  have HK := Lib.hid hK
  have HR := Lib.hid hR
  have z1 := strip_size T s
  have z2 := open_size T (stripS T s)
  have z3 := fold_size hR (openS T (stripS T s))
  have y1 : s.size ≤ 10000000 := by omega
  have y2 : (stripS T s).size ≤ 100000 := by omega
  have y3 : (openS T (stripS T s)).size ≤ 1000000 := by omega
  have y4 : (foldS T (openS T (stripS T s))).size ≤ 100000 := by omega
  have HN : Hid (normS T s = shutS T (foldS T (openS T (stripS T s)))) := Lib.hid rfl
  clear hK hR z1 z2 z3 hs
  obtain ⟨t1, e1⟩ : ∃ t, stripS T s = t := ⟨_, rfl⟩
  have C1 : ∀ w', Below w.heap.size w w' → Calls Tryz.prog 18 #[.pointer (some ⟨b, 0, none⟩), .string s] w' fun e w2 => e = .returned (.string t1) ∧ Below w'.heap.size w' w2 := fun w' hb => by rw [← e1]; exact strip_Strip (HK.out.below hb) HR.out s y1
  rw [e1] at HN y2 y3 y4
  obtain ⟨t2, e2⟩ : ∃ t, openS T t1 = t := ⟨_, rfl⟩
  have C2 : ∀ w', Below w.heap.size w w' → Calls Tryz.prog 17 #[.pointer (some ⟨b, 0, none⟩), .string t1] w' fun e w2 => e = .returned (.string t2) ∧ Below w'.heap.size w' w2 := fun w' hb => by rw [← e2]; exact open_Open (HK.out.below hb) HR.out t1 y2
  rw [e2] at HN y3 y4
  obtain ⟨t3, e3⟩ : ∃ t, foldS T t2 = t := ⟨_, rfl⟩
  have C3 : ∀ w', Below w.heap.size w w' → Calls Tryz.prog 16 #[.pointer (some ⟨b, 0, none⟩), .string t2] w' fun e w2 => e = .returned (.string t3) ∧ Below w'.heap.size w' w2 := fun w' hb => by rw [← e3]; exact fold_Fold (HK.out.below hb) HR.out t2 y3
  rw [e3] at HN y4
  have C4 : ∀ w', Below w.heap.size w w' → Calls Tryz.prog 44 #[.pointer (some ⟨b, 0, none⟩), .string t3] w' fun e w2 => e = .returned (.string (normS T s)) ∧ Below w'.heap.size w' w2 := fun w' hb => by rw [HN.out]; exact shut_Shut (HK.out.below hb) HR.out t3 y4
  have C1 := Lib.hid C1
  have C2 := Lib.hid C2
  have C3 := Lib.hid C3
  have C4 := Lib.hid C4
  clear e1 e2 e3 y1 y2 y3 y4 HK HR
  go_enter Tryz.func15, Tryz.ntmps15
  go_wp2_with fail
  obtain ⟨w1, hw1⟩ : ∃ w1, (w.alloc (Obj.cells #[Value.func (Fn.func 18) #[] #[], Value.func (Fn.func 17) #[] #[], Value.func (Fn.func 16) #[] #[], Value.func (Fn.func 44) #[] #[]] 88)) = w1 := ⟨_, rfl⟩
  obtain ⟨N, hN⟩ : ∃ N, w.heap.size = N := ⟨_, rfl⟩
  have k1 : Hid (Blk w1 N 88 #[Value.func (Fn.func 18) #[] #[], Value.func (Fn.func 17) #[] #[], Value.func (Fn.func 16) #[] #[], Value.func (Fn.func 44) #[] #[]]) := Lib.hid (by rw [← hw1, ← hN]; exact heap_alloc_new w _)
  have b1 : Hid (Below N w w1) := Lib.hid (by rw [← hw1, ← hN]; exact (Below.refl _ w).alloc (Nat.le_refl _) _)
  have x1 := k1.out.cell 0
  have l1 := k1.out.lt
  rw [hw1, hN]
  rw [hN] at C1 C2 C3 C4
  clear hw1
  refine wp_loop_rounds 5 ?_
  refine Eq.mpr rounds_succ ?_
  go_wp2_with fail
  refine (C1.out _ b1.out).mono ?_
  rintro e w2 ⟨rfl, h⟩
  have k2 : Hid (Blk w2 N _ _) := Lib.hid (k1.out.below h)
  have b2 := Lib.hid (b1.out.trans (h.mono (by have := b1.out.size; rw [hN] at this; exact this)))
  have x2 := k2.out.cell 1
  have l2 := k2.out.lt
  clear h
  go_wp2_with fail
  refine Eq.mpr rounds_succ ?_
  go_wp2_with fail
  refine (C2.out _ b2.out).mono ?_
  rintro e w3 ⟨rfl, h⟩
  have k3 : Hid (Blk w3 N _ _) := Lib.hid (k2.out.below h)
  have b3 := Lib.hid (b2.out.trans (h.mono (by have := b2.out.size; rw [hN] at this; exact this)))
  have x3 := k3.out.cell 2
  have l3 := k3.out.lt
  clear h
  go_wp2_with fail
  refine Eq.mpr rounds_succ ?_
  go_wp2_with fail
  refine (C3.out _ b3.out).mono ?_
  rintro e w4 ⟨rfl, h⟩
  have k4 : Hid (Blk w4 N _ _) := Lib.hid (k3.out.below h)
  have b4 := Lib.hid (b3.out.trans (h.mono (by have := b3.out.size; rw [hN] at this; exact this)))
  have x4 := k4.out.cell 3
  have l4 := k4.out.lt
  clear h
  go_wp2_with fail
  refine Eq.mpr rounds_succ ?_
  go_wp2_with fail
  refine (C4.out _ b4.out).mono ?_
  rintro e w5 ⟨rfl, h⟩
  have b5 := Lib.hid (b4.out.trans (h.mono (by have := b4.out.size; rw [hN] at this; exact this)))
  clear h
  go_wp2_with fail
  refine Eq.mpr rounds_succ ?_
  go_wp2_with fail
  go_ret
  exact ⟨rfl, by rw [hN]; exact b5.out⟩

end
end Go.Proofs.YtjmkdimbbacnfaaGreatDoor
