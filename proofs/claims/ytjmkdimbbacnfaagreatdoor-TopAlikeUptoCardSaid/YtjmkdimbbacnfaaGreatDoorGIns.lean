/- slices.Insert at ints: laid off the library's Spec shelf (the laying in plain words by the kit's lay-plain.mjs). -/
import Derived.Test.YtjmkdimbbacnfaaGreatDoorGHsP
import Derived.Shelf.Spec.SlicesInsertGrow
import Derived.Shelf.Spec.SlicesInsert
namespace Go.Proofs
open Go.Shelf
def Tryz.lays2n21_ren : Go.Shelf.Ren := ⟨fun | 21 => 182 | 27 => 204 | 28 => 205 | 35 => 222 | 39 => 231 | n => n, fun | 22 => 126 | 3 => 3 | 4 => 4 | 0 => 0 | n => n, fun | n => n⟩
theorem Tryz.lays2n21 : Go.Proofs.Lays2.n21 Tryz.prog Tryz.lays2n21_ren := {
  mixed := by kernel_rfl
  f21 := Tryz.func182.trans (congrArg some (by kernel_rfl))
  f27 := Tryz.func204.trans (congrArg some (by kernel_rfl))
  f28 := Tryz.func205.trans (congrArg some (by kernel_rfl))
  f35 := Tryz.func222.trans (congrArg some (by kernel_rfl))
  f39 := Tryz.func231.trans (congrArg some (by kernel_rfl))
  t0 := Tryz.underlying0
  a0 := Tryz.isAgg0
  z0 := Tryz.sizeOf0
  v0 := Tryz.zeroValue0
  t3 := Tryz.underlying3
  a3 := Tryz.isAgg3
  z3 := Tryz.sizeOf3
  v3 := Tryz.zeroValue3
  t4 := Tryz.underlying4
  a4 := Tryz.isAgg4
  z4 := Tryz.sizeOf4
  v4 := Tryz.zeroValue4
  t22 := Tryz.underlying126
  a22 := Tryz.isAgg126
  z22 := Tryz.sizeOf126
  v22 := Tryz.zeroValue126
  i3 := by kernel_rfl }
end Go.Proofs
namespace Go.Proofs.YtjmkdimbbacnfaaGreatDoor
open Go.RowKit Go.Shelf
set_option linter.unusedVariables false
theorem Below.setCells_ {n b : Nat} {w : World} : ∀ (vs : List Value) (o : Nat) (W : World), Below n w W → n ≤ b → Below n w (W.setCells b o vs)
  | [], _, _, h, _ => h
  | v :: r, o, W, h, hb => Below.setCells_ r (o + 1) _ (h.setCell (p := ⟨b, o, none⟩) hb v) hb
theorem heap_setCells_ {b g : Nat} : ∀ (vs : List Value) (o : Nat) (W : World), g ≠ b → (W.setCells b o vs).heap[g]? = W.heap[g]?
  | [], _, _, _ => rfl
  | v :: r, o, W, h => (heap_setCells_ r (o + 1) _ h).trans (Below.heap_setCell W ⟨b, o, none⟩ v g h)
set_option maxHeartbeats 2000000 in
theorem ints_Insert {w : World} {base vb : Nat} {v : Value} (hown : w.ownsRow base 3 1 v 1 [.int .i64 1]) (hvb : Blk w vb 3 #[.int .i64 0]) (hne : v.ownBlock ≠ some vb) (hb : base ≤ w.heap.size) :
    Calls Tryz.prog 182 #[v, .int .i64 0, .slice (some ⟨vb, 0, none⟩) 1 1] w fun e w' => (∃ A c, e = .returned (.slice A 2 c)) ∧ Below base w w' ∧ KeptT 3 w w' := by
  rcases hown.2 with ⟨_, h0⟩ | ⟨g, cap, cur, rfl, hbg, hg, hcap, hcm, hsz, htake⟩
  · omega
  · have hk : Blk w g 3 cur := hg
    have c0 : cur[0]? = some (.int .i64 1) := by
      have : (cur.toList.take (1 * 1))[0]? = some (.int .i64 1) := by rw [htake]; rfl
      rw [List.getElem?_take_of_lt (by omega)] at this
      simpa using this
    have hcs : ∀ (j : Nat) v, [Value.int .i64 1][j]? = some v → w.cell? ⟨g, 0 + j, none⟩ = some v := fun j v hj => by
      match j, hj with
      | 0, hj => cases hj; exact (hk.cell 0).trans c0
      | k + 1, hj => simp at hj
    have hvs : ∀ (j : Nat) v, [Value.int .i64 0][j]? = some v → w.cell? ⟨vb, 0 + j, none⟩ = some v := fun j v hj => by
      match j, hj with
      | 0, hj => cases hj; exact hvb.cell 0
      | k + 1, hj => simp at hj
    have hgw := hk.lt
    have hvw := hvb.lt
    have hgv : vb ≠ g := fun e => hne (by rw [e]; rfl)
    have h1c : ∀ v ∈ [Value.int .i64 1], v.oneCell' = true := fun v hv => by simp at hv; subst hv; rfl
    have h1v : ∀ v ∈ [Value.int .i64 0], v.oneCell' = true := fun v hv => by simp at hv; subst hv; rfl
    by_cases hc1 : cap = 1
    · subst hc1
      refine (Any2.slices_Insert_int_grow Tryz.lays2n21 g 0 1 1 0 vb 0 1 1 [.int .i64 1] [.int .i64 0] w (by omega) (by omega) (by omega) (by omega) (by omega) rfl rfl hcs hvs h1c h1v).mono ?_
      rintro e w' ⟨rfl, rfl⟩
      refine ⟨⟨_, _, rfl⟩, ?_, ?_⟩
      · exact Below.setCells_ _ _ _ (Below.drew (Below.setCells_ _ _ _ (Below.drew ((Below.refl base w).alloc hb _)) hb)) hb
      · exact KeptT.new (Below.setCells_ _ _ _ (Below.drew (Below.setCells_ _ _ _ (Below.drew ((Below.refl w.heap.size w).alloc (Nat.le_refl _) _)) (Nat.le_refl _))) (Nat.le_refl _))
    · refine (Any2.slices_Insert_int_shift Tryz.lays2n21 g 0 1 cap 0 vb 0 1 1 [.int .i64 1] [.int .i64 0] w (by omega) (by omega) (by omega) (by unfold maxLen at hcm; omega) hgv rfl rfl hcs (fun j hj => by rw [hk.cell, Nat.zero_add, Array.getElem?_eq_getElem (by omega)]; rfl) (fun j hj => hk.frozen _) hvs h1c h1v 3 3 1 cur.size (by unfold World.shape?; rw [show w.heap[vb]? = _ from hvb]; rfl) (by unfold World.shape?; rw [show w.heap[g]? = _ from hk]) (by omega) (hvb.frozen _) (hvb.frozen _)).mono ?_
      rintro e w' ⟨rfl, rfl⟩
      refine ⟨⟨_, _, rfl⟩, Below.setCells_ _ _ _ (Below.setCells_ _ _ _ (Below.drew (Below.refl base w)) hbg) hbg, KeptT.at_ hk fun k _ hkg => (heap_setCells_ _ _ _ hkg).trans (heap_setCells_ _ _ _ hkg)⟩

end Go.Proofs.YtjmkdimbbacnfaaGreatDoor
