/- boot: adapt. slices.SortStableFunc at one element, label.ascii. -/
import Derived.Test.YtjmkdimbbacnfaaGreatDoorGHsN
namespace Go.Proofs.YtjmkdimbbacnfaaGreatDoor
section
open Go.RowKit Go.Shelf
set_option linter.unusedVariables false
/-- all but the blocks of this type is as it was -/
def KeptT (T : TypeId) (X Y : World) : Prop := ∀ (k : Nat) (o : Obj), (∀ c (fz : Nat × Nat), o ≠ .cells c T fz) → X.heap[k]? = some o → Y.heap[k]? = some o
theorem KeptT.trans {T : TypeId} {X Y Z : World} (h : KeptT T X Y) (k : KeptT T Y Z) : KeptT T X Z := fun g o ht hb => k g o ht (h g o ht hb)
theorem KeptT.blk {T t : TypeId} {X Y : World} {g : Nat} {cs : Array Value} (h : KeptT T X Y) (ht : t ≠ T) (hb : Blk X g t cs) : Blk Y g t cs := h g _ (fun c fz e => by injection e with _ e2 _; exact ht e2) hb
theorem KeptT.new {T : TypeId} {X Y : World} (h : Below X.heap.size X Y) : KeptT T X Y := fun g o _ hb => (h.block g (Array.getElem?_eq_some_iff.1 hb).1).trans hb
theorem KeptT.at_ {T : TypeId} {X Y : World} {b : Nat} {cs : Array Value} (hb : Blk X b T cs) (h : ∀ k, k < X.heap.size → k ≠ b → Y.heap[k]? = X.heap[k]?) : KeptT T X Y := fun g o ho hg => (h g (Array.getElem?_eq_some_iff.1 hg).1 (fun e => by
  subst e
  have h2 : some o = some (Obj.cells cs T (0, 0)) := hg.symm.trans hb
  injection h2 with h2
  exact ho _ _ h2)).trans hg
theorem KeptT.setCell {T : TypeId} {X : World} {b i : Nat} {cs : Array Value} (hb : Blk X b T cs) (u : Value) : KeptT T X (X.setCell ⟨b, i, none⟩ u) := KeptT.at_ hb (fun k _ hk => Below.heap_setCell _ _ _ _ hk)
theorem own_type {X : World} {base n k g : Nat} {e : TypeId} {v : Value} {xs : List Value} (h : X.ownsRow base e k v n xs) (hg : v.ownBlock = some g) : ∃ cur, Blk X g e cur := by
  obtain ⟨h1, ⟨rfl, h2⟩ | ⟨g', cap, cur, rfl, hbg, hg', h3⟩⟩ := h
  · cases hg
  · obtain rfl : g' = g := Option.some.inj hg
    exact ⟨cur, hg'⟩
theorem KeptT.grown {X Y : World} {base n k : Nat} {e : TypeId} {v : Value} {xs : List Value} (hown : X.ownsRow base e k v n xs) (hg : X.grownBy Y v.ownBlock) : KeptT e X Y := fun g o ht hb => (hg.block g (Array.getElem?_eq_some_iff.1 hb).1 (fun ee => by
  obtain ⟨cur, hc⟩ := own_type hown ee.symm
  have h2 : some o = some (Obj.cells cur e (0, 0)) := hb.symm.trans hc
  injection h2 with h2
  exact ht _ _ h2)).trans hb
theorem own_kept {X Y : World} {base n k : Nat} {e T : TypeId} {v : Value} {xs : List Value} (h : X.ownsRow base e k v n xs) (he : e ≠ T) (hk : KeptT T X Y) : Y.ownsRow base e k v n xs := by
  obtain ⟨h1, h2 | ⟨g, cap, cur, hv, hbg, hg, h3⟩⟩ := h
  · exact ⟨h1, .inl h2⟩
  · exact ⟨h1, .inr ⟨g, cap, cur, hv, hbg, hk.blk he hg, h3⟩⟩
set_option maxRecDepth 100000 in
set_option maxHeartbeats 4000000 in
theorem boot_adapt {w : World} {X : Nat} {n : Int} (h : Blk w X 210 (stC 64 n 0 0)) : Calls Tryz.prog 144 #[.pointer (some ⟨X, 0, none⟩), .int .i64 210, .int .i64 2] w fun e w' => e = .returned (.tuple #[]) ∧ Below X w w' ∧ KeptT 210 w w' ∧ ∃ many, Blk w' X 210 (stC 0 n 0 many) := by
  obtain ⟨c0, c1, c2, c3, c4, c7, c8, c9, c10⟩ := st_cells h
  have f10 := h.frozen 10
  have Hb := Lib.hid h
  clear h
  go_enter Tryz.func144, Tryz.ntmps144
  go_wp2_with fail
  have k1 : Blk (w.setCell ⟨X, 10, none⟩ (.int .i64 1)) X 210 (stC 64 n 0 1) := Hb.out.set_ 10 (.int .i64 1)
  have hB1 : Below X w (w.setCell ⟨X, 10, none⟩ (.int .i64 1)) ∧ KeptT 210 w (w.setCell ⟨X, 10, none⟩ (.int .i64 1)) := ⟨(Below.refl X w).setCell (p := ⟨X, 10, none⟩) (Nat.le_refl _) (.int .i64 1), KeptT.setCell Hb.out _⟩
  generalize w.setCell ⟨X, 10, none⟩ (.int .i64 1) = W1 at k1 hB1 ⊢
  clear c0 c1 c2 c3 c4 c7 c8 c9 c10 f10
  obtain ⟨c0, c1, c2, c3, c4, c7, c8, c9, c10⟩ := st_cells k1
  have HB1 := Lib.hid hB1
  have K1 := Lib.hid k1
  clear hB1 k1
  go_quiet (fail)
  have k2 : Blk (W1.drewN nq) X 210 (stC 64 n 0 1) := K1.out
  have HB2 : Hid (Below X w (W1.drewN nq) ∧ KeptT 210 w (W1.drewN nq)) := Lib.hid ⟨Below.drwN HB1.out.1 nq, HB1.out.2⟩
  generalize W1.drewN nq = W2 at k2 HB2 ⊢
  clear c0 c1 c2 c3 c4 c7 c8 c9 c10 K1 HB1
  obtain ⟨c0, c1, c2, c3, c4, c7, c8, c9, c10⟩ := st_cells k2
  have f7 := k2.frozen 7
  have K2 := Lib.hid k2
  clear k2
  go_wp2_with fail
  refine wp_loop_rounds 1 ?_
  refine Eq.mpr rounds_succ ?_
  go_wp2_with fail
  go_region
  go_end0
  exact ⟨rfl, (HB2.out.1.setCell (p := ⟨X, 7, none⟩) (Nat.le_refl _) _).drew, HB2.out.2.trans (KeptT.setCell K2.out _), 1, (K2.out.set_ 7 (.int .i64 0)).of rfl⟩
theorem info_u8 : (Tryz.prog.info? 5).map (fun i => (i.zero, i.size, i.bytes)) = some (some (.int .u8 0), 1, 1) := by kernel_rfl
set_option maxRecDepth 100000 in
set_option maxHeartbeats 4000000 in
theorem boot_write {w : World} {X base : Nat} {v : Value} (h : Blk w X 210 (stC 64 128 0 0)) (hX : v.ownBlock ≠ some X) (hown : w.ownsRow base 5 1 v 2 [.int .u8 97, .int .u8 45]) (hb : base ≤ w.heap.size) : Calls Tryz.prog 181 #[.pointer (some ⟨X, 0, none⟩), v, .int .i64 210] w fun e w' => (∃ v', e = .returned v' ∧ w'.ownsRow base 5 1 v' 4 [.int .u8 97, .int .u8 45, .int .u8 103, .int .u8 103]) ∧ Below base w w' ∧ KeptT 5 w w' := by
  obtain ⟨i0, hi, hz0, hz1, hz2⟩ := info_parts info_u8
  obtain ⟨c0, c1, c2, c3, c4, c7, c8, c9, c10⟩ := st_cells h
  have HT := Lib.hid (fun W (hW : Blk W X 210 (stC 64 128 0 0)) (k t : Int) hk => boot_threshold (w := W) hW k t hk)
  have H0 := Lib.hid h
  have HO := Lib.hid hown
  have hdig : ((⟨#[97, 98, 99, 100, 101, 102, 103, 104, 105, 106, 107, 108, 109, 110, 111, 112, 113, 114, 115, 116, 117, 118, 119, 120, 121, 122, 48, 49, 50, 51, 52, 53, 54, 55, 56, 57]⟩ : ByteArray)[6]'(by decide)).toNat = 103 := by decide
  clear h hown
  go_enter Tryz.func181, Tryz.ntmps181
  go_wp2_with fail
  refine wp_loop_rounds 2 ?_
  refine Eq.mpr rounds_succ ?_
  go_wp2_with (first
    | (go_at_call 186; refine (HT.out _ H0.out 1 2 (.inl ⟨rfl, rfl⟩)).mono ?_; rintro e w1 ⟨rfl, q1, rfl⟩)
    | (at_builtin; (refine wpList_append_own _ rfl _ _ 50 rfl base 5 i0 _ 1 1 Tryz.underlying50 hi hz0 hz1 hz2 rfl (by decide) v 2 _ rfl (World.ownsRow.alloc (w := w.drewN q1) HO.out _) ⟨w.heap.size, 0, none⟩ 1 1 [.int .u8 103] rfl rfl (cells_new _ _ _ _ rfl) (by simp [Value.oneCell']) (by unfold maxLen; omega) (by omega) (by rw [World.size_alloc]; exact Nat.le_succ_of_le hb) ?_); intro v1 w2 hown2 hgrow2 _; have hB2 : Below base w w2 := ((Below.drwN (Below.refl base w) q1).alloc hb (.cells #[.int .u8 103] 5)).grown hgrow2 (by rw [World.size_alloc]; exact Nat.le_succ_of_le hb) (fun k e => (HO.out.lt k e).1); have b2 := (((show Blk (w.drewN q1) X 210 (stC 64 128 0 0) from H0.out).alloc (.cells #[.int .u8 103] 5)).of (hgrow2.block X (by rw [World.size_alloc]; exact Nat.lt_succ_of_lt H0.out.lt) (fun e => hX e.symm))); have B2 := Lib.hid b2; have d0 : w2.cell? ⟨X, 0, none⟩ = some (.int .i64 36) := b2.cell 0; clear b2))
  have HK2 : KeptT 5 w w2 := (KeptT.new ((Below.drwN (Below.refl _ w) q1).alloc (Nat.le_refl _) (.cells #[.int .u8 103] 5))).trans (KeptT.grown (World.ownsRow.alloc (w := w.drewN q1) HO.out _) hgrow2)
  refine Eq.mpr rounds_succ ?_
  go_wp2_with (first
    | (go_at_call 186; refine (HT.out _ B2.out 2 8 (.inr ⟨rfl, rfl⟩)).mono ?_; rintro e w3 ⟨rfl, q3, rfl⟩)
    | (at_builtin; (refine wpList_append_own _ rfl _ _ 50 rfl base 5 i0 _ 1 1 Tryz.underlying50 hi hz0 hz1 hz2 rfl (by decide) v1 3 _ rfl (World.ownsRow.alloc (w := w2.drewN q3) hown2 _) ⟨w2.heap.size, 0, none⟩ 1 1 [.int .u8 103] rfl rfl (cells_new _ _ _ _ rfl) (by simp [Value.oneCell']) (by unfold maxLen; omega) (by omega) (by rw [World.size_alloc]; exact Nat.le_succ_of_le (Nat.le_trans hb hB2.size)) ?_); intro v2 w4 hown3 hgrow3 _))
  go_ret
  exact ⟨⟨_, rfl, hown3⟩, hB2.trans (((Below.drwN (Below.refl base w2) q3).alloc (Nat.le_trans hb hB2.size) (.cells #[.int .u8 103] 5)).grown hgrow3 (by rw [World.size_alloc]; exact Nat.le_succ_of_le (Nat.le_trans hb hB2.size)) (fun k e => (hown2.lt k e).1)), (HK2.trans (KeptT.new ((Below.drwN (Below.refl _ w2) q3).alloc (Nat.le_refl _) _))).trans (KeptT.grown (World.ownsRow.alloc (w := w2.drewN q3) hown2 _) hgrow3)⟩

end
section
open Go.RowKit Go.Shelf
set_option linter.unusedVariables false
set_option maxHeartbeats 4000000 in
theorem spots_insertion (A : Option Addr) (c : Nat) (f : Value) (w : World) :
    Calls Tryz.prog 220 #[.slice A 1 c, .int .i64 0, .int .i64 1, f] w fun e w' => e = .returned (.tuple #[]) ∧ w = w' := by
  go_enter Tryz.func220, Tryz.ntmps220
  go_wp2_with fail
  refine wp_loop_rounds 1 ?_
  refine Eq.mpr rounds_succ ?_
  go_wp2_with fail
  go_end0
  exact ⟨rfl, rfl⟩
set_option maxHeartbeats 4000000 in
theorem spots_stable (A : Option Addr) (c : Nat) (f : Value) (w : World) :
    Calls Tryz.prog 200 #[.slice A 1 c, .int .i64 1, f] w fun e w' => e = .returned (.tuple #[]) ∧ w = w' := by
  have HI := Lib.hid (fun W => spots_insertion A c f W)
  go_enter Tryz.func200, Tryz.ntmps200
  go_wp2_with fail
  refine wp_loop_rounds 1 ?_
  refine Eq.mpr rounds_succ ?_
  go_wp2_with (go_at_call 220; refine (HI.out _).mono ?_; rintro e w' ⟨rfl, rfl⟩)
  refine wp_loop_rounds 1 ?_
  refine Eq.mpr rounds_succ ?_
  go_wp2_with fail
  go_end0
  exact ⟨rfl, rfl⟩
set_option maxHeartbeats 4000000 in
theorem spots_SortStable (A : Option Addr) (c : Nat) (f : Value) (w : World) :
    Calls Tryz.prog 177 #[.slice A 1 c, f] w fun e w' => e = .returned (.tuple #[]) ∧ w = w' := by
  have HI := Lib.hid (fun W => spots_stable A c f W)
  go_enter Tryz.func177, Tryz.ntmps177
  go_wp2_with (go_at_call 200; refine (HI.out _).mono ?_; rintro e w' ⟨rfl, rfl⟩)
  go_end0
  exact ⟨rfl, rfl⟩
set_option maxHeartbeats 4000000 in
theorem ascii_no (w : World) : Calls Tryz.prog 101 #[.string ⟨#[195, 169, 97]⟩] w fun e w' => e = .returned (.bool false) ∧ w = w' := by
  have hd : ((⟨#[195, 169, 97]⟩ : ByteArray)[0]'(by decide)).toNat = 195 := by decide
  go_enter Tryz.func101, Tryz.ntmps101
  go_wp2_with fail
  refine wp_loop_rounds 1 ?_
  refine Eq.mpr rounds_succ ?_
  go_wp2_with fail
  go_ret
  exact ⟨rfl, rfl⟩
set_option maxHeartbeats 4000000 in
theorem ascii_yes (w : World) : Calls Tryz.prog 101 #[.string ⟨#[98]⟩] w fun e w' => e = .returned (.bool true) ∧ w = w' := by
  have hd : ((⟨#[98]⟩ : ByteArray)[0]'(by decide)).toNat = 98 := by decide
  go_enter Tryz.func101, Tryz.ntmps101
  go_wp2_with fail
  refine wp_loop_rounds 2 ?_
  refine Eq.mpr rounds_succ ?_
  go_wp2_with fail
  refine Eq.mpr rounds_succ ?_
  go_wp2_with fail
  go_ret
  exact ⟨rfl, rfl⟩

end
end Go.Proofs.YtjmkdimbbacnfaaGreatDoor
