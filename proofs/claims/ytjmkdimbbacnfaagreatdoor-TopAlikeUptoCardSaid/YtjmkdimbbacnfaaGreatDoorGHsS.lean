/- boot.Encode at the closed name's first label. label.form at the two labels, and the last rule. -/
import Derived.Test.YtjmkdimbbacnfaaGreatDoorGIns
import Derived.Laws.IdiomStrings
namespace Go.Proofs.YtjmkdimbbacnfaaGreatDoor
section
open Go.RowKit Go.Shelf
set_option linter.unusedVariables false
attribute [local go_sem] Oper.semAt_some
theorem own_still {X Y : World} {B0 base n k : Nat} {e : TypeId} {v : Value} {xs : List Value} (h : X.ownsRow base e k v n xs) (hb : Still B0 X Y) : Y.ownsRow base e k v n xs := by
  obtain ⟨h1, h2 | ⟨g, cap, cur, hv, hbg, hg, h3⟩⟩ := h
  · exact ⟨h1, .inl h2⟩
  · exact ⟨h1, .inr ⟨g, cap, cur, hv, hbg, hb.rows g cur (e, (0, 0)) hg, h3⟩⟩
theorem own_belowV {X Y : World} {base n k : Nat} {e : TypeId} {v : Value} {xs : List Value} (h : X.ownsRow base e k v n xs) (hb : Below X.heap.size X Y) : Y.ownsRow base e k v n xs := own_still h (Still.new (B := 0) hb (Nat.zero_le _))
theorem own_set {X : World} {base b i n k : Nat} {e : TypeId} {v : Value} {xs : List Value} (h : X.ownsRow base e k v n xs) (hb : b < base) (u : Value) : (X.setCell ⟨b, i, none⟩ u).ownsRow base e k v n xs := by
  obtain ⟨h1, h2 | ⟨g, cap, cur, hv, hbg, hg, h3⟩⟩ := h
  · exact ⟨h1, .inl h2⟩
  · exact ⟨h1, .inr ⟨g, cap, cur, hv, hbg, (Below.heap_setCell _ _ _ _ (by show g ≠ b; omega)).trans hg, h3⟩⟩
theorem Blk.set2 {X : World} {g b b' i i' : Nat} {t : TypeId} {cs : Array Value} {u u' : Value} (h : Blk X g t cs) (h1 : g ≠ b) (h2 : g ≠ b') : Blk ((X.setCell ⟨b, i, none⟩ u).setCell ⟨b', i', none⟩ u') g t cs := (h.of (Below.heap_setCell _ _ _ _ h1)).of (Below.heap_setCell _ _ _ _ h2)
/-- what Encode has laid down behind so many spots of "éa" -/
def EncS (M : Nat) (k : Nat) (X : World) (vo vh vt : Value) : Prop :=
  (k = 0 ∧ vo = .slice none 0 0 ∧ vh = .slice none 0 0 ∧ vt = .slice none 0 0) ∨
  (k = 1 ∧ vo = .slice none 0 0 ∧ X.ownsRow M 248 2 vh 1 [.int .i32 233, .int .i64 0] ∧ vt = .slice none 0 0) ∨
  (k = 2 ∧ X.ownsRow M 5 1 vo 1 [.int .u8 97] ∧ X.ownsRow M 248 2 vh 1 [.int .i32 233, .int .i64 0] ∧ X.ownsRow M 3 1 vt 1 [.int .i64 1])
def EncI (s : ByteArray) (w : World) (N : Nat) (pre : List (Fin (nS s))) (X : World) : Prop :=
  Blk X w.heap.size 154 #[.int .i64 36, .int .i64 2, .int .i64 24, .int .i64 40, .int .i64 600, .int .i64 64, .int .i32 128] ∧ Blk X (w.heap.size + 1) 9 #[.string ⟨#[]⟩] ∧ Blk X (w.heap.size + 1 + 1) 38 #[.int .i64 0] ∧
  (∃ vo vh vt, Blk X N 50 #[vo] ∧ Blk X (N + 1) 246 #[vh] ∧ Blk X (N + 1 + 1) 3 #[.int .i64 (pre.length : Int)] ∧ Blk X (N + 1 + 1 + 1) 126 #[vt] ∧ EncS (N + 5) pre.length X vo vh vt) ∧ Below w.heap.size w X
theorem EncS.still {M k B : Nat} {X Y : World} {vo vh vt : Value} (h : EncS M k X vo vh vt) (hb : Still B X Y) : EncS M k Y vo vh vt := by
  rcases h with h | ⟨h1, h2, h3, h4⟩ | ⟨h1, h2, h3, h4⟩
  · exact .inl h
  · exact .inr (.inl ⟨h1, h2, own_still h3 hb, h4⟩)
  · exact .inr (.inr ⟨h1, own_still h2 hb, own_still h3 hb, own_still h4 hb⟩)
theorem EncI.still {s : ByteArray} {w : World} {N B : Nat} {pre : List (Fin (nS s))} {X Y : World} (h : EncI s w N pre X) (hb : Still B X Y) (hB : w.heap.size ≤ B) : EncI s w N pre Y := by
  obtain ⟨h0, h1, h2, ⟨vo, vh, vt, e0, e1, e2, e3, e4⟩, h5⟩ := h
  exact ⟨hb.blk h0, hb.blk h1, hb.blk h2, ⟨vo, vh, vt, hb.blk e0, hb.blk e1, hb.blk e2, hb.blk e3, e4.still hb⟩, h5.trans (hb.below.mono hB)⟩
/-- Encode's blocks behind its first loop -/
def EB (w : World) (N g2 q2 : Nat) (vo vt : Value) (W : World) : Prop :=
  Blk W N 50 #[vo] ∧ Blk W (N + 1) 246 #[.slice (some ⟨g2, 0, none⟩) 1 q2] ∧ Blk W (N + 1 + 1 + 1) 126 #[vt] ∧ Blk W (w.heap.size + 1) 9 #[.string ⟨#[]⟩] ∧ Blk W (w.heap.size + 1 + 1) 38 #[.int .i64 0] ∧ Below w.heap.size w W ∧ w.heap.size + 2 < N ∧ N + 5 ≤ W.heap.size
section
variable {w W W' : World} {N g2 q2 : Nat} {vo vt : Value}
theorem EB.below (h : EB w N g2 q2 vo vt W) (hb : Below (N + 5) W W') : EB w N g2 q2 vo vt W' := by
  obtain ⟨h1, h2, h3, h4, h5, h6, h7, h8⟩ := h
  exact ⟨h1.of (hb.block _ (by omega)), h2.of (hb.block _ (by omega)), h3.of (hb.block _ (by omega)), h4.of (hb.block _ (by omega)), h5.of (hb.block _ (by omega)), h6.trans (hb.mono (by omega)), h7, Nat.le_trans h8 hb.size⟩
theorem EB.new (h : EB w N g2 q2 vo vt W) (hb : Below W.heap.size W W') : EB w N g2 q2 vo vt W' := h.below (hb.mono h.2.2.2.2.2.2.2)
theorem EB.other (h : EB w N g2 q2 vo vt W) {b : Nat} (hb : N + 5 ≤ b) (i : Nat) (u : Value) : EB w N g2 q2 vo vt (W.setCell ⟨b, i, none⟩ u) := h.below ((Below.refl _ W).setCell (p := ⟨b, i, none⟩) hb u)
theorem EB.out (h : EB w N g2 q2 vo vt W) (u : Value) : EB w N g2 q2 u vt (W.setCell ⟨N, 0, none⟩ u) := by
  obtain ⟨h1, h2, h3, h4, h5, h6, h7, h8⟩ := h
  exact ⟨h1.set_ 0 u, h2.of (Below.heap_setCell _ _ _ _ (by show _ ≠ N; omega)), h3.of (Below.heap_setCell _ _ _ _ (by show _ ≠ N; omega)), h4.of (Below.heap_setCell _ _ _ _ (by show _ ≠ N; omega)), h5.of (Below.heap_setCell _ _ _ _ (by show _ ≠ N; omega)), h6.setCell (p := ⟨N, 0, none⟩) (by show w.heap.size ≤ N; omega) u, h7, by rw [World.size_setCell]; exact h8⟩
theorem EB.there (h : EB w N g2 q2 vo vt W) (u : Value) : EB w N g2 q2 vo u (W.setCell ⟨N + 1 + 1 + 1, 0, none⟩ u) := by
  obtain ⟨h1, h2, h3, h4, h5, h6, h7, h8⟩ := h
  exact ⟨h1.of (Below.heap_setCell _ _ _ _ (by show _ ≠ N + 1 + 1 + 1; omega)), h2.of (Below.heap_setCell _ _ _ _ (by show _ ≠ N + 1 + 1 + 1; omega)), h3.set_ 0 u, h4.of (Below.heap_setCell _ _ _ _ (by show _ ≠ N + 1 + 1 + 1; omega)), h5.of (Below.heap_setCell _ _ _ _ (by show _ ≠ N + 1 + 1 + 1; omega)), h6.setCell (p := ⟨N + 1 + 1 + 1, 0, none⟩) (by show w.heap.size ≤ N + 1 + 1 + 1; omega) u, h7, by rw [World.size_setCell]; exact h8⟩
theorem EB.c0 (h : EB w N g2 q2 vo vt W) : W.cell? ⟨N, 0, none⟩ = some vo := h.1.cell 0
theorem EB.c1 (h : EB w N g2 q2 vo vt W) : W.cell? ⟨N + 1, 0, none⟩ = some (.slice (some ⟨g2, 0, none⟩) 1 q2) := h.2.1.cell 0
theorem EB.c3 (h : EB w N g2 q2 vo vt W) : W.cell? ⟨N + 1 + 1 + 1, 0, none⟩ = some vt := h.2.2.1.cell 0
theorem EB.f0 (h : EB w N g2 q2 vo vt W) : W.frozen? ⟨N, 0, none⟩ = false := h.1.frozen 0
theorem EB.f3 (h : EB w N g2 q2 vo vt W) : W.frozen? ⟨N + 1 + 1 + 1, 0, none⟩ = false := h.2.2.1.frozen 0
end
theorem bs_one (g q : Nat) (w : World) (h : w.cell? ⟨g, 0, none⟩ = some (.int .i64 1)) :
    Calls Tryz.prog 180 #[.slice (some ⟨g, 0, none⟩) 1 q, .int .i64 0] w fun e w' => e = .returned (.tuple #[.int .i64 0, .bool false]) ∧ ∃ k, w' = w.drewN k :=
  Tryz.slices_BinarySearch_int g 0 1 q [1] 0 w (by decide) (by decide) (fun j hj => by match j, hj with | 0, _ => exact h) (by simp)
theorem own_cells {X : World} {base g n k c : Nat} {e : TypeId} {xs : List Value} (h : X.ownsRow base e k (.slice (some ⟨g, 0, none⟩) n c) n xs) (h0 : 0 < n) : g < X.heap.size ∧ base ≤ g ∧ ∀ j, j < n * k → X.cell? ⟨g, j, none⟩ = xs[j]? := by
  obtain ⟨A, c', hv, hA⟩ := own_form h
  obtain ⟨g', hg', hb, hl, hc⟩ := hA h0
  rw [hg'] at hv
  injection hv with hv _ _
  injection hv with hv
  injection hv with hv _ _
  subst hv
  exact ⟨hl, hb, hc⟩
theorem own_ne {X : World} {base n k S : Nat} {e t : TypeId} {v : Value} {xs : List Value} {cs : Array Value} (h : X.ownsRow base e k v n xs) (hb : Blk X S t cs) (ht : t ≠ e) : v.ownBlock ≠ some S := fun hs => by
  obtain ⟨cur, hc⟩ := own_type h hs
  have h2 : some (Obj.cells cs t (0, 0)) = some (Obj.cells cur e (0, 0)) := (show X.heap[S]? = _ from hb).symm.trans hc
  injection h2 with h2
  injection h2 with _ h3
  exact ht h3
theorem conv_agg {w : World} {base g c : Nat} (h : w.ownsRow base 5 1 (.slice (some ⟨g, 0, none⟩) 4 c) 4 [.int .u8 97, .int .u8 45, .int .u8 103, .int .u8 103]) :
    (convert 50 9 (.slice (some ⟨g, 0, none⟩) 4 c)).run Tryz.prog w = .ok (.string ⟨#[97, 45, 103, 103]⟩) w := by
  obtain ⟨-, -, hc⟩ := own_cells h (by omega)
  refine run_convert_bytes_back w 50 9 5 ⟨g, 0, none⟩ c [97, 45, 103, 103] Tryz.underlying50 Tryz.underlying5 Tryz.underlying9 (fun j hj => ?_)
  have hadd : (⟨g, 0, none⟩ : Addr).add j = ⟨g, j, none⟩ := by unfold Addr.add; split <;> simp_all
  rw [hadd, hc j (by simp at hj; omega)]
  match j, hj with
  | 0, _ => rfl
  | 1, _ => rfl
  | 2, _ => rfl
  | 3, _ => rfl
  | n + 4, hj => simp at hj; omega
theorem info_spot : (Tryz.prog.info? 248).map (fun i => (i.zero, i.size, i.bytes)) = some (some (.agg #[.int .i32 0, .int .i64 0]), 2, 16) := by kernel_rfl
theorem enc_spots : nS ⟨#[195, 169, 97]⟩ = 2 ∧ (spA ⟨#[195, 169, 97]⟩ 0).r = 233 ∧ (spA ⟨#[195, 169, 97]⟩ 1).r = 97 ∧ (spA ⟨#[195, 169, 97]⟩ 0).bad = false ∧ (spA ⟨#[195, 169, 97]⟩ 1).bad = false := by decide +kernel
set_option maxRecDepth 100000 in
set_option maxHeartbeats 8000000 in
theorem boot_Encode (w : World) :
    Calls Tryz.prog 135 #[parV, .string ⟨#[195, 169, 97]⟩] w fun e w' => e = .returned (.tuple #[.string ⟨#[97, 45, 103, 103]⟩, .int .i64 0]) ∧ Below w.heap.size w w' := by
  have HR := Lib.hid boot_Right
  unfold parV at HR ⊢
  obtain ⟨s, hs⟩ : ∃ s : ByteArray, (⟨#[195, 169, 97]⟩ : ByteArray) = s := ⟨_, rfl⟩
  have hs3 : s.size = 3 := by rw [← hs]; rfl
  have Hs := Lib.hid hs
  rw [hs]
  clear hs
  obtain ⟨j0, hj, hy0, hy1, hy2⟩ := info_parts info_spot
  obtain ⟨i0, hi, hz0, hz1, hz2⟩ := info_parts info_int
  obtain ⟨k0, hk, hq0, hq1, hq2⟩ := info_parts info_u8
  have HE := Lib.hid enc_spots
  rw [Hs.out] at HE
  refine calls_of_marks 6 Tryz.func135 rfl ?_
  simp only [Tryz.ntmps135, List.size_toArray, List.length_cons, List.length_nil, Nat.reduceAdd, Nat.reduceSub, Array.replicate_succ, Array.replicate_zero, List.push_toArray, List.append_toArray, List.nil_append, List.cons_append]
  gi_wp2_with (first
    | (refine ⟨trivial, ?_⟩; gi_at_call 106; refine (callsIn_wide.2 (Spots_val s _)).mono ?_; rintro e w' ⟨rfl, rfl⟩)
    | (refine ⟨trivial, ?_⟩; gi_at_call 138; refine (callsIn_wide.2 (HR.out _)).mono ?_; rintro e W1 ⟨rfl, h1⟩))
  have a0 := ((Blk.new w 154 #[.int .i64 36, .int .i64 2, .int .i64 24, .int .i64 40, .int .i64 600, .int .i64 64, .int .i32 128]).alloc (.cells #[.string ⟨#[]⟩] 9)).alloc (.cells #[.int .i64 0] 38) |>.below h1
  have a1 := (Blk.new (w.alloc (.cells #[.int .i64 36, .int .i64 2, .int .i64 24, .int .i64 40, .int .i64 600, .int .i64 64, .int .i32 128] 154)) 9 #[.string ⟨#[]⟩]).alloc (.cells #[.int .i64 0] 38) |>.below h1
  have a2 := (Blk.new ((w.alloc (.cells #[.int .i64 36, .int .i64 2, .int .i64 24, .int .i64 40, .int .i64 600, .int .i64 64, .int .i32 128] 154)).alloc (.cells #[.string ⟨#[]⟩] 9)) 38 #[.int .i64 0]).below h1
  have hB1 := ((((Below.refl _ w).alloc (Nat.le_refl _) _).alloc (by simp) _).alloc (by simp; omega) _).trans (h1.mono (by simp; omega))
  simp only [World.size_alloc] at a1 a2
  clear h1
  obtain ⟨N, hN⟩ : ∃ N, W1.heap.size = N := ⟨_, rfl⟩
  have hHN : w.heap.size + 2 < N := by rw [← hN]; exact a2.lt
  obtain ⟨W0, hW0⟩ : ∃ W0, (((((W1.alloc (.cells #[.slice none 0 0] 50)).alloc (.cells #[.slice none 0 0] 246)).alloc (.cells #[.int .i64 0] 3)).alloc (.cells #[.slice none 0 0] 126)).alloc (.cells #[.string s] 9)) = W0 := ⟨_, rfl⟩
  have b0 : Blk W0 w.heap.size 154 #[.int .i64 36, .int .i64 2, .int .i64 24, .int .i64 40, .int .i64 600, .int .i64 64, .int .i32 128] := by rw [← hW0]; exact ((((a0.alloc _).alloc _).alloc _).alloc _).alloc _
  have b1 : Blk W0 (w.heap.size + 1) 9 #[.string ⟨#[]⟩] := by rw [← hW0]; exact ((((a1.alloc _).alloc _).alloc _).alloc _).alloc _
  have b2 : Blk W0 (w.heap.size + 1 + 1) 38 #[.int .i64 0] := by rw [← hW0]; exact ((((a2.alloc _).alloc _).alloc _).alloc _).alloc _
  have b3 : Blk W0 N 50 #[.slice none 0 0] := by rw [← hW0, ← hN]; exact ((((Blk.new W1 _ _).alloc _).alloc _).alloc _).alloc _
  have b4 : Blk W0 (N + 1) 246 #[.slice none 0 0] := by rw [← hW0, ← hN]; have h := (((Blk.new (W1.alloc (.cells #[.slice none 0 0] 50)) 246 #[.slice none 0 0]).alloc (.cells #[.int .i64 0] 3)).alloc (.cells #[.slice none 0 0] 126)).alloc (.cells #[.string s] 9); simp only [World.size_alloc] at h; exact h
  have b5 : Blk W0 (N + 1 + 1) 3 #[.int .i64 0] := by rw [← hW0, ← hN]; have h := ((Blk.new ((W1.alloc (.cells #[.slice none 0 0] 50)).alloc (.cells #[.slice none 0 0] 246)) 3 #[.int .i64 0]).alloc (.cells #[.slice none 0 0] 126)).alloc (.cells #[.string s] 9); simp only [World.size_alloc] at h; exact h
  have b6 : Blk W0 (N + 1 + 1 + 1) 126 #[.slice none 0 0] := by rw [← hW0, ← hN]; have h := (Blk.new (((W1.alloc (.cells #[.slice none 0 0] 50)).alloc (.cells #[.slice none 0 0] 246)).alloc (.cells #[.int .i64 0] 3)) 126 #[.slice none 0 0]).alloc (.cells #[.string s] 9); simp only [World.size_alloc] at h; exact h
  have b7 : Blk W0 (N + 1 + 1 + 1 + 1) 9 #[.string s] := by rw [← hW0, ← hN]; have h := Blk.new ((((W1.alloc (.cells #[.slice none 0 0] 50)).alloc (.cells #[.slice none 0 0] 246)).alloc (.cells #[.int .i64 0] 3)).alloc (.cells #[.slice none 0 0] 126)) 9 #[.string s]; simp only [World.size_alloc] at h; exact h
  have hB0 : Below w.heap.size w W0 := by rw [← hW0]; exact ((((hB1.alloc (by omega) _).alloc (by simp; omega) _).alloc (by simp; omega) _).alloc (by simp; omega) _).alloc (by simp; omega) _
  have hsz : W0.heap.size = N + 5 := by rw [← hW0, ← hN]; simp
  rw [hW0, hN]
  clear hW0 a0 a1 a2 hB1
  refine wpIn_rangeFunc_ownT rfl (by omega) (gf := 147) (lb := #[.pointer (some ⟨N + 1 + 1 + 1 + 1, 0, none⟩)]) rfl trivial (enters_of Tryz.func147 (by kernel_rfl) rfl)
    (z := w.heap.size) (A := fun k => k = N ∨ k = N + 1 ∨ k = N + 1 + 1 ∨ k = N + 1 + 1 + 1) (by omega) (fun k hk => by omega)
    (spots_T s w.heap.size (N + 1 + 1 + 1 + 1) (fun k => k = N ∨ k = N + 1 ∨ k = N + 1 + 1 ∨ k = N + 1 + 1 + 1) (by show ¬ (_ ∨ _); omega) W0 (fun k hk => by omega) b7 (6 - 1) (by omega)) (Below.refl _ _) (fun _ => rfl)
    (EncI s w N) (fun c pre X => False)
    (fun pre X Y h hb => h.still hb (by omega)) (fun c pre X Y h hb => h.elim) ⟨b0, b1, b2, ⟨_, _, _, b3, b4, b5, b6, .inl ⟨rfl, rfl, rfl, rfl⟩⟩, hB0⟩
    (fun x a' X => ∃ Bx, N + 5 ≤ Bx ∧ Blk X Bx 149 #[.int .i32 ((spA s x.val).r : Int), .int .i64 ((spA s x.val).n : Int), .bool (spA s x.val).bad] ∧ a' = { tmps := #[.agg #[.int .i64 36, .int .i64 2, .int .i64 24, .int .i64 40, .int .i64 600, .int .i64 64, .int .i32 128], .string s, .pointer (some ⟨w.heap.size, 0, none⟩), undef, .pointer (some ⟨w.heap.size + 1, 0, none⟩), .pointer (some ⟨w.heap.size + 1 + 1, 0, none⟩), .pointer (some ⟨N, 0, none⟩), .pointer (some ⟨N + 1, 0, none⟩), .pointer (some ⟨N + 1 + 1, 0, none⟩), .pointer (some ⟨N + 1 + 1 + 1, 0, none⟩), undef, .pointer (some ⟨Bx, 0, none⟩), undef, undef, undef, undef, undef, undef, .bool false, .agg #[.int .i64 36, .int .i64 2, .int .i64 24, .int .i64 40, .int .i64 600, .int .i64 64, .int .i32 128], .bool true, .bool false, .bool false, .string s, .int .i64 3, .bool false, .string s, .func (.func 147) #[] #[.pointer (some ⟨N + 1 + 1 + 1 + 1, 0, none⟩)], .int .i64 (bAt s x.val : Int), .agg #[.int .i32 ((spA s x.val).r : Int), .int .i64 ((spA s x.val).n : Int), .bool (spA s x.val).bad], undef, undef, undef, undef, undef, undef, undef, undef, undef, undef, undef, undef, undef, undef, undef, undef, undef, undef, undef, undef, undef, undef, undef, undef, undef, undef, undef, undef, undef, undef, undef, undef, undef, undef, undef, undef, undef, undef, undef, undef, undef, undef, undef, undef, undef, undef, undef, undef, undef, undef, undef, undef, undef, undef, undef, undef, undef, undef, undef, undef, undef, undef, undef, undef, undef, undef, undef, undef, undef, undef, undef, undef, undef, undef, undef, undef, undef, undef, undef, undef, undef, undef, undef, undef, undef, undef, undef, undef, undef, undef, undef, undef, undef, undef, undef, undef, undef, undef], defers := [] })
    (fun x a' _ X Y row hs hg hr => by obtain ⟨Bx, h1, h2, h3⟩ := hs; exact ⟨Bx, h1, blk_own h2 hg hr, h3⟩)
    ?assign ?body ?done ?stop
  case assign =>
    rintro l2 pre x X K hI hM hz9 hK9
    gi_wp2
    exact hK9 _ _ (Only.alloc X _ (by omega)) (hI.still (B := X.heap.size) (Still.alloc X _ (Nat.le_refl _)) hI.2.2.2.2.size) ⟨X.heap.size, by omega, Blk.new X _ _, rfl⟩
  case body =>
    rintro l2 pre x a' X hl2 - ⟨c0, c1, c2, ⟨vo, vh, vt, e0, e1, e2, e3, e4⟩, hB⟩ ⟨Bx, hBx, bX, rfl⟩ hsp hlt
    obtain ⟨kk, hkk, hpe⟩ := hsp
    obtain ⟨hx, -, -⟩ := firstK_last hkk hpe
    have hX5 : N + 5 ≤ X.heap.size := by have := bX.lt; omega
    obtain ⟨n1, n2, n3, n4, n5⟩ := HE.out
    have p6 := c0.cell 6
    have x0 := bX.cell 0
    have x2 := bX.cell 2
    have y1 := e1.cell 0
    have y2 := e2.cell 0
    have f1 := e1.frozen 0
    have f2 := e2.frozen 0
    clear hpe hkk
    rcases e4 with ⟨h0, rfl, rfl, rfl⟩ | ⟨h0, rfl, ho, rfl⟩ | ⟨h0, -⟩
    · rw [h0] at hx y2
      rw [hx] at x0 x2
      rw [n2] at x0
      rw [n4] at x2
      simp only [List.getElem?_toArray, List.getElem?_cons_succ, List.getElem?_cons_zero] at p6 x0 x2 y1 y2
      clear n1 n2 n3 n4 n5
      gi_wp2_with (gi_at_builtin; refine wpListIn_append_own _ rfl _ _ 246 rfl (N + 5) 248 j0 _ 2 16 Tryz.underlying246 hj hy0 hy1 hy2 rfl (by decide) (.slice none 0 0) 0 [] rfl (World.ownsRow_nil _ _ _ _) ⟨X.heap.size, 0, none⟩ 1 1 [.int .i32 233, .int .i64 0] rfl rfl (cells_new _ _ _ _ rfl) (by simp [Value.oneCell']) (by unfold maxLen; omega) (by omega) (by rw [World.size_alloc]; omega) ?_; intro v1 w5 hown1 hgrow1 _; obtain ⟨A9, c9, rfl, -⟩ := own_form hown1; have hb5 : Below X.heap.size X w5 := ((Below.refl _ X).alloc (Nat.le_refl _) _).grown hgrow1 (by rw [World.size_alloc]; exact Nat.le_succ _) (fun k e => by cases e); have z1 := (e1.below hb5).cell 0; have zf1 := (e1.below hb5).frozen 0; have z2 := (e2.below hb5).cell 0; have zf2 := (e2.below hb5).frozen 0; rw [h0] at z2; simp only [List.getElem?_toArray, List.getElem?_cons_zero] at z1 z2)
      refine ⟨(Only.new hb5 hB.size).trans ((Only.setCell _ _ _ _ (by omega) (.inr (.inl rfl))).trans (Only.setCell _ _ _ _ (by omega) (.inr (.inr (.inl rfl))))), (c0.below hb5).set2 (by omega) (by omega), (c1.below hb5).set2 (by omega) (by omega), (c2.below hb5).set2 (by omega) (by omega), ⟨.slice none 0 0, .slice A9 1 c9, .slice none 0 0, (e0.below hb5).set2 (by omega) (by omega), ((e1.below hb5).set_ 0 _).of (Below.heap_setCell _ _ _ _ (by simp)), ?_, (e3.below hb5).set2 (by omega) (by omega), .inr (.inl ⟨by simp [h0], rfl, own_set (own_set hown1 (by omega) _) (by omega) _, rfl⟩)⟩, ((hB.trans (hb5.mono hB.size)).setCell (by show w.heap.size ≤ N + 1; omega) _).setCell (by show w.heap.size ≤ N + 1 + 1; omega) _⟩
      rw [show ((pre ++ [x]).length : Int) = 1 by simp [h0]]
      exact ((e2.below hb5).of (Below.heap_setCell _ _ _ _ (by simp))).set_ 0 _
    · rw [h0] at hx y2
      rw [hx] at x0 x2
      rw [n3] at x0
      rw [n5] at x2
      have y0 := e0.cell 0
      have f0 := e0.frozen 0
      have y3 := e3.cell 0
      have f3 := e3.frozen 0
      simp only [List.getElem?_toArray, List.getElem?_cons_succ, List.getElem?_cons_zero] at p6 x0 x2 y0 y1 y2 y3
      clear n1 n2 n3 n4 n5
      gi_wp2_with (first
        | (refine ⟨trivial, ?_⟩; gi_at_call 140; refine (CallsIn.inRound l2 (callsIn_wide.2 (boot_basic X))).mono ?_; rintro e w4 ⟨rfl, rfl⟩)
        | (gi_at_builtin; refine wpListIn_append_own _ rfl _ _ 50 rfl (N + 5) 5 k0 _ 1 1 Tryz.underlying50 hk hq0 hq1 hq2 rfl (by decide) (.slice none 0 0) 0 [] rfl (World.ownsRow_nil _ _ _ _) ⟨X.heap.size, 0, none⟩ 1 1 [.int .u8 97] rfl rfl (cells_new _ _ _ _ rfl) (by simp [Value.oneCell']) (by unfold maxLen; omega) (by omega) (by rw [World.size_alloc]; omega) ?_; intro v1 w5 hown1 hgrow1 _; obtain ⟨A9, c9, rfl, -⟩ := own_form hown1; have hb5 : Below X.heap.size X w5 := ((Below.refl _ X).alloc (Nat.le_refl _) _).grown hgrow1 (by rw [World.size_alloc]; exact Nat.le_succ _) (fun k e => by cases e); have z0 := (e0.below hb5).cell 0; have zf0 := (e0.below hb5).frozen 0; have z2 := (e2.below hb5).cell 0; have zf2 := (e2.below hb5).frozen 0; have z3 := (e3.below hb5).cell 0; have zf3 := (e3.below hb5).frozen 0; rw [h0] at z2; simp only [List.getElem?_toArray, List.getElem?_cons_zero] at z0 z2 z3)
        | (gi_at_builtin; refine wpListIn_append_own _ rfl _ _ 126 rfl (N + 5) 3 i0 _ 1 8 Tryz.underlying126 hi hz0 hz1 hz2 rfl (by decide) (.slice none 0 0) 0 [] rfl (World.ownsRow_nil _ _ _ _) ⟨w5.heap.size, 0, none⟩ 1 1 [.int .i64 1] rfl rfl (cells_new (w5.setCell ⟨N, 0, none⟩ (.slice A9 1 c9)) [.int .i64 1] 3 w5.heap.size (by rw [World.size_setCell])) (by simp [Value.oneCell']) (by unfold maxLen; omega) (by omega) (by rw [World.size_alloc]; exact Nat.le_succ_of_le (Nat.le_trans hX5 (Nat.le_trans hb5.size (Below.setCell (Below.refl 0 w5) (p := ⟨N, 0, none⟩) (Nat.zero_le _) _).size))) ?_; intro v2 w6 hown2 hgrow2 _; obtain ⟨A8, c8, rfl, -⟩ := own_form hown2; have hb6 : Below (w5.setCell ⟨N, 0, none⟩ (.slice A9 1 c9)).heap.size (w5.setCell ⟨N, 0, none⟩ (.slice A9 1 c9)) w6 := ((Below.refl _ _).alloc (Nat.le_refl _) _).grown hgrow2 (by rw [World.size_alloc]; exact Nat.le_succ _) (fun k e => by cases e); have u2 := (((e2.below hb5).of (Below.heap_setCell w5 ⟨N, 0, none⟩ (.slice A9 1 c9) _ (by simp; omega))).below hb6).cell 0; have uf2 := (((e2.below hb5).of (Below.heap_setCell w5 ⟨N, 0, none⟩ (.slice A9 1 c9) _ (by simp; omega))).below hb6).frozen 0; have u3 := (((e3.below hb5).of (Below.heap_setCell w5 ⟨N, 0, none⟩ (.slice A9 1 c9) _ (by simp; omega))).below hb6).cell 0; have uf3 := (((e3.below hb5).of (Below.heap_setCell w5 ⟨N, 0, none⟩ (.slice A9 1 c9) _ (by simp; omega))).below hb6).frozen 0; rw [h0] at u2; simp only [List.getElem?_toArray, List.getElem?_cons_zero] at u2 u3))
      have hwY : w.heap.size ≤ (w5.setCell ⟨N, 0, none⟩ (.slice A9 1 c9)).heap.size := by rw [World.size_setCell]; exact Nat.le_trans hB.size hb5.size
      have mv : ∀ {g : Nat} {t : TypeId} {cs : Array Value}, Blk X g t cs → g ≠ N → Blk w6 g t cs := fun h hg => ((h.below hb5).of (Below.heap_setCell _ _ _ _ hg)).below hb6
      have eN : Blk w6 N 50 #[.slice A9 1 c9] := ((e0.below hb5).set_ 0 (.slice A9 1 c9)).below hb6
      refine ⟨(Only.new hb5 hB.size).trans ((Only.setCell _ _ _ _ (by omega) (.inl rfl)).trans ((Only.new hb6 hwY).trans ((Only.setCell _ _ _ _ (by omega) (.inr (.inr (.inr rfl)))).trans (Only.setCell _ _ _ _ (by omega) (.inr (.inr (.inl rfl))))))), (mv c0 (by omega)).set2 (by omega) (by omega), (mv c1 (by omega)).set2 (by omega) (by omega), (mv c2 (by omega)).set2 (by omega) (by omega), ⟨.slice A9 1 c9, vh, .slice A8 1 c8, eN.set2 (by omega) (by omega), (mv e1 (by omega)).set2 (by omega) (by omega), ?_, ((mv e3 (by omega)).set_ 0 _).of (Below.heap_setCell _ _ _ _ (by simp)), .inr (.inr ⟨by simp [h0], own_set (own_set (own_belowV (own_set hown1 (by omega) _) hb6) (by omega) _) (by omega) _, own_set (own_set (own_belowV (own_set (own_belowV ho hb5) (by omega) _) hb6) (by omega) _) (by omega) _, own_set (own_set hown2 (by omega) _) (by omega) _⟩)⟩, ((((hB.trans (hb5.mono hB.size)).setCell (by show w.heap.size ≤ N; omega) _).trans (hb6.mono hwY)).setCell (by show w.heap.size ≤ N + 1 + 1 + 1; omega) _).setCell (by show w.heap.size ≤ N + 1 + 1; omega) _⟩
      rw [show ((pre ++ [x]).length : Int) = 2 by simp [h0]]
      exact ((mv e2 (by omega)).of (Below.heap_setCell _ _ _ _ (by simp))).set_ 0 _
    · omega
  case done =>
    rintro D ys V hD hys9 ⟨c0, c1, c2, ⟨vo, vh, vt, e0, e1, e2, e3, e4⟩, hB⟩ hK
    have hl : ys.length = 2 := by rw [hys9, List.length_finRange]; exact HE.out.1
    rcases e4 with ⟨h0, -⟩ | ⟨h0, -⟩ | ⟨-, ho, hh, ht⟩
    · omega
    · omega
    · obtain ⟨A1, q1, rfl, hA1⟩ := own_form ho
      obtain ⟨g1, rfl, hg1, hgl1, -⟩ := hA1 (by omega)
      obtain ⟨A2, q2, rfl, hA2⟩ := own_form hh
      obtain ⟨g2, rfl, hg2, hgl2, hc2⟩ := hA2 (by omega)
      obtain ⟨A3, q3, rfl, hA3⟩ := own_form ht
      obtain ⟨g3, rfl, hg3, hgl3, hc3⟩ := hA3 (by omega)
      have hV5 : N + 5 ≤ V.heap.size := by omega
      have y0 := e0.cell 0
      have f0 := e0.frozen 0
      have y1 := e1.cell 0
      have y3 := e3.cell 0
      simp only [List.getElem?_toArray, List.getElem?_cons_zero] at y0 y1 y3
      clear hys9 hl
      have EV : Hid (EB w N g2 q2 (.slice (some ⟨g1, 0, none⟩) 1 q1) (.slice (some ⟨g3, 0, none⟩) 1 q3) V) := Lib.hid ⟨e0, e1, e3, c1, c2, hB, hHN, hV5⟩
      have HO := Lib.hid ho
      have HH := Lib.hid hh
      have HT := Lib.hid ht
      have C0 := Lib.hid c0
      have HD : Hid (N + 5 ≤ D ∧ _) := Lib.hid ⟨by omega, hK⟩
      have HBg := Lib.hid boot_begin
      unfold parV stC at HBg
      clear e0 e1 e2 e3 c0 c1 c2 hB ho hh ht hg1 hgl1 hg2 hgl2 hc2 hg3 hgl3 hc3 hK hD hA1 hA2 hA3 f0
      have f0 := EV.out.f0
      gi_wp2_with (first
        | (refine ⟨trivial, ?_⟩; gi_at_call 177; refine (callsIn_wide.2 (spots_SortStable _ _ _ _)).mono ?_; rintro e w6 ⟨rfl, rfl⟩)
        | (refine ⟨trivial, ?_⟩; gi_at_call 141; refine (callsIn_wide.2 (HBg.out _)).mono ?_; rintro e W3 ⟨rfl, h3⟩; have E3 := Lib.hid (E6.out.new h3); have O1 := Lib.hid (own_belowV (own_set HO5.out (by show N < N + 5; omega) (.slice A9 2 c9)) h3); have O2 := Lib.hid (own_belowV (own_set (own_kept HH.out (by decide) hK6.out.1) (by show N < N + 5; omega) (.slice A9 2 c9)) h3); have O3 := Lib.hid (own_belowV (own_set (own_kept HT.out (by decide) hK6.out.1) (by show N < N + 5; omega) (.slice A9 2 c9)) h3); have D3 := Lib.hid ((h3.block D (Nat.lt_of_lt_of_le (Array.getElem?_eq_some_iff.1 (hK6.out.1 D _ (fun _ _ => by simp) HD.out.2)).1 (by rw [World.size_setCell]; exact Nat.le_refl _))).trans ((Below.heap_setCell w5 ⟨N, 0, none⟩ (.slice A9 2 c9) D (by show D ≠ N; have := HD.out.1; omega)).trans (hK6.out.1 D _ (fun _ _ => by simp) HD.out.2))); have zz := (E3.out.2.1.alloc (.cells #[.int .i64 36, .int .i64 2, .int .i64 24, .int .i64 40, .int .i64 600, .int .i64 64, .int .i32 128, .int .i64 64, .int .i32 128, .int .i64 0, .int .i64 0] 210)).cell 0; simp only [List.getElem?_toArray, List.getElem?_cons_zero] at zz; clear h3)
        | (gi_at_builtin; refine wpListIn_append_own _ rfl _ _ 50 rfl (N + 5) 5 k0 _ 1 1 Tryz.underlying50 hk hq0 hq1 hq2 rfl (by decide) (.slice (some ⟨g1, 0, none⟩) 1 q1) 1 _ rfl (HO.out.alloc _) ⟨V.heap.size, 0, none⟩ 1 1 [.int .u8 45] rfl rfl (cells_new _ _ _ _ rfl) (by simp [Value.oneCell']) (by unfold maxLen; omega) (by omega) (by rw [World.size_alloc]; omega) ?_; intro v1 w5 hown1 hgrow1 _; obtain ⟨A9, c9, rfl, -⟩ := own_form hown1; have hB5 : Below (N + 5) V w5 := ((Below.refl _ V).alloc hV5 _).grown hgrow1 (by rw [World.size_alloc]; exact Nat.le_succ_of_le hV5) (fun k e => (HO.out.lt k e).1); have hK5 : KeptT 5 V w5 := (KeptT.new ((Below.refl _ V).alloc (Nat.le_refl _) _)).trans (KeptT.grown (HO.out.alloc _) hgrow1); have E5 := EV.out.below hB5; have E6 := Lib.hid (E5.out (.slice A9 2 c9)); have HO5 := Lib.hid hown1; have z0 := E5.c0; have zf0 := E5.f0; have z1 := E6.out.c1; have C6 := (C0.out.of (hB5.block _ (by omega))).of (Below.heap_setCell w5 ⟨N, 0, none⟩ (.slice A9 2 c9) _ (by show _ ≠ N; omega)); have hK6 : Hid (KeptT 5 V w5 ∧ Blk w5 N 50 #[.slice (some ⟨g1, 0, none⟩) 1 q1]) := Lib.hid ⟨hK5, E5.1⟩; have z20 := C6.cell 0; have z21 := C6.cell 1; have z22 := C6.cell 2; have z23 := C6.cell 3; have z24 := C6.cell 4; have z25 := C6.cell 5; have z26 := C6.cell 6; clear C6 E5 hB5 hK5 hown1 hgrow1; simp only [List.getElem?_toArray, List.getElem?_cons_succ, List.getElem?_cons_zero] at z20 z21 z22 z23 z24 z25 z26))
      have EE := Lib.hid (E3.out.new ((Below.refl _ W3).alloc (Nat.le_refl _) (.cells #[.int .i64 36, .int .i64 2, .int .i64 24, .int .i64 40, .int .i64 600, .int .i64 64, .int .i32 128, .int .i64 64, .int .i32 128, .int .i64 0, .int .i64 0] 210)))
      have P1 := Lib.hid (O1.out.alloc (.cells #[.int .i64 36, .int .i64 2, .int .i64 24, .int .i64 40, .int .i64 600, .int .i64 64, .int .i32 128, .int .i64 64, .int .i32 128, .int .i64 0, .int .i64 0] 210))
      have P2 := Lib.hid (O2.out.alloc (.cells #[.int .i64 36, .int .i64 2, .int .i64 24, .int .i64 40, .int .i64 600, .int .i64 64, .int .i32 128, .int .i64 64, .int .i32 128, .int .i64 0, .int .i64 0] 210))
      have P3 := Lib.hid (O3.out.alloc (.cells #[.int .i64 36, .int .i64 2, .int .i64 24, .int .i64 40, .int .i64 600, .int .i64 64, .int .i32 128, .int .i64 64, .int .i32 128, .int .i64 0, .int .i64 0] 210))
      have DD := Lib.hid ((Below.heap_alloc W3 (.cells #[.int .i64 36, .int .i64 2, .int .i64 24, .int .i64 40, .int .i64 600, .int .i64 64, .int .i32 128, .int .i64 64, .int .i32 128, .int .i64 0, .int .i64 0] 210) D (Array.getElem?_eq_some_iff.1 D3.out).1).trans D3.out)
      have ST : Hid (Blk (W3.alloc (.cells #[.int .i64 36, .int .i64 2, .int .i64 24, .int .i64 40, .int .i64 600, .int .i64 64, .int .i32 128, .int .i64 64, .int .i32 128, .int .i64 0, .int .i64 0] 210)) W3.heap.size 210 (stC 64 128 0 0)) := Lib.hid (Blk.new W3 _ _)
      obtain ⟨S, hS⟩ : ∃ S, W3.heap.size = S := ⟨_, rfl⟩
      have hNS : N + 5 ≤ S := by rw [← hS]; exact E3.out.2.2.2.2.2.2.2
      clear zz E3 O1 O2 O3 D3 z0 zf0 z1 z20 z21 z22 z23 z24 z25 z26 E6 HO5 hK6 f0 EV HO HH HT C0 y0 y1 y3
      rw [hS] at ST ⊢
      clear hS
      generalize W3.alloc (.cells #[.int .i64 36, .int .i64 2, .int .i64 24, .int .i64 40, .int .i64 600, .int .i64 64, .int .i32 128, .int .i64 64, .int .i32 128, .int .i64 0, .int .i64 0] 210) = W4 at EE P1 P2 P3 DD ST ⊢
      obtain ⟨hgl7, -, hc7⟩ := own_cells P2.out (by omega)
      obtain ⟨hgl8, -, hc8⟩ := own_cells P3.out (by omega)
      have x0 := hc7 0 (by omega)
      have x1 := hc7 1 (by omega)
      have x3 := hc8 0 (by omega)
      simp only [List.getElem?_cons_zero, List.getElem?_cons_succ] at x0 x1 x3
      clear hc7 hc8
      have y3 := (EE.out.new ((Below.refl _ W4).alloc (Nat.le_refl _) (.cells #[.int .i32 233, .int .i64 0] 248))).c3
      have hH4 := EE.out.2.2.2.2.2.2.2
      have X3 : Hid ((W4.alloc (.cells #[.int .i32 233, .int .i64 0] 248)).cell? ⟨g3, 0, none⟩ = some (.int .i64 1)) := Lib.hid (by rw [World.cell?_alloc_past (w := W4) _ g3 0 hgl8]; exact x3)
      have E5 := Lib.hid (EE.out.new ((Below.refl _ W4).alloc (Nat.le_refl _) (.cells #[.int .i32 233, .int .i64 0] 248)))
      have Q1 := Lib.hid (P1.out.alloc (.cells #[.int .i32 233, .int .i64 0] 248))
      have Q3 := Lib.hid (P3.out.alloc (.cells #[.int .i32 233, .int .i64 0] 248))
      have D5 := Lib.hid ((Below.heap_alloc W4 (.cells #[.int .i32 233, .int .i64 0] 248) D (Array.getElem?_eq_some_iff.1 DD.out).1).trans DD.out)
      have S5 := Lib.hid (ST.out.alloc (.cells #[.int .i32 233, .int .i64 0] 248))
      have V5 : Hid (Blk (W4.alloc (.cells #[.int .i32 233, .int .i64 0] 248)) W4.heap.size 248 #[.int .i32 233, .int .i64 0]) := Lib.hid (Blk.new W4 _ _)
      obtain ⟨VB, hVB⟩ : ∃ VB, W4.heap.size = VB := ⟨_, rfl⟩
      rw [hVB] at hH4
      clear x3 EE P1 P2 P3 DD ST
      refine wpIn_loop_rounds 2 ?_
      refine Eq.mpr roundsIn_succ ?_
      gi_wp2_with fail
      refine ⟨trivial, (callsIn_wide.2 (bs_one g3 q3 _ X3.out)).mono ?_⟩
      rintro e w8 ⟨rfl, kq, rfl⟩
      have E8 := Lib.hid (E5.out.new (Below.drwN (Below.refl _ _) kq))
      have T1 := Lib.hid (own_belowV Q1.out (Below.drwN (Below.refl _ _) kq))
      have T3 := Lib.hid (own_belowV Q3.out (Below.drwN (Below.refl _ _) kq))
      have S8 : Hid (Blk ((W4.alloc (.cells #[.int .i32 233, .int .i64 0] 248)).drewN kq) S 210 (stC 64 128 0 0)) := S5
      have V8 : Hid (Blk ((W4.alloc (.cells #[.int .i32 233, .int .i64 0] 248)).drewN kq) W4.heap.size 248 #[.int .i32 233, .int .i64 0]) := V5
      have D8 : Hid (((W4.alloc (.cells #[.int .i32 233, .int .i64 0] 248)).drewN kq).heap[D]? = some (.deferred (some []))) := D5
      rw [hVB] at V8
      try rw [hVB]
      generalize (W4.alloc (.cells #[.int .i32 233, .int .i64 0] 248)).drewN kq = w8 at E8 T1 T3 S8 V8 D8 ⊢
      clear E5 Q1 Q3 S5 V5 D5 x0 x1 y3 X3
      have v0 := V8.out.cell 0
      have v1 := V8.out.cell 1
      have s8 := S8.out.cell 8
      have s9 := S8.out.cell 9
      have y0 := E8.out.c0
      have y3 := E8.out.c3
      simp only [stC, List.getElem?_toArray, List.getElem?_cons_succ, List.getElem?_cons_zero] at v0 v1 s8 s9
      gi_wp2_with fail
      have hl8 := E8.out.2.2.2.2.2.2.2
      have U1 : w8.ownsRow (N + 5) 5 1 (.slice A9 2 c9) 2 [.int .u8 97, .int .u8 45] := T1.out
      refine ⟨trivial, (callsIn_wide.2 (boot_write S8.out (own_ne U1 S8.out (by decide)) U1 hl8)).mono ?_⟩
      rintro e w9 ⟨⟨v9, rfl, hO⟩, hb9, hk9⟩
      obtain ⟨A10, c10, rfl, hA10⟩ := own_form hO
      obtain ⟨g10, rfl, -⟩ := hA10 (by omega)
      have E9 := E8.out.below hb9
      have f0 := E9.f0
      have z0 := E9.c0
      have E10 := Lib.hid (E9.out (.slice (some ⟨g10, 0, none⟩) 4 c10))
      have U10 := Lib.hid (own_set (i := 0) hO (show N < N + 5 by omega) (.slice (some ⟨g10, 0, none⟩) 4 c10))
      have R10 := Lib.hid (own_set (i := 0) (own_kept T3.out (by decide) hk9) (show N < N + 5 by omega) (.slice (some ⟨g10, 0, none⟩) 4 c10))
      have S10 := Lib.hid ((hk9.blk (by decide) S8.out).of (Below.heap_setCell w9 ⟨N, 0, none⟩ (.slice (some ⟨g10, 0, none⟩) 4 c10) S (by show S ≠ N; omega)))
      have V10 := Lib.hid ((hk9.blk (by decide) V8.out).of (Below.heap_setCell w9 ⟨N, 0, none⟩ (.slice (some ⟨g10, 0, none⟩) 4 c10) VB (by show VB ≠ N; omega)))
      have D10 := Lib.hid ((Below.heap_setCell w9 ⟨N, 0, none⟩ (.slice (some ⟨g10, 0, none⟩) 4 c10) D (by show D ≠ N; have := HD.out.1; omega)).trans (hk9 D _ (fun _ _ => by simp) D8.out))
      have y3' := E10.out.c3
      have v1' := V10.out.cell 1
      simp only [List.getElem?_toArray, List.getElem?_cons_succ, List.getElem?_cons_zero] at v1'
      clear E9 hO hb9 hk9 hA10 U1 E8 T1 T3 S8 V8 D8 v0 v1 s8 s9 y0 y3
      gi_wp2_with fail
      obtain ⟨w10, hw10⟩ : ∃ X, w9.setCell ⟨N, 0, none⟩ (.slice (some ⟨g10, 0, none⟩) 4 c10) = X := ⟨_, rfl⟩
      have hz10 : w10.heap.size = w9.heap.size := by rw [← hw10]; exact World.size_setCell _ _ _
      rw [hw10] at E10 U10 R10 S10 V10 D10 ⊢
      clear hw10 f0 z0 y3' v1'
      have hl10 := E10.out.2.2.2.2.2.2.2
      have Rg := (own_cells R10.out (by omega)).1
      rw [← hz10]
      refine ⟨trivial, (callsIn_wide.2 (ints_Insert (base := N + 5) (R10.out.alloc (.cells #[.int .i64 0] 3)) (Blk.new w10 3 #[.int .i64 0]) (fun e => by have e2 : g3 = w10.heap.size := Option.some.inj e; omega) (by rw [World.size_alloc]; omega))).mono ?_⟩
      rintro e w11 ⟨⟨A11, c11, rfl⟩, hb11, hk11⟩
      have E11 := (E10.out.new ((Below.refl _ w10).alloc (Nat.le_refl _) (.cells #[.int .i64 0] 3))).below hb11
      have f3 := E11.f3
      have z3 := E11.c3
      have E12 := Lib.hid (E11.there (.slice A11 2 c11))
      have U12 := Lib.hid (own_set (i := 0) (own_kept (U10.out.alloc (.cells #[.int .i64 0] 3)) (by decide) hk11) (show N + 1 + 1 + 1 < N + 5 by omega) (.slice A11 2 c11))
      have S12 := Lib.hid ((hk11.blk (by decide) (S10.out.alloc (.cells #[.int .i64 0] 3))).of (Below.heap_setCell w11 ⟨N + 1 + 1 + 1, 0, none⟩ (.slice A11 2 c11) S (by show S ≠ N + 1 + 1 + 1; omega)))
      have V12 := Lib.hid ((hk11.blk (by decide) (V10.out.alloc (.cells #[.int .i64 0] 3))).of (Below.heap_setCell w11 ⟨N + 1 + 1 + 1, 0, none⟩ (.slice A11 2 c11) VB (by show VB ≠ N + 1 + 1 + 1; omega)))
      have D12 := Lib.hid ((Below.heap_setCell w11 ⟨N + 1 + 1 + 1, 0, none⟩ (.slice A11 2 c11) D (by show D ≠ N + 1 + 1 + 1; have := HD.out.1; omega)).trans (hk11 D _ (fun _ _ => by simp) ((Below.heap_alloc w10 (.cells #[.int .i64 0] 3) D (Array.getElem?_eq_some_iff.1 D10.out).1).trans D10.out)))
      have y3 := E12.out.c3
      clear E11 hb11 hk11 E10 U10 R10 S10 V10 D10 Rg hz10
      gi_wp2_with fail
      obtain ⟨w12, hw12⟩ : ∃ X, w11.setCell ⟨N + 1 + 1 + 1, 0, none⟩ (.slice A11 2 c11) = X := ⟨_, rfl⟩
      rw [hw12] at E12 U12 S12 V12 D12 ⊢
      clear hw12 f3 z3 y3
      refine ⟨trivial, (callsIn_wide.2 (boot_adapt S12.out)).mono ?_⟩
      rintro e w13 ⟨rfl, hb13, hk13, many, hS13⟩
      have E13 := Lib.hid (E12.out.below (hb13.mono hNS))
      have U13 := Lib.hid (own_kept U12.out (by decide) hk13)
      have V13 := hk13.blk (by decide) V12.out
      have D13 := Lib.hid (hk13 D _ (fun _ _ => by simp) D12.out)
      have S13 := Lib.hid hS13
      have v0 := V13.cell 0
      have s8 := hS13.cell 8
      have s9 := hS13.cell 9
      have f8 := hS13.frozen 8
      have f9 := hS13.frozen 9
      have E14 := Lib.hid ((E13.out.other hNS 8 (.int .i32 233)).other hNS 9 (.int .i64 1))
      have U14 := own_kept (own_kept U13.out (by decide) (KeptT.setCell (i := 8) S13.out (.int .i32 233))) (by decide) (KeptT.setCell (i := 9) (S13.out.set_ 8 (.int .i32 233)) (.int .i64 1))
      have D14 := Lib.hid (KeptT.setCell (i := 9) (S13.out.set_ 8 (.int .i32 233)) (.int .i64 1) D _ (fun _ _ => by simp) (KeptT.setCell (i := 8) S13.out (.int .i32 233) D _ (fun _ _ => by simp) D13.out))
      have hcv := conv_agg U14
      have y0 := E14.out.c0
      have r1 := E14.out.2.2.2.1.cell 0
      have r2 := E14.out.2.2.2.2.1.cell 0
      have rf1 := E14.out.2.2.2.1.frozen 0
      have rf2 := E14.out.2.2.2.2.1.frozen 0
      simp only [stC, List.getElem?_toArray, List.getElem?_cons_succ, List.getElem?_cons_zero] at v0 s8 s9 r1 r2
      clear hb13 hk13 hS13 V13 E12 U12 S12 V12 D12 U14
      gi_wp2_with fail
      obtain ⟨w14, hw14⟩ : ∃ X, (w13.setCell ⟨S, 8, none⟩ (.int .i32 233)).setCell ⟨S, 9, none⟩ (.int .i64 1) = X := ⟨_, rfl⟩
      rw [hw14] at E14 D14 hcv y0 r1 r2 rf1 rf2 ⊢
      clear hw14 v0 s8 s9 f8 f9 E13 U13 D13 S13
      refine Eq.mpr roundsIn_succ ?_
      gi_wp2_with fail
      obtain ⟨h1, h2, h3, h4, h5, h6, h7, h8⟩ := E14.out
      have e1 := (h4.set_ 0 (.string ⟨#[97, 45, 103, 103]⟩)).of (Below.heap_setCell _ ⟨w.heap.size + 1 + 1, 0, none⟩ (.int .i64 0) (w.heap.size + 1) (by simp))
      have e2 := (h5.of (Below.heap_setCell w14 ⟨w.heap.size + 1, 0, none⟩ (.string ⟨#[97, 45, 103, 103]⟩) (w.heap.size + 1 + 1) (by simp))).set_ 0 (.int .i64 0)
      have hK' := (Below.heap_setCell _ ⟨w.heap.size + 1 + 1, 0, none⟩ (.int .i64 0) D (by show D ≠ w.heap.size + 1 + 1; have := HD.out.1; omega)).trans ((Below.heap_setCell w14 ⟨w.heap.size + 1, 0, none⟩ (.string ⟨#[97, 45, 103, 103]⟩) D (by show D ≠ w.heap.size + 1; have := HD.out.1; omega)).trans D14.out)
      have hB3 := (h6.setCell (p := ⟨w.heap.size + 1, 0, none⟩) (by simp) (.string ⟨#[97, 45, 103, 103]⟩)).setCell (p := ⟨w.heap.size + 1 + 1, 0, none⟩) (by show w.heap.size ≤ w.heap.size + 1 + 1; omega) (.int .i64 0)
      have hD1 : w.heap.size + 2 < D := by have := HD.out.1; omega
      refine ⟨by simp, .inl ⟨_, _, rfl, run_takeDeferred hK', ?_⟩⟩
      have g1 := (e1.of (World.putObj_heap_other (o := .deferred none) (show w.heap.size + 1 ≠ D by omega))).cell 0
      have g2 := (e2.of (World.putObj_heap_other (o := .deferred none) (show w.heap.size + 1 + 1 ≠ D by omega))).cell 0
      simp at g1 g2
      refine ⟨.tuple #[.string ⟨#[97, 45, 103, 103]⟩, .int .i64 0], ?_, rfl, hB3.trans ⟨rfl, rfl, rfl, (grownBy_putObj' _ _ _).size, fun k hk => World.putObj_heap_other (by omega)⟩⟩
      simp [results, Tryz.results135, go_sem, g1, g2]
  case stop =>
    rintro D c pre V hD hsp h1 hK9
    exact h1.elim

end
section
open Go.RowKit Go.Shelf
set_option linter.unusedVariables false
/-- the form of a label of the closed name -/
def formL (s : ByteArray) : ByteArray := if s = ⟨#[98]⟩ then s else ⟨#[120, 113, 45, 45, 97, 45, 103, 103]⟩
set_option maxHeartbeats 4000000 in
theorem label_form {s : ByteArray} (h : GoodL s) (w : World) : Calls Tryz.prog 93 #[.string s] w fun e w' => e = .returned (.string (formL s)) ∧ Below w.heap.size w w' := by
  rcases h with rfl | rfl
  · have HA := Lib.hid ascii_no
    have HH := Lib.hid boot_House
    have HE := Lib.hid boot_Encode
    rw [show formL ⟨#[195, 169, 97]⟩ = ⟨#[120, 113, 45, 45, 97, 45, 103, 103]⟩ by decide]
    unfold parV at HH HE
    go_enter Tryz.func93, Tryz.ntmps93
    go_wp2_with (first
      | (go_at_call 101; refine (HA.out _).mono ?_; rintro e w1 ⟨rfl, rfl⟩)
      | (go_at_call 99; refine (HH.out _).mono ?_; rintro e w2 ⟨rfl, h2⟩)
      | (go_at_call 135; refine (HE.out _).mono ?_; rintro e w3 ⟨rfl, h3⟩))
    go_ret
    exact ⟨by rfl, h2.trans (h3.mono h2.size)⟩
  · have HA := Lib.hid ascii_yes
    rw [show formL ⟨#[98]⟩ = ⟨#[98]⟩ by decide]
    go_enter Tryz.func93, Tryz.ntmps93
    go_wp2_with (go_at_call 101; refine (HA.out _).mono ?_; rintro e w1 ⟨rfl, rfl⟩)
    go_ret
    exact ⟨rfl, Below.refl _ _⟩
theorem formL_size {s : ByteArray} (h : GoodL s) : (formL s).size ≤ 8 := by rcases h with rfl | rfl <;> decide
set_option maxHeartbeats 2000000 in
theorem rule_7 {w : World} {b : Nat} {s : ByteArray} (h : GoodL s) : Lets 176 b s w := by
  unfold Lets
  have hs := good_size h
  have hf := formL_size h
  have HF := Lib.hid (fun W => label_form h W)
  generalize formL s = u at hf HF
  have t1 : decide ((252 : Int) < (s.size : Int)) = false := decide_eq_false (by omega)
  have t2 : decide ((63 : Int) < (u.size : Int)) = false := decide_eq_false (by omega)
  clear h
  go_enter Tryz.func176, Tryz.ntmps176
  go_wp2_with (go_at_call 93; refine (HF.out _).mono ?_; rintro e w' ⟨rfl, h1⟩; have k1 := (Blk.new w _ _).below h1; have c0 := k1.cell 0; have c1 := k1.cell 1; have f0 := k1.frozen 0; have f1 := k1.frozen 1; simp only [List.getElem?_toArray, List.getElem?_cons_succ, List.getElem?_cons_zero] at c0 c1)
  have e0 := (k1.set_ 0 (.int .i64 0)).set_ 1 (.int .i64 0)
  have g0 := e0.cell 0
  have g1 := e0.cell 1
  simp at g0 g1
  refine bodyPost_ret (v := .tuple #[.agg #[.int .i64 0, .int .i64 0], .bool false]) (by simp [results, Tryz.results176, go_sem, g0, g1]) rfl ⟨rfl, ?_⟩
  exact ((((Below.refl _ w).alloc (Nat.le_refl _) _).trans (h1.mono (by simp))).setCell (p := ⟨w.heap.size, 0, none⟩) (Nat.le_refl _) _).setCell (p := ⟨w.heap.size, 1, none⟩) (Nat.le_refl _) _

end
end Go.Proofs.YtjmkdimbbacnfaaGreatDoor
