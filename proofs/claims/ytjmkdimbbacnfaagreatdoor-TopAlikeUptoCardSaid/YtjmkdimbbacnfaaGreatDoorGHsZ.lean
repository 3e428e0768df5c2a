/- utf.Count; label.first, Check, ASCII, Unicode at the labels of the closed name. name.each over two labels. name.ASCII, name.Unicode of the closed name. -/
import Derived.Test.YtjmkdimbbacnfaaGreatDoorGHsW
import Derived.Test.YtjmkdimbbacnfaaGreatDoorGRefC
import Derived.LoopN
import Derived.Laws.EntriesVeiled
import Derived.Deep.RegionWith
namespace Go.Proofs.YtjmkdimbbacnfaaGreatDoor
section
open Go.RowKit Go.Shelf
set_option linter.unusedVariables false
set_option maxRecDepth 100000 in
set_option maxHeartbeats 2000000 in
theorem utf_Count (s : ByteArray) (w : World) (hm : s.size ≤ 1000000) :
    Calls Tryz.prog 89 #[.string s] w fun e w' => e = .returned (.int .i64 ((rn s).length : Int)) ∧ Below w.heap.size w w' := by
  go_enter Tryz.func89, Tryz.ntmps89
  go_wp2
  go_loopw [3] (fun n wr => ∃ (pos k : Nat), pos ≤ s.size ∧ k ≤ pos ∧ n = .int .i64 (k : Int) ∧ wr = w.iter s pos ∧ k + (runesI (s.data.toList.drop pos)).length = (rn s).length) (fun _ wr => s.size - wr.iterPos w.heap.size)
  case atStart => exact ⟨0, 0, Nat.zero_le _, Nat.zero_le _, rfl, rfl, by rw [rn_def]; simp⟩
  case round =>
    obtain ⟨pos, k, hp, hal, rfl, rfl, hspots⟩ := hrel
    have Hsp := Lib.hid hspots
    clear hspots
    by_cases hlt : pos < s.size
    · have hnx : ∀ ty, (Instr.next (.pointer (some ⟨w.heap.size, 0, none⟩)) true ty).run Tryz.prog (w.iter s pos) = _ := fun ty => run_next_any w s pos ty hlt
      obtain ⟨d1, d2, d3⟩ := dec_pos s hlt
      have hrc := rn_cons hlt
      have Hst : Hid (k + 1 + (runesI (s.data.toList.drop (pos + (Utf8.decode s pos).2))).length = (rn s).length) := Lib.hid (by have h := Hsp.out; rw [hrc, List.length_cons] at h; omega)
      clear hrc
      go_wp2
      go_roundw
      case rel =>
        exact ⟨pos + (Utf8.decode s pos).2, k + 1, by omega, by omega, by go_num, rfl, Hst.out⟩
      case measure =>
        simp
        omega
    · have hnx : ∀ ty, (Instr.next (.pointer (some ⟨w.heap.size, 0, none⟩)) true ty).run Tryz.prog (w.iter s pos) = _ := fun ty => run_next_end w s pos ty hlt
      have hk : k = (rn s).length := by have h := Hsp.out; rw [rn_end hlt] at h; simpa using h
      go_wp2
      go_ret
      exact ⟨by rw [hk]; rfl, (Below.refl _ w).alloc (Nat.le_refl _) _⟩
theorem good_norm {s : ByteArray} (h : GoodL s) : normS houseT s = s := by rcases h with rfl | rfl <;> decide +kernel
theorem good_abc {s : ByteArray} (h : GoodL s) : ∀ k, k < nS s → (spA s k).bad = false ∧ (((spA s k).r : Int) = 233 ∨ ((spA s k).r : Int) = 97 ∨ ((spA s k).r : Int) = 98) := by rcases h with rfl | rfl <;> decide +kernel
theorem lets_all {w : World} {b : Nat} {s : ByteArray} (h : GoodL s) (hK : Bk w b houseT) (hR : RightT houseT) (hI : InOrder houseT.allowed) : LetsAll b s w := fun W hW f hf => by
  have hKW := hK.below hW
  have hs := good_size h
  simp only [List.mem_cons, List.not_mem_nil, or_false] at hf
  rcases hf with rfl | rfl | rfl | rfl | rfl | rfl | rfl | rfl | rfl
  · exact rule_1 h
  · exact rule_2 h
  · exact rule_3 h
  · exact norm_First s (by omega) hKW hR (good_norm h) (fun k hk => (spot_facts h k hk).1)
  · exact rule_4 hKW hI h
  · exact rule_5 h
  · exact rule_6 hKW h
  · exact script_Stop s (by omega) hKW hR (good_abc h)
  · exact rule_7 h
set_option maxHeartbeats 2000000 in
theorem label_ASCII {w : World} {b : Nat} {s : ByteArray} (h : GoodL s) (hK : Bk w b houseT) (hR : RightT houseT) (hI : InOrder houseT.allowed) :
    Calls Tryz.prog 41 #[.pointer (some ⟨b, 0, none⟩), .string s] w fun e w' => e = .returned (.tuple #[.string (formL s), .nilIface]) ∧ Below w.heap.size w w' := by
  have HC := Lib.hid (label_Check (lets_all h hK hR hI))
  have HF := Lib.hid (fun W => label_form h W)
  clear h hK hR hI
  go_enter Tryz.func41, Tryz.ntmps41
  go_wp2_with (first
    | (go_at_call 92; refine (HC.out).mono ?_; rintro e w1 ⟨rfl, h1⟩)
    | (go_at_call 93; refine (HF.out _).mono ?_; rintro e w2 ⟨rfl, h2⟩))
  refine bodyPost_ret (v := .tuple #[.string (formL s), .nilIface]) (by simp [results, Tryz.results41, go_sem]) rfl ⟨rfl, h1.trans (h2.mono h1.size)⟩
set_option maxHeartbeats 2000000 in
theorem label_whole {w : World} {b : Nat} {s : ByteArray} (h : GoodL s) (hK : Bk w b houseT) (hR : RightT houseT) (hI : InOrder houseT.allowed) :
    Calls Tryz.prog 97 #[.pointer (some ⟨b, 0, none⟩), .string s] w fun e w' => e = .returned (.tuple #[.string s, .nilIface]) ∧ Below w.heap.size w w' := by
  have HC := Lib.hid (label_Check (lets_all h hK hR hI))
  clear h hK hR hI
  go_enter Tryz.func97, Tryz.ntmps97
  go_wp2_with (go_at_call 92; refine (HC.out).mono ?_; rintro e w1 ⟨rfl, h1⟩)
  refine bodyPost_ret (v := .tuple #[.string s, .nilIface]) (by simp [results, Tryz.results97, go_sem]) rfl ⟨rfl, h1⟩
theorem cut_yes (w : World) : Calls Tryz.prog 94 #[.string ⟨#[120, 113, 45, 45, 97, 45, 103, 103]⟩, .string ⟨#[120, 113, 45, 45]⟩] w fun e w' => e = .returned (.tuple #[.string ⟨#[97, 45, 103, 103]⟩, .bool true]) ∧ w = w' := by
  refine (Tryz.strings_CutPrefix ⟨#[120, 113, 45, 45, 97, 45, 103, 103]⟩ ⟨#[120, 113, 45, 45]⟩ w).mono ?_
  rintro e w' ⟨rfl, rfl⟩
  exact ⟨by rw [show Lib.trimPrefix (⟨#[120, 113, 45, 45, 97, 45, 103, 103]⟩ : ByteArray).data.toList (⟨#[120, 113, 45, 45]⟩ : ByteArray).data.toList = [97, 45, 103, 103] by decide +kernel, show Lib.hasPrefix (⟨#[120, 113, 45, 45, 97, 45, 103, 103]⟩ : ByteArray).data.toList (⟨#[120, 113, 45, 45]⟩ : ByteArray).data.toList = true by decide +kernel], rfl⟩
theorem cut_no (w : World) : Calls Tryz.prog 94 #[.string ⟨#[98]⟩, .string ⟨#[120, 113, 45, 45]⟩] w fun e w' => e = .returned (.tuple #[.string ⟨#[98]⟩, .bool false]) ∧ w = w' := by
  refine (Tryz.strings_CutPrefix ⟨#[98]⟩ ⟨#[120, 113, 45, 45]⟩ w).mono ?_
  rintro e w' ⟨rfl, rfl⟩
  exact ⟨by rw [show Lib.trimPrefix (⟨#[98]⟩ : ByteArray).data.toList (⟨#[120, 113, 45, 45]⟩ : ByteArray).data.toList = [98] by decide +kernel, show Lib.hasPrefix (⟨#[98]⟩ : ByteArray).data.toList (⟨#[120, 113, 45, 45]⟩ : ByteArray).data.toList = false by decide +kernel], rfl⟩
set_option maxRecDepth 100000 in
set_option maxHeartbeats 4000000 in
theorem label_Unicode {w : World} {b : Nat} {s : ByteArray} (h : GoodL s) (hK : Bk w b houseT) (hR : RightT houseT) (hI : InOrder houseT.allowed) :
    Calls Tryz.prog 43 #[.pointer (some ⟨b, 0, none⟩), .string (formL s)] w fun e w' => e = .returned (.tuple #[.string s, .nilIface]) ∧ Below w.heap.size w w' := by
  have HW : Hid (∀ W, Below w.heap.size w W → Calls Tryz.prog 97 #[.pointer (some ⟨b, 0, none⟩), .string s] W fun e w' => e = .returned (.tuple #[.string s, .nilIface]) ∧ Below W.heap.size W w') := Lib.hid (fun W hW => label_whole h (hK.below hW) hR hI)
  clear hK hR hI
  rcases h with rfl | rfl
  · rw [show formL ⟨#[195, 169, 97]⟩ = ⟨#[120, 113, 45, 45, 97, 45, 103, 103]⟩ by decide]
    have HH := Lib.hid boot_House
    have HD := Lib.hid boot_Decode
    unfold parV at HH HD
    go_enter Tryz.func43, Tryz.ntmps43
    go_wp2_with (first
      | (go_at_call 94; refine (cut_yes _).mono ?_; rintro e w1 ⟨rfl, rfl⟩)
      | (go_at_call 99; refine (HH.out _).mono ?_; rintro e w2 ⟨rfl, h2⟩)
      | (go_at_call 98; refine (HD.out _).mono ?_; rintro e w3 ⟨rfl, h3⟩; have h4 := h2.trans (h3.mono h2.size))
      | (go_at_call 100; refine (errors_Is _).mono ?_; rintro e w4 ⟨rfl, rfl⟩)
      | (go_at_call 101; refine (ascii_no _).mono ?_; rintro e w5 ⟨rfl, rfl⟩)
      | (go_at_call 97; refine (HW.out _ h4).mono ?_; rintro e w6 ⟨rfl, h6⟩))
    refine bodyPost_ret (v := .tuple #[.string ⟨#[195, 169, 97]⟩, .nilIface]) (by simp [results, Tryz.results43, go_sem]) rfl ⟨rfl, h4.trans (h6.mono h4.size)⟩
  · rw [show formL ⟨#[98]⟩ = ⟨#[98]⟩ by decide]
    have HF := Lib.hid (fun W => first_plain ⟨#[98]⟩ W (by decide) (pred_plain W ⟨#[98]⟩ plain_facts))
    go_enter Tryz.func43, Tryz.ntmps43
    go_wp2_with (first
      | (go_at_call 94; refine (cut_no _).mono ?_; rintro e w1 ⟨rfl, rfl⟩)
      | (go_at_call 95; refine (HF.out _).mono ?_; rintro e w2 ⟨rfl, h2⟩; have h4 := h2.alloc h2.size (.cells #[.int .i64 0, .int .i64 0] 82))
      | (go_at_call 97; refine (HW.out _ h4).mono ?_; rintro e w6 ⟨rfl, h6⟩))
    refine bodyPost_ret (v := .tuple #[.string ⟨#[98]⟩, .nilIface]) (by simp [results, Tryz.results43, go_sem]) rfl ⟨rfl, h4.trans (h6.mono h4.size)⟩

end
section
open Go.RowKit Go.Lib
set_option linter.unusedVariables false
attribute [local go_sem] Oper.semAt_some
theorem own_new {X Y : World} {base n k : Nat} {e : TypeId} {v : Value} {xs : List Value} (h : X.ownsRow base e k v n xs) (hb : Below X.heap.size X Y) : Y.ownsRow base e k v n xs := by
  obtain ⟨h1, h2 | ⟨g, cap, cur, hv, hbg, hg, h3⟩⟩ := h
  · exact ⟨h1, .inl h2⟩
  · exact ⟨h1, .inr ⟨g, cap, cur, hv, hbg, (hb.block g (Array.getElem?_eq_some_iff.1 hg).1).trans hg, h3⟩⟩
theorem own_at {X : World} {base b i n k : Nat} {e : TypeId} {v : Value} {xs : List Value} (h : X.ownsRow base e k v n xs) (hb : b < base) (u : Value) : (X.setCell ⟨b, i, none⟩ u).ownsRow base e k v n xs := by
  obtain ⟨h1, h2 | ⟨g, cap, cur, hv, hbg, hg, h3⟩⟩ := h
  · exact ⟨h1, .inl h2⟩
  · exact ⟨h1, .inr ⟨g, cap, cur, hv, hbg, (Below.heap_setCell _ _ _ _ (by show g ≠ b; omega)).trans hg, h3⟩⟩
theorem own_base {X : World} {base base' n k : Nat} {e : TypeId} {v : Value} {xs : List Value} (h : X.ownsRow base e k v n xs) (hb : base' ≤ base) : X.ownsRow base' e k v n xs := by
  obtain ⟨h1, h2 | ⟨g, cap, cur, hv, hbg, h3⟩⟩ := h
  · exact ⟨h1, .inl h2⟩
  · exact ⟨h1, .inr ⟨g, cap, cur, hv, Nat.le_trans hb hbg, h3⟩⟩
theorem errors_As_nil (p : Value) (w : World) : Calls Tryz.prog 90 #[.nilIface, p] w fun e w' => e = .returned (.bool false) ∧ w = w' := by
  go_enter Tryz.func90, Tryz.ntmps90
  go_wp2_with fail
  go_ret
  exact ⟨rfl, rfl⟩
theorem info_str : (Tryz.prog.info? 9).map (fun i => (i.zero, i.size, i.bytes)) = some (some (.string ⟨#[]⟩), 1, 16) := by kernel_rfl
/-- what follows is shown once, whatever stands in seven slots; the statement then ends in it -/
theorem wp_aside7 {P : Program} {c : Code} {Q : Exit → Act → World → Prop} {a : Act} {w : World} (rel : World → Prop) (d1 d2 d3 d4 d5 d6 d7 : Tmp)
    (h2 : ∀ v1 v2 v3 v4 v5 v6 v7 X, rel X → Q .normal (((((((a.put (some d1) v1).put (some d2) v2).put (some d3) v3).put (some d4) v4).put (some d5) v5).put (some d6) v6).put (some d7) v7) X)
    (h1 : (∀ v1 v2 v3 v4 v5 v6 v7 X, rel X → Q .normal (((((((a.put (some d1) v1).put (some d2) v2).put (some d3) v3).put (some d4) v4).put (some d5) v5).put (some d6) v6).put (some d7) v7) X) → c.wp P Q a w) : c.wp P Q a w := h1 h2
/-- where name.each has come to: the place, the labels, what it has put together -/
structure EachR (w : World) (N M : Nat) (x1 x2 : ByteArray) (b r : Int) (vo : Value) (n : Nat) (l : List Value) (X : World) : Prop where
  place : Blk X M 82 #[.int .i64 b, .int .i64 r]
  labels : Blk X N 9 #[.string x1, .string x2]
  below : Below N w X
  own : X.ownsRow (M + 1) 9 1 vo n l
  lt : N < M
section
variable {w X Y : World} {N M : Nat} {x1 x2 : ByteArray} {b r : Int} {vo : Value} {n : Nat} {l : List Value}
theorem EachR.grown (h : EachR w N M x1 x2 b r vo n l X) (hb : Below (M + 1) X Y) {vo' : Value} {n' : Nat} {l' : List Value} (ho : Y.ownsRow (M + 1) 9 1 vo' n' l') : EachR w N M x1 x2 b r vo' n' l' Y :=
  ⟨h.place.of (hb.block M (Nat.lt_succ_self M)), h.labels.of (hb.block N (Nat.lt_succ_of_lt h.lt)), h.below.trans (hb.mono (Nat.le_of_lt (Nat.lt_succ_of_lt h.lt))), ho, h.lt⟩
theorem EachR.new (h : EachR w N M x1 x2 b r vo n l X) (hb : Below X.heap.size X Y) : EachR w N M x1 x2 b r vo n l Y := h.grown (hb.mono h.place.lt) (own_new h.own hb)
theorem EachR.byte (h : EachR w N M x1 x2 b r vo n l X) (u : Int) : EachR w N M x1 x2 u r vo n l (X.setCell ⟨M, 0, none⟩ (.int .i64 u)) :=
  ⟨h.place.set_ 0 _, h.labels.of (Below.heap_setCell _ _ _ _ (Nat.ne_of_lt h.lt)), h.below.setCell (p := ⟨M, 0, none⟩) (Nat.le_of_lt h.lt) _, own_at h.own (Nat.lt_succ_self M) _, h.lt⟩
theorem EachR.rune (h : EachR w N M x1 x2 b r vo n l X) (u : Int) : EachR w N M x1 x2 b u vo n l (X.setCell ⟨M, 1, none⟩ (.int .i64 u)) :=
  ⟨h.place.set_ 1 _, h.labels.of (Below.heap_setCell _ _ _ _ (Nat.ne_of_lt h.lt)), h.below.setCell (p := ⟨M, 1, none⟩) (Nat.le_of_lt h.lt) _, own_at h.own (Nat.lt_succ_self M) _, h.lt⟩
theorem EachR.c0 (h : EachR w N M x1 x2 b r vo n l X) : X.cell? ⟨M, 0, none⟩ = some (.int .i64 b) := h.place.cell 0
theorem EachR.c1 (h : EachR w N M x1 x2 b r vo n l X) : X.cell? ⟨M, 1, none⟩ = some (.int .i64 r) := h.place.cell 1
theorem EachR.f0 (h : EachR w N M x1 x2 b r vo n l X) : X.frozen? ⟨M, 0, none⟩ = false := h.place.frozen 0
theorem EachR.f1 (h : EachR w N M x1 x2 b r vo n l X) : X.frozen? ⟨M, 1, none⟩ = false := h.place.frozen 1
theorem EachR.l0 (h : EachR w N M x1 x2 b r vo n l X) : X.cell? ⟨N, 0, none⟩ = some (.string x1) := h.labels.cell 0
theorem EachR.l1 (h : EachR w N M x1 x2 b r vo n l X) : X.cell? ⟨N, 1, none⟩ = some (.string x2) := h.labels.cell 1
end
set_option maxRecDepth 100000 in
set_option maxHeartbeats 16000000 in
theorem name_eachA {w : World} {s x1 x2 y1 y2 z : ByteArray} {cap : Value} {n1 n2 : Int} (hn1 : 0 ≤ n1) (hm1 : n1 ≤ 100) (hn2 : 0 ≤ n2) (hm2 : n2 ≤ 100) (hx1 : x1.size ≤ 100) (hx2 : x2.size ≤ 100)
    (hL : Calls Tryz.prog 88 #[.string s] w fun e w' => e = .returned (.slice (some ⟨w.heap.size, 0, none⟩) 2 2) ∧ w' = w.alloc (.cells #[.string x1, .string x2] 9))
    (hC1 : ∀ W, Calls Tryz.prog 89 #[.string x1] W fun e W' => e = .returned (.int .i64 n1) ∧ Below W.heap.size W W')
    (hC2 : ∀ W, Calls Tryz.prog 89 #[.string x2] W fun e W' => e = .returned (.int .i64 n2) ∧ Below W.heap.size W W')
    (hD1 : ∀ W, Below w.heap.size w W → Calls Tryz.prog 40 #[.string x1, cap] W fun e W' => e = .returned (.tuple #[.string y1, .nilIface]) ∧ Below W.heap.size W W')
    (hD2 : ∀ W, Below w.heap.size w W → Calls Tryz.prog 40 #[.string x2, cap] W fun e W' => e = .returned (.tuple #[.string y2, .nilIface]) ∧ Below W.heap.size W W')
    (hJ : ∀ W v, World.ownsRow W w.heap.size 9 1 v 2 [.string y1, .string y2] → Calls Tryz.prog 91 #[v] W fun e W' => e = .returned (.string z) ∧ Below W.heap.size W W') :
    Calls Tryz.prog 39 #[.string s, .func (.func 40) #[] #[cap]] w fun e w' => e = .returned (.tuple #[.string z, .nilIface]) ∧ Below w.heap.size w w' := by
  have HL := Lib.hid hL
  have HC1 := Lib.hid hC1
  have HC2 := Lib.hid hC2
  have HD1 := Lib.hid hD1
  have HD2 := Lib.hid hD2
  have HJ := Lib.hid hJ
  have HA := Lib.hid errors_As_nil
  clear hL hC1 hC2 hD1 hD2 hJ
  obtain ⟨i0, hi, hz0, hz1, hz2⟩ := info_parts info_str
  have hv1 : IntKind.i64.wrap (n1 + 1) = n1 + 1 := by rw [IntKind.wrap_i64]; omega
  have hv2 : IntKind.i64.wrap (n2 + 1) = n2 + 1 := by rw [IntKind.wrap_i64]; omega
  have hv3 : IntKind.i64.wrap (n1 + 1 + (n2 + 1)) = n1 + 1 + (n2 + 1) := by rw [IntKind.wrap_i64]; omega
  go_enter Tryz.func39, Tryz.ntmps39
  go_wp2_with (go_at_call 88; refine (HL.out).mono ?_; rintro e w1 ⟨rfl, hw1⟩; have k1 : Blk w1 w.heap.size 9 #[.string x1, .string x2] := (by rw [hw1]; exact Blk.new w _ _); have b1 : Below w.heap.size w w1 := (by rw [hw1]; exact (Below.refl _ w).alloc (Nat.le_refl _) _); clear hw1)
  obtain ⟨M, hM⟩ : ∃ M, w1.heap.size = M := ⟨_, rfl⟩
  obtain ⟨N, hN⟩ : ∃ N, w.heap.size = N := ⟨_, rfl⟩
  have ka := Blk.new w1 82 #[.int .i64 0, .int .i64 0]
  have kx := k1.alloc (.cells #[.int .i64 0, .int .i64 0] 82)
  have hb := b1.alloc b1.size (.cells #[.int .i64 0, .int .i64 0] 82)
  have hNM := k1.lt
  rw [hM] at ka hNM ⊢
  rw [hN] at kx hb hNM HD1 HD2 HJ ⊢
  generalize w1.alloc (.cells #[.int .i64 0, .int .i64 0] 82) = X1 at ka kx hb ⊢
  clear k1 b1 hM
  have HN := Lib.hid hN
  clear hN
  have H1 : Hid (EachR w N M x1 x2 0 0 (.slice none 0 0) 0 [] X1) := Lib.hid ⟨ka, kx, hb, World.ownsRow_nil _ _ _ _, hNM⟩
  clear ka kx hb
  refine wp_loop_rounds 3 ?_
  have c0 := H1.out.c0
  have c1 := H1.out.c1
  have f0 := H1.out.f0
  have f1 := H1.out.f1
  have l0 := H1.out.l0
  refine Eq.mpr rounds_succ ?_
  go_wp2_with fail
  have H2 := Lib.hid (H1.out.byte ((x1.size : Int) + 1))
  generalize X1.setCell ⟨M, 0, none⟩ (.int .i64 ((x1.size : Int) + 1)) = X2 at H2 ⊢
  clear c0 c1 f0 f1 l0 H1
  have c1 := H2.out.c1
  have f1 := H2.out.f1
  refine wp_aside7 (fun wx => Hid (EachR w N M x1 x2 ((x1.size : Int) + 1) (n1 + 1) (.slice none 0 0) 0 [] wx)) 39 40 41 42 43 44 45 ?_ ?_
  rotate_left
  · intro hrest
    simp only [Act.put, List.setIfInBounds_toArray, List.set_cons_succ, List.set_cons_zero] at hrest
    have HRe := Lib.hid hrest
    clear hrest
    go_region_with (go_at_call 89; refine (HC1.out _).mono ?_; rintro e w2 ⟨rfl, h2⟩; have k2 := H2.out.place.of (h2.block M H2.out.place.lt); have d1 := k2.cell 1; have g1 := k2.frozen 1; simp only [List.getElem?_toArray, List.getElem?_cons_succ, List.getElem?_cons_zero] at d1)
    all_goals exact HRe.out _ _ _ _ _ _ _ _ (Lib.hid (EachR.rune (EachR.new (X := X2) H2.out ⟨h2.os, h2.tape, h2.output, h2.size, h2.block⟩) _))
  · rintro v1 v2 v3 v4 v5 v6 v7 X3 H3
    simp only [Act.put, List.setIfInBounds_toArray, List.set_cons_succ, List.set_cons_zero]
    clear c1 f1 H2
    go_wp2_with fail
    have c0 := H3.out.c0
    have c1 := H3.out.c1
    have f0 := H3.out.f0
    have f1 := H3.out.f1
    have l1 := H3.out.l1
    refine Eq.mpr rounds_succ ?_
    go_wp2_with fail
    have H4 := Lib.hid (H3.out.byte ((x1.size : Int) + 1 + ((x2.size : Int) + 1)))
    generalize X3.setCell ⟨M, 0, none⟩ (.int .i64 ((x1.size : Int) + 1 + ((x2.size : Int) + 1))) = X4 at H4 ⊢
    clear c0 c1 f0 f1 l1 H3
    have c1 := H4.out.c1
    have f1 := H4.out.f1
    refine wp_aside7 (fun wx => Hid (EachR w N M x1 x2 ((x1.size : Int) + 1 + ((x2.size : Int) + 1)) (n1 + 1 + (n2 + 1)) (.slice none 0 0) 0 [] wx)) 39 40 41 42 43 44 45 ?_ ?_
    rotate_left
    · intro hrest
      simp only [Act.put, List.setIfInBounds_toArray, List.set_cons_succ, List.set_cons_zero] at hrest
      have HRe := Lib.hid hrest
      clear hrest
      go_region_with (go_at_call 89; refine (HC2.out _).mono ?_; rintro e w2 ⟨rfl, h2⟩; have k2 := H4.out.place.of (h2.block M H4.out.place.lt); have d1 := k2.cell 1; have g1 := k2.frozen 1; simp only [List.getElem?_toArray, List.getElem?_cons_succ, List.getElem?_cons_zero] at d1)
      all_goals exact HRe.out _ _ _ _ _ _ _ _ (Lib.hid (EachR.rune (EachR.new (X := X4) H4.out ⟨h2.os, h2.tape, h2.output, h2.size, h2.block⟩) _))
    · rintro v1 v2 v3 v4 v5 v6 v7 X5 H5
      simp only [Act.put, List.setIfInBounds_toArray, List.set_cons_succ, List.set_cons_zero]
      clear c1 f1 H4
      go_wp2_with fail
      have c0 := H5.out.c0
      have c1 := H5.out.c1
      have f0 := H5.out.f0
      have f1 := H5.out.f1
      refine Eq.mpr rounds_succ ?_
      go_wp2_with fail
      have H6 := Lib.hid ((H5.out.byte 0).rune 0)
      generalize (X5.setCell ⟨M, 0, none⟩ (.int .i64 0)).setCell ⟨M, 1, none⟩ (.int .i64 0) = X6 at H6 ⊢
      clear c0 c1 f0 f1 H5
      refine wp_loop_rounds 3 ?_
      have l0 := H6.out.l0
      refine Eq.mpr rounds_succ ?_
      go_wp2_with fail
      refine (HD1.out _ (by exact H6.out.below)).mono ?_
      rintro e X7 ⟨rfl, h⟩
      have H7 := Lib.hid (H6.out.new h)
      clear l0 h H6
      have hle : M + 1 ≤ X7.heap.size := H7.out.place.lt
      go_wp2_with (first
        | (go_at_call 90; refine (HA.out _ _).mono ?_; rintro e Y2 ⟨rfl, rfl⟩)
        | (at_builtin; refine wpList_append_own _ rfl _ _ 135 rfl (M + 1) 9 i0 _ 1 16 Tryz.underlying135 hi hz0 hz1 hz2 rfl (by decide) (.slice none 0 0) 0 [] rfl ((H7.out.own.alloc _).alloc _) ⟨X7.heap.size + 1, 0, none⟩ 1 1 [.string y1] rfl rfl (cells_new _ _ _ _ (by rw [World.size_alloc])) (by simp [Value.oneCell']) (by unfold maxLen; omega) (by omega) (by rw [World.size_alloc, World.size_alloc]; omega) ?_; intro o1 w5 hown hgrow _; have hb5 : Below (M + 1) X7 w5 := (((Below.refl _ X7).alloc hle _).alloc (by rw [World.size_alloc]; omega) _).grown hgrow (by rw [World.size_alloc, World.size_alloc]; omega) (fun k e => (H7.out.own.lt k e).1); have H5 := Lib.hid (H7.out.grown hb5 hown); have c0 := H5.out.c0; have f0 := H5.out.f0; clear hb5 hown hgrow))
      have H8 := Lib.hid (H5.out.byte ((x1.size : Int) + 1))
      generalize w5.setCell ⟨M, 0, none⟩ (.int .i64 ((x1.size : Int) + 1)) = X8 at H8 ⊢
      clear c0 f0 H5 H7 hle
      have c1 := H8.out.c1
      have f1 := H8.out.f1
      refine wp_aside7 (fun wx => Hid (EachR w N M x1 x2 ((x1.size : Int) + 1) (n1 + 1) o1 1 [.string y1] wx)) 100 101 102 103 104 105 106 ?_ ?_
      rotate_left
      · intro hrest
        simp only [Act.put, List.setIfInBounds_toArray, List.set_cons_succ, List.set_cons_zero] at hrest
        have HRe := Lib.hid hrest
        clear hrest
        go_region_with (go_at_call 89; refine (HC1.out _).mono ?_; rintro e w2 ⟨rfl, h2⟩; have k2 := H8.out.place.of (h2.block M H8.out.place.lt); have d1 := k2.cell 1; have g1 := k2.frozen 1; simp only [List.getElem?_toArray, List.getElem?_cons_succ, List.getElem?_cons_zero] at d1)
        all_goals exact HRe.out _ _ _ _ _ _ _ _ (Lib.hid (EachR.rune (EachR.new (X := X8) H8.out ⟨h2.os, h2.tape, h2.output, h2.size, h2.block⟩) _))
      · rintro v1 v2 v3 v4 v5 v6 v7 X9 H9
        simp only [Act.put, List.setIfInBounds_toArray, List.set_cons_succ, List.set_cons_zero]
        clear c1 f1 H8
        go_wp2_with fail
        have l1 := H9.out.l1
        refine Eq.mpr rounds_succ ?_
        go_wp2_with fail
        refine (HD2.out _ (by exact H9.out.below)).mono ?_
        rintro e X10 ⟨rfl, h⟩
        have H10 := Lib.hid (H9.out.new h)
        clear l1 h H9
        have hle : M + 1 ≤ X10.heap.size := H10.out.place.lt
        go_wp2_with (first
          | (go_at_call 90; refine (HA.out _ _).mono ?_; rintro e Y2 ⟨rfl, rfl⟩)
          | (at_builtin; refine wpList_append_own _ rfl _ _ 135 rfl (M + 1) 9 i0 _ 1 16 Tryz.underlying135 hi hz0 hz1 hz2 rfl (by decide) o1 1 [.string y1] rfl ((H10.out.own.alloc _).alloc _) ⟨X10.heap.size + 1, 0, none⟩ 1 1 [.string y2] rfl rfl (cells_new _ _ _ _ (by rw [World.size_alloc])) (by simp [Value.oneCell']) (by unfold maxLen; omega) (by omega) (by rw [World.size_alloc, World.size_alloc]; omega) ?_; intro o2 w5 hown hgrow _; have hb5 : Below (M + 1) X10 w5 := (((Below.refl _ X10).alloc hle _).alloc (by rw [World.size_alloc]; omega) _).grown hgrow (by rw [World.size_alloc, World.size_alloc]; omega) (fun k e => (H10.out.own.lt k e).1); have H5 := Lib.hid (H10.out.grown hb5 hown); have c0 := H5.out.c0; have f0 := H5.out.f0; clear hb5 hown hgrow))
        have H11 := Lib.hid (H5.out.byte ((x1.size : Int) + 1 + ((x2.size : Int) + 1)))
        generalize w5.setCell ⟨M, 0, none⟩ (.int .i64 ((x1.size : Int) + 1 + ((x2.size : Int) + 1))) = X11 at H11 ⊢
        clear c0 f0 H5 H10 hle
        have c1 := H11.out.c1
        have f1 := H11.out.f1
        refine wp_aside7 (fun wx => Hid (EachR w N M x1 x2 ((x1.size : Int) + 1 + ((x2.size : Int) + 1)) (n1 + 1 + (n2 + 1)) o2 2 [.string y1, .string y2] wx)) 100 101 102 103 104 105 106 ?_ ?_
        rotate_left
        · intro hrest
          simp only [Act.put, List.setIfInBounds_toArray, List.set_cons_succ, List.set_cons_zero] at hrest
          have HRe := Lib.hid hrest
          clear hrest
          go_region_with (go_at_call 89; refine (HC2.out _).mono ?_; rintro e w2 ⟨rfl, h2⟩; have k2 := H11.out.place.of (h2.block M H11.out.place.lt); have d1 := k2.cell 1; have g1 := k2.frozen 1; simp only [List.getElem?_toArray, List.getElem?_cons_succ, List.getElem?_cons_zero] at d1)
          all_goals exact HRe.out _ _ _ _ _ _ _ _ (Lib.hid (EachR.rune (EachR.new (X := X11) H11.out ⟨h2.os, h2.tape, h2.output, h2.size, h2.block⟩) _))
        · rintro v1 v2 v3 v4 v5 v6 v7 X12 H12
          simp only [Act.put, List.setIfInBounds_toArray, List.set_cons_succ, List.set_cons_zero]
          clear c1 f1 H11
          go_wp2_with fail
          refine Eq.mpr rounds_succ ?_
          go_wp2_with (go_at_call 91; refine (HJ.out _ _ (by exact own_base H12.out.own (by have := H12.out.lt; omega))).mono ?_; rintro e w9 ⟨rfl, h9⟩)
          refine bodyPost_ret (v := .tuple #[.string z, .nilIface]) (by simp [results, Tryz.results39, go_sem]) rfl ⟨rfl, by rw [HN.out]; exact (H12.out.new h9).below⟩
set_option maxRecDepth 100000 in
set_option maxHeartbeats 16000000 in
theorem name_eachU {w : World} {s x1 x2 y1 y2 z : ByteArray} {cap : Value} {n1 n2 : Int} (hn1 : 0 ≤ n1) (hm1 : n1 ≤ 100) (hn2 : 0 ≤ n2) (hm2 : n2 ≤ 100) (hx1 : x1.size ≤ 100) (hx2 : x2.size ≤ 100)
    (hL : Calls Tryz.prog 88 #[.string s] w fun e w' => e = .returned (.slice (some ⟨w.heap.size, 0, none⟩) 2 2) ∧ w' = w.alloc (.cells #[.string x1, .string x2] 9))
    (hC1 : ∀ W, Calls Tryz.prog 89 #[.string x1] W fun e W' => e = .returned (.int .i64 n1) ∧ Below W.heap.size W W')
    (hC2 : ∀ W, Calls Tryz.prog 89 #[.string x2] W fun e W' => e = .returned (.int .i64 n2) ∧ Below W.heap.size W W')
    (hD1 : ∀ W, Below w.heap.size w W → Calls Tryz.prog 42 #[.string x1, cap] W fun e W' => e = .returned (.tuple #[.string y1, .nilIface]) ∧ Below W.heap.size W W')
    (hD2 : ∀ W, Below w.heap.size w W → Calls Tryz.prog 42 #[.string x2, cap] W fun e W' => e = .returned (.tuple #[.string y2, .nilIface]) ∧ Below W.heap.size W W')
    (hJ : ∀ W v, World.ownsRow W w.heap.size 9 1 v 2 [.string y1, .string y2] → Calls Tryz.prog 91 #[v] W fun e W' => e = .returned (.string z) ∧ Below W.heap.size W W') :
    Calls Tryz.prog 39 #[.string s, .func (.func 42) #[] #[cap]] w fun e w' => e = .returned (.tuple #[.string z, .nilIface]) ∧ Below w.heap.size w w' := by
  have HL := Lib.hid hL
  have HC1 := Lib.hid hC1
  have HC2 := Lib.hid hC2
  have HD1 := Lib.hid hD1
  have HD2 := Lib.hid hD2
  have HJ := Lib.hid hJ
  have HA := Lib.hid errors_As_nil
  clear hL hC1 hC2 hD1 hD2 hJ
  obtain ⟨i0, hi, hz0, hz1, hz2⟩ := info_parts info_str
  have hv1 : IntKind.i64.wrap (n1 + 1) = n1 + 1 := by rw [IntKind.wrap_i64]; omega
  have hv2 : IntKind.i64.wrap (n2 + 1) = n2 + 1 := by rw [IntKind.wrap_i64]; omega
  have hv3 : IntKind.i64.wrap (n1 + 1 + (n2 + 1)) = n1 + 1 + (n2 + 1) := by rw [IntKind.wrap_i64]; omega
  go_enter Tryz.func39, Tryz.ntmps39
  go_wp2_with (go_at_call 88; refine (HL.out).mono ?_; rintro e w1 ⟨rfl, hw1⟩; have k1 : Blk w1 w.heap.size 9 #[.string x1, .string x2] := (by rw [hw1]; exact Blk.new w _ _); have b1 : Below w.heap.size w w1 := (by rw [hw1]; exact (Below.refl _ w).alloc (Nat.le_refl _) _); clear hw1)
  obtain ⟨M, hM⟩ : ∃ M, w1.heap.size = M := ⟨_, rfl⟩
  obtain ⟨N, hN⟩ : ∃ N, w.heap.size = N := ⟨_, rfl⟩
  have ka := Blk.new w1 82 #[.int .i64 0, .int .i64 0]
  have kx := k1.alloc (.cells #[.int .i64 0, .int .i64 0] 82)
  have hb := b1.alloc b1.size (.cells #[.int .i64 0, .int .i64 0] 82)
  have hNM := k1.lt
  rw [hM] at ka hNM ⊢
  rw [hN] at kx hb hNM HD1 HD2 HJ ⊢
  generalize w1.alloc (.cells #[.int .i64 0, .int .i64 0] 82) = X1 at ka kx hb ⊢
  clear k1 b1 hM
  have HN := Lib.hid hN
  clear hN
  have H1 : Hid (EachR w N M x1 x2 0 0 (.slice none 0 0) 0 [] X1) := Lib.hid ⟨ka, kx, hb, World.ownsRow_nil _ _ _ _, hNM⟩
  clear ka kx hb
  refine wp_loop_rounds 3 ?_
  have c0 := H1.out.c0
  have c1 := H1.out.c1
  have f0 := H1.out.f0
  have f1 := H1.out.f1
  have l0 := H1.out.l0
  refine Eq.mpr rounds_succ ?_
  go_wp2_with fail
  have H2 := Lib.hid (H1.out.byte ((x1.size : Int) + 1))
  generalize X1.setCell ⟨M, 0, none⟩ (.int .i64 ((x1.size : Int) + 1)) = X2 at H2 ⊢
  clear c0 c1 f0 f1 l0 H1
  have c1 := H2.out.c1
  have f1 := H2.out.f1
  refine wp_aside7 (fun wx => Hid (EachR w N M x1 x2 ((x1.size : Int) + 1) (n1 + 1) (.slice none 0 0) 0 [] wx)) 39 40 41 42 43 44 45 ?_ ?_
  rotate_left
  · intro hrest
    simp only [Act.put, List.setIfInBounds_toArray, List.set_cons_succ, List.set_cons_zero] at hrest
    have HRe := Lib.hid hrest
    clear hrest
    go_region_with (go_at_call 89; refine (HC1.out _).mono ?_; rintro e w2 ⟨rfl, h2⟩; have k2 := H2.out.place.of (h2.block M H2.out.place.lt); have d1 := k2.cell 1; have g1 := k2.frozen 1; simp only [List.getElem?_toArray, List.getElem?_cons_succ, List.getElem?_cons_zero] at d1)
    all_goals exact HRe.out _ _ _ _ _ _ _ _ (Lib.hid (EachR.rune (EachR.new (X := X2) H2.out ⟨h2.os, h2.tape, h2.output, h2.size, h2.block⟩) _))
  · rintro v1 v2 v3 v4 v5 v6 v7 X3 H3
    simp only [Act.put, List.setIfInBounds_toArray, List.set_cons_succ, List.set_cons_zero]
    clear c1 f1 H2
    go_wp2_with fail
    have c0 := H3.out.c0
    have c1 := H3.out.c1
    have f0 := H3.out.f0
    have f1 := H3.out.f1
    have l1 := H3.out.l1
    refine Eq.mpr rounds_succ ?_
    go_wp2_with fail
    have H4 := Lib.hid (H3.out.byte ((x1.size : Int) + 1 + ((x2.size : Int) + 1)))
    generalize X3.setCell ⟨M, 0, none⟩ (.int .i64 ((x1.size : Int) + 1 + ((x2.size : Int) + 1))) = X4 at H4 ⊢
    clear c0 c1 f0 f1 l1 H3
    have c1 := H4.out.c1
    have f1 := H4.out.f1
    refine wp_aside7 (fun wx => Hid (EachR w N M x1 x2 ((x1.size : Int) + 1 + ((x2.size : Int) + 1)) (n1 + 1 + (n2 + 1)) (.slice none 0 0) 0 [] wx)) 39 40 41 42 43 44 45 ?_ ?_
    rotate_left
    · intro hrest
      simp only [Act.put, List.setIfInBounds_toArray, List.set_cons_succ, List.set_cons_zero] at hrest
      have HRe := Lib.hid hrest
      clear hrest
      go_region_with (go_at_call 89; refine (HC2.out _).mono ?_; rintro e w2 ⟨rfl, h2⟩; have k2 := H4.out.place.of (h2.block M H4.out.place.lt); have d1 := k2.cell 1; have g1 := k2.frozen 1; simp only [List.getElem?_toArray, List.getElem?_cons_succ, List.getElem?_cons_zero] at d1)
      all_goals exact HRe.out _ _ _ _ _ _ _ _ (Lib.hid (EachR.rune (EachR.new (X := X4) H4.out ⟨h2.os, h2.tape, h2.output, h2.size, h2.block⟩) _))
    · rintro v1 v2 v3 v4 v5 v6 v7 X5 H5
      simp only [Act.put, List.setIfInBounds_toArray, List.set_cons_succ, List.set_cons_zero]
      clear c1 f1 H4
      go_wp2_with fail
      have c0 := H5.out.c0
      have c1 := H5.out.c1
      have f0 := H5.out.f0
      have f1 := H5.out.f1
      refine Eq.mpr rounds_succ ?_
      go_wp2_with fail
      have H6 := Lib.hid ((H5.out.byte 0).rune 0)
      generalize (X5.setCell ⟨M, 0, none⟩ (.int .i64 0)).setCell ⟨M, 1, none⟩ (.int .i64 0) = X6 at H6 ⊢
      clear c0 c1 f0 f1 H5
      refine wp_loop_rounds 3 ?_
      have l0 := H6.out.l0
      refine Eq.mpr rounds_succ ?_
      go_wp2_with fail
      refine (HD1.out _ (by exact H6.out.below)).mono ?_
      rintro e X7 ⟨rfl, h⟩
      have H7 := Lib.hid (H6.out.new h)
      clear l0 h H6
      have hle : M + 1 ≤ X7.heap.size := H7.out.place.lt
      go_wp2_with (first
        | (go_at_call 90; refine (HA.out _ _).mono ?_; rintro e Y2 ⟨rfl, rfl⟩)
        | (at_builtin; refine wpList_append_own _ rfl _ _ 135 rfl (M + 1) 9 i0 _ 1 16 Tryz.underlying135 hi hz0 hz1 hz2 rfl (by decide) (.slice none 0 0) 0 [] rfl ((H7.out.own.alloc _).alloc _) ⟨X7.heap.size + 1, 0, none⟩ 1 1 [.string y1] rfl rfl (cells_new _ _ _ _ (by rw [World.size_alloc])) (by simp [Value.oneCell']) (by unfold maxLen; omega) (by omega) (by rw [World.size_alloc, World.size_alloc]; omega) ?_; intro o1 w5 hown hgrow _; have hb5 : Below (M + 1) X7 w5 := (((Below.refl _ X7).alloc hle _).alloc (by rw [World.size_alloc]; omega) _).grown hgrow (by rw [World.size_alloc, World.size_alloc]; omega) (fun k e => (H7.out.own.lt k e).1); have H5 := Lib.hid (H7.out.grown hb5 hown); have c0 := H5.out.c0; have f0 := H5.out.f0; clear hb5 hown hgrow))
      have H8 := Lib.hid (H5.out.byte ((x1.size : Int) + 1))
      generalize w5.setCell ⟨M, 0, none⟩ (.int .i64 ((x1.size : Int) + 1)) = X8 at H8 ⊢
      clear c0 f0 H5 H7 hle
      have c1 := H8.out.c1
      have f1 := H8.out.f1
      refine wp_aside7 (fun wx => Hid (EachR w N M x1 x2 ((x1.size : Int) + 1) (n1 + 1) o1 1 [.string y1] wx)) 100 101 102 103 104 105 106 ?_ ?_
      rotate_left
      · intro hrest
        simp only [Act.put, List.setIfInBounds_toArray, List.set_cons_succ, List.set_cons_zero] at hrest
        have HRe := Lib.hid hrest
        clear hrest
        go_region_with (go_at_call 89; refine (HC1.out _).mono ?_; rintro e w2 ⟨rfl, h2⟩; have k2 := H8.out.place.of (h2.block M H8.out.place.lt); have d1 := k2.cell 1; have g1 := k2.frozen 1; simp only [List.getElem?_toArray, List.getElem?_cons_succ, List.getElem?_cons_zero] at d1)
        all_goals exact HRe.out _ _ _ _ _ _ _ _ (Lib.hid (EachR.rune (EachR.new (X := X8) H8.out ⟨h2.os, h2.tape, h2.output, h2.size, h2.block⟩) _))
      · rintro v1 v2 v3 v4 v5 v6 v7 X9 H9
        simp only [Act.put, List.setIfInBounds_toArray, List.set_cons_succ, List.set_cons_zero]
        clear c1 f1 H8
        go_wp2_with fail
        have l1 := H9.out.l1
        refine Eq.mpr rounds_succ ?_
        go_wp2_with fail
        refine (HD2.out _ (by exact H9.out.below)).mono ?_
        rintro e X10 ⟨rfl, h⟩
        have H10 := Lib.hid (H9.out.new h)
        clear l1 h H9
        have hle : M + 1 ≤ X10.heap.size := H10.out.place.lt
        go_wp2_with (first
          | (go_at_call 90; refine (HA.out _ _).mono ?_; rintro e Y2 ⟨rfl, rfl⟩)
          | (at_builtin; refine wpList_append_own _ rfl _ _ 135 rfl (M + 1) 9 i0 _ 1 16 Tryz.underlying135 hi hz0 hz1 hz2 rfl (by decide) o1 1 [.string y1] rfl ((H10.out.own.alloc _).alloc _) ⟨X10.heap.size + 1, 0, none⟩ 1 1 [.string y2] rfl rfl (cells_new _ _ _ _ (by rw [World.size_alloc])) (by simp [Value.oneCell']) (by unfold maxLen; omega) (by omega) (by rw [World.size_alloc, World.size_alloc]; omega) ?_; intro o2 w5 hown hgrow _; have hb5 : Below (M + 1) X10 w5 := (((Below.refl _ X10).alloc hle _).alloc (by rw [World.size_alloc]; omega) _).grown hgrow (by rw [World.size_alloc, World.size_alloc]; omega) (fun k e => (H10.out.own.lt k e).1); have H5 := Lib.hid (H10.out.grown hb5 hown); have c0 := H5.out.c0; have f0 := H5.out.f0; clear hb5 hown hgrow))
        have H11 := Lib.hid (H5.out.byte ((x1.size : Int) + 1 + ((x2.size : Int) + 1)))
        generalize w5.setCell ⟨M, 0, none⟩ (.int .i64 ((x1.size : Int) + 1 + ((x2.size : Int) + 1))) = X11 at H11 ⊢
        clear c0 f0 H5 H10 hle
        have c1 := H11.out.c1
        have f1 := H11.out.f1
        refine wp_aside7 (fun wx => Hid (EachR w N M x1 x2 ((x1.size : Int) + 1 + ((x2.size : Int) + 1)) (n1 + 1 + (n2 + 1)) o2 2 [.string y1, .string y2] wx)) 100 101 102 103 104 105 106 ?_ ?_
        rotate_left
        · intro hrest
          simp only [Act.put, List.setIfInBounds_toArray, List.set_cons_succ, List.set_cons_zero] at hrest
          have HRe := Lib.hid hrest
          clear hrest
          go_region_with (go_at_call 89; refine (HC2.out _).mono ?_; rintro e w2 ⟨rfl, h2⟩; have k2 := H11.out.place.of (h2.block M H11.out.place.lt); have d1 := k2.cell 1; have g1 := k2.frozen 1; simp only [List.getElem?_toArray, List.getElem?_cons_succ, List.getElem?_cons_zero] at d1)
          all_goals exact HRe.out _ _ _ _ _ _ _ _ (Lib.hid (EachR.rune (EachR.new (X := X11) H11.out ⟨h2.os, h2.tape, h2.output, h2.size, h2.block⟩) _))
        · rintro v1 v2 v3 v4 v5 v6 v7 X12 H12
          simp only [Act.put, List.setIfInBounds_toArray, List.set_cons_succ, List.set_cons_zero]
          clear c1 f1 H11
          go_wp2_with fail
          refine Eq.mpr rounds_succ ?_
          go_wp2_with (go_at_call 91; refine (HJ.out _ _ (by exact own_base H12.out.own (by have := H12.out.lt; omega))).mono ?_; rintro e w9 ⟨rfl, h9⟩)
          refine bodyPost_ret (v := .tuple #[.string z, .nilIface]) (by simp [results, Tryz.results39, go_sem]) rfl ⟨rfl, by rw [HN.out]; exact (H12.out.new h9).below⟩

end
section
open Go.RowKit Go.Shelf
set_option linter.unusedVariables false
set_option maxHeartbeats 1000000 in
theorem labels_2 {s x1 x2 : ByteArray} (hs : s.size ≤ 1000) (hc : Lib.countB s ⟨#[46]⟩ = 1) (hsp : Lib.splitB ⟨#[46]⟩ 0 1 s = [x1, x2]) {w : World} {m : Int} (hm : w.cell? ⟨3, 0, none⟩ = some (.int .i64 m)) :
    Calls Tryz.prog 88 #[.string s] w fun e w' => e = .returned (.slice (some ⟨w.heap.size, 0, none⟩) 2 2) ∧ w' = w.alloc (.cells #[.string x1, .string x2] 9) := by
  have h := Tryz.strings_Split s ⟨#[46]⟩ m w (by omega) hm (by decide)
  rw [hc, hsp] at h
  have HS := Lib.hid h
  clear h hm
  go_enter Tryz.func88, Tryz.ntmps88
  go_wp2_with (go_at_call 128; refine (HS.out).mono ?_; rintro e w1 ⟨rfl, rfl⟩)
  go_ret
  exact ⟨rfl, rfl⟩
set_option maxHeartbeats 1000000 in
theorem join_2 {y1 y2 z : ByteArray} (hz : Lib.join ([y1, y2].map (·.data.toList)) (⟨#[46]⟩ : ByteArray).data.toList = z.data.toList) (hs : z.size ≤ 1000) {w : World} {base : Nat} {v : Value} (hown : w.ownsRow base 9 1 v 2 [.string y1, .string y2]) :
    Calls Tryz.prog 91 #[v] w fun e w' => e = .returned (.string z) ∧ Below w.heap.size w w' := by
  obtain ⟨A, c, rfl, hA⟩ := own_form hown
  obtain ⟨g, rfl, hbg, hg, hcl⟩ := hA (by omega)
  have hcap : 2 ≤ c := by
    rcases hown.2 with ⟨_, h0⟩ | ⟨g', cap, cur, hv, _, _, hn, _⟩
    · omega
    · injection hv with _ _ hv; omega
  have h := Tryz.strings_Join g 0 c [y1, y2] ⟨#[46]⟩ w (fun j x hj => by
    rw [Nat.zero_add]
    match j, hj with
    | 0, hj => cases hj; exact hcl 0 (by omega)
    | 1, hj => cases hj; exact hcl 1 (by omega)
    | n + 2, hj => simp at hj) hg (by simp) hcap (by rw [hz]; simp; omega)
  rw [hz] at h
  have HJ := Lib.hid h
  clear h hown hA hcl
  go_enter Tryz.func91, Tryz.ntmps91
  go_wp2_with (go_at_call 133; refine (HJ.out).mono ?_; rintro e w1 ⟨rfl, h1⟩)
  go_ret
  exact ⟨by rfl, h1⟩
set_option maxHeartbeats 1000000 in
theorem do_A {w : World} {b bx : Nat} {s : ByteArray} (h : GoodL s) (hb : Blk w bx 29 #[.pointer (some ⟨b, 0, none⟩)]) (hK : Bk w b houseT) (hR : RightT houseT) (hI : InOrder houseT.allowed) :
    Calls Tryz.prog 40 #[.string s, .pointer (some ⟨bx, 0, none⟩)] w fun e w' => e = .returned (.tuple #[.string (formL s), .nilIface]) ∧ Below w.heap.size w w' := by
  have HC := Lib.hid (label_ASCII h hK hR hI)
  have c0 := hb.cell 0
  simp only [List.getElem?_toArray, List.getElem?_cons_zero] at c0
  clear h hK hR hI hb
  go_enter Tryz.func40, Tryz.ntmps40
  go_wp2_with (go_at_call 41; refine (HC.out).mono ?_; rintro e w1 ⟨rfl, h1⟩)
  refine bodyPost_ret (v := .tuple #[.string (formL s), .nilIface]) (by simp [results, Tryz.results40, go_sem]) rfl ⟨rfl, h1⟩
set_option maxHeartbeats 1000000 in
theorem do_U {w : World} {b bx : Nat} {s : ByteArray} (h : GoodL s) (hb : Blk w bx 29 #[.pointer (some ⟨b, 0, none⟩)]) (hK : Bk w b houseT) (hR : RightT houseT) (hI : InOrder houseT.allowed) :
    Calls Tryz.prog 42 #[.string (formL s), .pointer (some ⟨bx, 0, none⟩)] w fun e w' => e = .returned (.tuple #[.string s, .nilIface]) ∧ Below w.heap.size w w' := by
  have HC := Lib.hid (label_Unicode h hK hR hI)
  have c0 := hb.cell 0
  simp only [List.getElem?_toArray, List.getElem?_cons_zero] at c0
  clear h hK hR hI hb
  go_enter Tryz.func42, Tryz.ntmps42
  go_wp2_with (go_at_call 43; refine (HC.out).mono ?_; rintro e w1 ⟨rfl, h1⟩)
  refine bodyPost_ret (v := .tuple #[.string s, .nilIface]) (by simp [results, Tryz.results42, go_sem]) rfl ⟨rfl, h1⟩
theorem count_n {s : ByteArray} {n : Int} (hs : s.size ≤ 1000) (hn : ((rn s).length : Int) = n) (W : World) : Calls Tryz.prog 89 #[.string s] W fun e W' => e = .returned (.int .i64 n) ∧ Below W.heap.size W W' := by
  rw [← hn]; exact utf_Count s W (by omega)
theorem cell_below {X Y : World} {n g i : Nat} {v : Value} (h : X.cell? ⟨g, i, none⟩ = some v) (hb : Below n X Y) (hg : g < n) : Y.cell? ⟨g, i, none⟩ = some v := (hb.cell (p := ⟨g, i, none⟩) hg).trans h
set_option maxHeartbeats 2000000 in
theorem name_ASCII {w : World} {b : Nat} {m : Int} (hm : w.cell? ⟨3, 0, none⟩ = some (.int .i64 m)) (h3 : 3 < w.heap.size) (hK : Bk w b houseT) (hR : RightT houseT) (hI : InOrder houseT.allowed) :
    Calls Tryz.prog 13 #[.pointer (some ⟨b, 0, none⟩), .string ⟨#[195, 169, 97, 46, 98]⟩] w fun e w' => e = .returned (.tuple #[.string ⟨#[120, 113, 45, 45, 97, 45, 103, 103, 46, 98]⟩, .nilIface]) ∧ Below w.heap.size w w' := by
  have hb1 : Below w.heap.size w (w.alloc (.cells #[.pointer (some ⟨b, 0, none⟩)] 29)) := (Below.refl _ w).alloc (Nat.le_refl _) _
  have kb := Blk.new w 29 #[.pointer (some ⟨b, 0, none⟩)]
  have HE := Lib.hid (name_eachA (w := w.alloc (.cells #[.pointer (some ⟨b, 0, none⟩)] 29)) (s := ⟨#[195, 169, 97, 46, 98]⟩) (x1 := ⟨#[195, 169, 97]⟩) (x2 := ⟨#[98]⟩) (y1 := ⟨#[120, 113, 45, 45, 97, 45, 103, 103]⟩) (y2 := ⟨#[98]⟩) (z := ⟨#[120, 113, 45, 45, 97, 45, 103, 103, 46, 98]⟩) (cap := .pointer (some ⟨w.heap.size, 0, none⟩)) (n1 := 2) (n2 := 1) (by decide) (by decide) (by decide) (by decide) (by decide) (by decide)
    (labels_2 (by decide) (by decide +kernel) (by decide +kernel) (cell_below hm hb1 h3))
    (count_n (by decide) (by decide +kernel)) (count_n (by decide) (by decide +kernel))
    (fun W hW => by have h := do_A (.inl rfl) (kb.below hW) ((hK.below hb1).below hW) hR hI; rw [show formL ⟨#[195, 169, 97]⟩ = ⟨#[120, 113, 45, 45, 97, 45, 103, 103]⟩ by decide] at h; exact h)
    (fun W hW => by have h := do_A (.inr rfl) (kb.below hW) ((hK.below hb1).below hW) hR hI; rw [show formL ⟨#[98]⟩ = ⟨#[98]⟩ by decide] at h; exact h)
    (fun W v hv => join_2 (by decide +kernel) (by decide) hv))
  clear hm hK hR hI kb
  go_enter Tryz.func13, Tryz.ntmps13
  go_wp2_with (go_at_call 39; refine (HE.out).mono ?_; rintro e w1 ⟨rfl, h1⟩)
  refine bodyPost_ret (v := .tuple #[.string ⟨#[120, 113, 45, 45, 97, 45, 103, 103, 46, 98]⟩, .nilIface]) (by simp [results, Tryz.results13, go_sem]) rfl ⟨rfl, hb1.trans (h1.mono (by simp))⟩
set_option maxHeartbeats 2000000 in
theorem name_Unicode {w : World} {b : Nat} {m : Int} (hm : w.cell? ⟨3, 0, none⟩ = some (.int .i64 m)) (h3 : 3 < w.heap.size) (hK : Bk w b houseT) (hR : RightT houseT) (hI : InOrder houseT.allowed) :
    Calls Tryz.prog 14 #[.pointer (some ⟨b, 0, none⟩), .string ⟨#[120, 113, 45, 45, 97, 45, 103, 103, 46, 98]⟩] w fun e w' => e = .returned (.tuple #[.string ⟨#[195, 169, 97, 46, 98]⟩, .nilIface]) ∧ Below w.heap.size w w' := by
  have hb1 : Below w.heap.size w (w.alloc (.cells #[.pointer (some ⟨b, 0, none⟩)] 29)) := (Below.refl _ w).alloc (Nat.le_refl _) _
  have kb := Blk.new w 29 #[.pointer (some ⟨b, 0, none⟩)]
  have HE := Lib.hid (name_eachU (w := w.alloc (.cells #[.pointer (some ⟨b, 0, none⟩)] 29)) (s := ⟨#[120, 113, 45, 45, 97, 45, 103, 103, 46, 98]⟩) (x1 := ⟨#[120, 113, 45, 45, 97, 45, 103, 103]⟩) (x2 := ⟨#[98]⟩) (y1 := ⟨#[195, 169, 97]⟩) (y2 := ⟨#[98]⟩) (z := ⟨#[195, 169, 97, 46, 98]⟩) (cap := .pointer (some ⟨w.heap.size, 0, none⟩)) (n1 := 8) (n2 := 1) (by decide) (by decide) (by decide) (by decide) (by decide) (by decide)
    (labels_2 (by decide) (by decide +kernel) (by decide +kernel) (cell_below hm hb1 h3))
    (count_n (by decide) (by decide +kernel)) (count_n (by decide) (by decide +kernel))
    (fun W hW => by have h := do_U (.inl rfl) (kb.below hW) ((hK.below hb1).below hW) hR hI; rw [show formL ⟨#[195, 169, 97]⟩ = ⟨#[120, 113, 45, 45, 97, 45, 103, 103]⟩ by decide] at h; exact h)
    (fun W hW => by have h := do_U (.inr rfl) (kb.below hW) ((hK.below hb1).below hW) hR hI; rw [show formL ⟨#[98]⟩ = ⟨#[98]⟩ by decide] at h; exact h)
    (fun W v hv => join_2 (by decide +kernel) (by decide) hv))
  clear hm hK hR hI kb
  go_enter Tryz.func14, Tryz.ntmps14
  go_wp2_with (go_at_call 39; refine (HE.out).mono ?_; rintro e w1 ⟨rfl, h1⟩)
  refine bodyPost_ret (v := .tuple #[.string ⟨#[195, 169, 97, 46, 98]⟩, .nilIface]) (by simp [results, Tryz.results14, go_sem]) rfl ⟨rfl, hb1.trans (h1.mono (by simp))⟩

end
end Go.Proofs.YtjmkdimbbacnfaaGreatDoor
