/- Walk: guiselaw1.UtfRunes: texts of at most 1048576 bytes, under the two tables of unicode/utf8. -/
import Derived.Test.YtkenffbonnbflaaDoorBookP
import Derived.Test.YtkenffbonnbflaaDoorValidU
namespace Go.Proofs.YtkenffbonnbflaaDoor
open Go.RowKit
set_option linter.unusedVariables false

/-- a list in new memory -/
def FreshR (w w' : World) (A : Option Addr) (c : Nat) (ns : List Int) : Prop := EntR w' A c ns ∧ c ≤ 9223372036854775807 ∧ ∀ g, A = some ⟨g, 0, none⟩ → w.heap.size ≤ g
set_option maxHeartbeats 1000000 in
theorem utfRunesE (s : ByteArray) (w : World) (hs : s.size ≤ 1048576) :
    Calls Tryd.prog 26 #[.string s] w fun e w' => (∃ A c, e = .returned (.slice A (nS s) c) ∧ FreshR w w' A c (runesI s.data.toList)) ∧ Below w.heap.size w w' := by
  have hcv := fun w => conv_to_runes s w (by omega)
  have hns := nS_le s
  have hge := grownCap_ge w (nS s) 0 21
  have hle := grownCap_le_maxLen w (nS s) 0 21 (by unfold maxLen; omega)
  have HR : Hid (FreshR w (w.drew.alloc (.cells (rowR s (grownCap w (nS s) 0 21)) 21)) (some ⟨w.heap.size, 0, none⟩) (grownCap w (nS s) 0 21) (runesI s.data.toList)) := Lib.hid (by
    refine ⟨⟨rowR_runes s _ w, .inr ⟨w.heap.size, _, rfl, Blk.new w.drew _ _, ?_, ?_⟩⟩, ?_, ?_⟩
    · unfold rowR; simp [runesI_nS]; omega
    · rw [runesI_nS]; exact hge
    · unfold maxLen at hle; omega
    · intro g hg
      cases hg
      exact Nat.le_refl _)
  clear hge hle
  go_enter Tryd.func26, Tryd.ntmps26
  go_wp2
  go_ret
  exact ⟨⟨_, _, rfl, HR.out⟩, ((Below.refl _ w).drew).alloc (Nat.le_refl _) _⟩

def NewR (base : Nat) (A : Option Addr) (c : Nat) : Prop := c ≤ 9223372036854775807 ∧ ∀ g, A = some ⟨g, 0, none⟩ → base ≤ g
/-- the book while lists are kept -/
def StateR (wr : World) (base B : Nat) (ns : List Int) (k : Nat) : Prop :=
  (k = 0 ∧ KeepR wr base B (.slice none 0 0) (.slice none 0 0) 0 [] [] ns) ∨
  (k = 1 ∧ ∃ vl vw hd A c V, KeepR wr base B vl vw hd [(A, c)] V ns ∧ V.length = 1 ∧ NewR base A c) ∨
  (k = 2 ∧ ∃ gl ol cl gw ow cw hd m A C V D, BookR wr B gl ol cl gw ow cw hd m A C V D ns ∧ m ≤ 2 ∧ ∀ j, j < m → NewR base (A j) (C j))
theorem BookR.state {wr : World} {base B : Nat} {ns : List Int} {vl vw : Value} {hd : Int} {A A' : Option Addr} {c c' : Nat} {V : List (Option Addr × Nat)} (h : KeepR wr base B vl vw hd [(A, c), (A', c')] V ns) (hV : V.length = 2)
    (h1 : NewR base A c) (h2 : NewR base A' c') (hne : ∀ g, A = some ⟨g, 0, none⟩ → A' ≠ some ⟨g, 0, none⟩) : StateR wr base B ns 2 := by
  obtain ⟨gl, cl, gw, cw, _, _, hB⟩ := h.book (by simp) (by rw [hV]; rfl) (fun i j hi hj hij g => by
    have hi2 : i = 0 ∨ i = 1 := by simp at hi; omega
    have hj2 : j = 0 ∨ j = 1 := by simp at hj; omega
    rcases hi2 with rfl | rfl <;> rcases hj2 with rfl | rfl
    · omega
    · exact hne g
    · intro (h3 : A' = _) (h4 : A = _)
      exact hne g h4 h3
    · omega)
  exact .inr (.inr ⟨rfl, _, _, _, _, _, _, _, _, _, _, _, _, hB, Nat.le_refl _, fun j hj => by
    have hj2 : j = 0 ∨ j = 1 := by simp at hj; omega
    rcases hj2 with rfl | rfl
    · exact h1
    · exact h2⟩)
theorem StateR.keep {w1 w2 w3 w4 : World} {base B : Nat} {ns : List Int} {k : Nat} {A : Option Addr} {c : Nat} (h : StateR w1 base B ns k) (hk : k < 2) (hbB : base ≤ B) (hl : ns.length ≤ 35184372088832)
    (hb12 : Below w1.heap.size w1 w2) (hF : FreshR w1 w2 A c ns) (hb23 : Below w2.heap.size w2 w3) (hbase : base ≤ w1.heap.size) :
    Calls Tryd.prog 29 #[.pointer (some ⟨B, 0, none⟩), .slice A ns.length c] w3 fun e w' => e = .returned (.tuple #[]) ∧ StateR w' base B ns (k + 1) ∧ Below base w3 w' := by
  have hb13 : Below w1.heap.size w1 w3 := hb12.trans (hb23.mono hb12.size)
  have hE := hF.1.below hb23
  have hN : NewR base A c := ⟨hF.2.1, fun g hg => by have := hF.2.2 g hg; omega⟩
  rcases h with ⟨rfl, h⟩ | ⟨rfl, vl, vw, hd, A0, c0, V, h, hV, h0⟩ | ⟨rfl, _⟩
  · refine (keepR w3 (h.step hb13) hE (by decide) rfl hbB hl (fun i j hi hj hij g => by
      simp at hi hj; omega)).mono ?_
    rintro e w' ⟨rfl, hK, hb⟩
    refine ⟨rfl, ?_, hb⟩
    rcases hK with ⟨vl, vw, hd, V, hK, hV⟩ | ⟨h1, _⟩
    · exact .inr (.inl ⟨rfl, vl, vw, hd, A, c, V, hK, hV, hN⟩)
    · exact absurd h1 (by decide)
  · have hne : ∀ g, A0 = some ⟨g, 0, none⟩ → A ≠ some ⟨g, 0, none⟩ := fun g hg hA => by
      have h3 := hF.2.2 g hA
      rcases (h.ent (A0, c0) (by simp)).2 with ⟨e, _⟩ | ⟨g', row, e, hB, _⟩
      · have : A0 = none := e
        rw [this] at hg; cases hg
      · have e' : A0 = some ⟨g', 0, none⟩ := e
        rw [e'] at hg
        cases hg
        have := hB.lt
        omega
    refine (keepR w3 (h.step hb13) hE (by simp) (by rw [hV]; rfl) hbB hl (fun i j hi hj hij g => by
      have hi2 : i = 0 ∨ i = 1 := by simp at hi; omega
      have hj2 : j = 0 ∨ j = 1 := by simp at hj; omega
      rcases hi2 with rfl | rfl <;> rcases hj2 with rfl | rfl
      · omega
      · exact hne g
      · intro (h3 : A = _) (h4 : A0 = _)
        exact hne g h4 h3
      · omega)).mono ?_
    rintro e w' ⟨rfl, hK, hb⟩
    refine ⟨rfl, ?_, hb⟩
    rcases hK with ⟨vl, vw, hd, V, hK, hV⟩ | ⟨_, gl, cl, gw, cw, hd', A', C', V', D', hB, hA', hC'⟩
    · exact BookR.state hK hV h0 hN hne
    · exact .inr (.inr ⟨rfl, _, _, _, _, _, _, _, _, _, _, _, _, hB, by decide, fun j hj => by
        obtain rfl : j = 0 := by omega
        rw [hA', hC']
        exact hN⟩)
  · omega

set_option maxRecDepth 100000 in
set_option maxHeartbeats 4000000 in
theorem runesU_walk (s : ByteArray) (w : World) (hs : s.size ≤ 1048576) (hT : Lib.Utf8Tabs 0 1 w) :
    Calls Tryd.prog 4 #[.string s] w fun e w' => e = .returned (.bool true) ∧ Below w.heap.size w w' := by
  have HT := Lib.hid hT
  have HF := Lib.hid (fun w hT => alive_yes w hT)
  have hns := nS_le s
  have hlen := runesI_nS s
  have HU := Lib.hid (fun w => utfRunesE s w hs)
  have HR := Lib.hid (fun w => refRunes s w hs)
  have HS := fun A B c d w h1 h2 => sameR (runesI s.data.toList) A B c d w h1 h2 (by rw [hlen]; omega)
  have HK := fun w1 w2 w3 base B k A c (h : StateR w1 base B (runesI s.data.toList) k) h1 h2 h3 h4 h5 h6 => h.keep (w1 := w1) (w2 := w2) (w3 := w3) (base := base) (B := B) (k := k) (A := A) (c := c) (ns := runesI s.data.toList) (w4 := w1) h1 h2 (by rw [hlen]; omega) h3 h4 h5 h6
  have HAp := fun w base B gl ol cl gw ow cw hd m A C V D (h : BookR w B gl ol cl gw ow cw hd m A C V D (runesI s.data.toList)) (h1 : m ≤ 2) h2 h3 h4 => apartR (base := base) w h (by omega) (by rw [hlen]; omega) h2 h3 h4
  rw [hlen] at HS HK
  have HS := Lib.hid HS
  have HK := Lib.hid HK
  have HAp := Lib.hid HAp
  generalize runesI s.data.toList = ns at *
  clear hT hlen
  go_enter Tryd.func4, Tryd.ntmps4
  go_wp2_with fail
  refine (HF.out _ HT.out).mono ?_
  rintro e w1 ⟨rfl, hb1⟩
  have hs1 := hb1.size
  have HS0 : Hid (StateR (w1.alloc (.cells #[.slice none 0 0, .slice none 0 0, .int .i64 0, .bool false] 36)) w.heap.size w1.heap.size ns 0) := Lib.hid (.inl ⟨rfl, Blk.new w1 _ _, World.ownsRow_nil _ _ _ _, World.ownsRow_nil _ _ _ _, fun g hg => by simp [Value.ownBlock] at hg, fun x hx => by simp at hx, fun x hx => by simp at hx⟩)
  have HB0 := Lib.hid (hb1.alloc hs1 (.cells #[.slice none 0 0, .slice none 0 0, .int .i64 0, .bool false] 36))
  clear hb1
  go_wp2_with fail
  go_loopw [4] (fun i wr => ∃ k : Nat, k ≤ 2 ∧ i = .int .i64 (k : Int) ∧ Hid (StateR wr w.heap.size w1.heap.size ns k) ∧ Hid (Below w.heap.size w wr)) (fun i _ => 2 - (intOf i).toNat)
  case atStart => exact ⟨0, by omega, rfl, HS0, HB0⟩
  case round =>
    obtain ⟨k, hk, rfl, hSt, hb⟩ := hrel
    clear HS0 HB0
    by_cases hlt : k < 2
    · go_wp2_with fail
      refine (HU.out _).mono ?_
      rintro e w2 ⟨⟨A, c, rfl, hF⟩, hb2⟩
      have HF2 := Lib.hid hF
      have Hb2 := Lib.hid hb2
      clear hF hb2
      go_wp2_with fail
      refine (HR.out _).mono ?_
      rintro e w3 ⟨⟨A2, c2, rfl, hr2⟩, hb3⟩
      have Hr2 := Lib.hid hr2
      have Hb3 := Lib.hid hb3
      clear hr2 hb3
      go_wp2_with fail
      refine (HS.out _ _ _ _ _ (HF2.out.1.1.below Hb3.out) Hr2.out).mono ?_
      rintro e w4 ⟨rfl, q, rfl⟩
      go_wp2_with fail
      refine (HK.out wr w2 (w3.drewN q) w.heap.size w1.heap.size k A c hSt.out hlt hs1 Hb2.out HF2.out (below_drewN Hb3.out q) hb.out.size).mono ?_
      rintro e w5 ⟨rfl, hSt2, hb5⟩
      have HSt2 := Lib.hid hSt2
      have Hb5 := Lib.hid (hb.out.trans (((Hb2.out.mono hb.out.size).trans ((below_drewN Hb3.out q).mono (by have := hb.out.size; have := Hb2.out.size; omega))).trans hb5))
      clear hSt2 hb5
      go_wp2_with fail
      go_roundw
      case rel => exact ⟨k + 1, by omega, by go_num, HSt2, Hb5⟩
      case measure => simp [intOf]; omega
    · obtain rfl : k = 2 := by omega
      rcases hSt.out with ⟨h, _⟩ | ⟨h, _⟩ | ⟨_, gl, ol, cl, gw, ow, cw, hd, m, A, C, V, D, hBk, hm, hN⟩
      · exact absurd h (by decide)
      · exact absurd h (by decide)
      · have HE := Lib.hid (HAp.out wr w.heap.size w1.heap.size gl ol cl gw ow cw hd m A C V D hBk hm (fun j hj => (hN j hj).1) hs1 (fun j hj => (hN j hj).2))
        clear hBk hN
        go_wp2_with fail
        refine HE.out.mono ?_
        rintro e w5 ⟨rfl, hb5⟩
        go_wp2_with fail
        go_ret
        exact ⟨rfl, hb.out.trans hb5⟩
end Go.Proofs.YtkenffbonnbflaaDoor
