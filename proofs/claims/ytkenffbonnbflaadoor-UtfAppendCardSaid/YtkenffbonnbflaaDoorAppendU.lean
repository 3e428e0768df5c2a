/- Walk: guiselaw1.UtfAppend. -/
import Derived.Test.YtkenffbonnbflaaDoorAppU
namespace Go.Proofs.YtkenffbonnbflaaDoor
open Go.RowKit
set_option linter.unusedVariables false

theorem StateRY.step {w w' : World} {base B : Nat} {ns : List Int} {k : Nat} (h : StateRY w base B ns k) (hb : Below w.heap.size w w') : StateRY w' base B ns k := by
  rcases h with ⟨rfl, h⟩ | ⟨rfl, vl, vw, hd, A, c, V, h, hV, h0⟩ | ⟨rfl, gl, ol, cl, gw, ow, cw, hd, m, A, C, V, D, h, hm, h0⟩
  · exact .inl ⟨rfl, h.step hb⟩
  · exact .inr (.inl ⟨rfl, vl, vw, hd, A, c, V, h.step hb, hV, h0⟩)
  · exact .inr (.inr ⟨rfl, gl, ol, cl, gw, ow, cw, hd, m, A, C, V, D, h.below hb, hm, h0⟩)

set_option maxRecDepth 100000 in
set_option maxHeartbeats 8000000 in
theorem appendU_walk (ns : List Int) (A : Option Addr) (c : Nat) (r : Int) (w : World) (h : RunesAtY w A ns) (hl : ns.length ≤ 140737488351232) (hr : -2147483648 ≤ r ∧ r ≤ 2147483647) (hT : Lib.Utf8Tabs 0 1 w) :
    Calls Tryd.prog 9 #[.slice A ns.length c, .int .i32 r] w fun e w' => e = .returned (.bool true) ∧ Below w.heap.size w w' := by
  obtain ⟨i0, hi, hz0, hz1, hz2⟩ := info_parts infoU8
  have HT := Lib.hid hT
  have HF := Lib.hid (fun w hT => alive_yes w hT)
  have H := Lib.hid h
  have hel := encZ_le r
  have hal : (appI ns r).length ≤ ns.length + 4 := by
    unfold appI; split
    · rw [List.length_append]; omega
    · simp
  obtain ⟨ms, hms⟩ : ∃ ms, appI ns r = ms := ⟨_, rfl⟩
  have HW := Lib.hid (fun w => utfWidth r w)
  have HW2 := Lib.hid (fun w => refWidth r w hr)
  have HRm := fun w h => roomyRY ns A c 165 w h (by omega)
  have HIn := fun g w hB h => intactRY ns A g c 165 w hB h (by omega)
  have HU := fun A c w h => utfAppend ns A c r w h hl
  have HS := fun A B c d w h1 h2 => sameRY ms A B c d w h1 h2 (by rw [← hms]; omega)
  have HK := fun w1 w2 w3 base B k A c (h : StateRY w1 base B ms k) h1 h2 h3 h4 h5 h6 => h.keep (w1 := w1) (w2 := w2) (w3 := w3) (base := base) (B := B) (k := k) (A := A) (c := c) (ns := ms) (w4 := w1) h1 h2 (by rw [← hms]; omega) h3 h4 h5 h6
  have HAp := fun w base B gl ol cl gw ow cw hd m A C V D (h : BookRY w B gl ol cl gw ow cw hd m A C V D ms) (h1 : m ≤ 2) h2 h3 h4 => apartRY (base := base) w h (by omega) (by rw [← hms]; omega) h2 h3 h4
  unfold AppEnd at HU
  rw [hms] at HU
  have Hms := Lib.hid hms
  obtain ⟨n, hn⟩ : ∃ n, ns.length = n := ⟨_, rfl⟩
  obtain ⟨m, hm⟩ : ∃ m, ms.length = m := ⟨_, rfl⟩
  have Hn := Lib.hid hn
  have Hm := Lib.hid hm
  rw [hms] at hal
  rw [hm, hn] at hal
  rw [hn] at hl HRm HIn HU
  rw [hm] at HU HS HK
  rw [hn]
  have HRm := Lib.hid HRm
  have HIn := Lib.hid HIn
  have HU := Lib.hid HU
  have HS := Lib.hid HS
  have HK := Lib.hid HK
  have HAp := Lib.hid HAp
  have HRB : Hid (∀ (w : World), Lib.validRune r = true → Calls Tryd.prog 47 #[.int .i32 r] w (BytesEnd r w)) := Lib.hid (fun w hv => refBytes r w hv)
  have HCp : Hid (∀ (w : World), RunesAtY w A ns → ∃ (v : Value) (w' : World), (Builtin.append_ #[56, 56] 56 #[.slice none 0 0, .slice A n c]).run Tryd.prog w = .ok v w' ∧ w'.ownsRow w.heap.size 5 1 v n (ns.map (Value.int .u8)) ∧ Below w.heap.size w w') := Lib.hid (fun w h => by rw [← Hn.out]; exact app_own w A c ns h (by rw [Hn.out]; exact hl))
  clear hT h hms hn hm hr
  go_enter Tryd.func9, Tryd.ntmps9
  go_wp2_with fail
  refine (HF.out _ HT.out).mono ?_
  rintro e w1 ⟨rfl, hb1⟩
  have hs1 := hb1.size
  have Hb1 := Lib.hid hb1
  clear hb1
  go_wp2_with (first
    | (go_at_call 42; refine (HW.out _).mono ?_; rintro e w' ⟨rfl, rfl⟩)
    | (go_at_call 43; refine (HW2.out _).mono ?_; rintro e w' ⟨rfl, rfl⟩))
  have HS0 : Hid (StateRY (w1.alloc (.cells #[.slice none 0 0, .slice none 0 0, .int .i64 0, .bool false] 61)) w.heap.size w1.heap.size ms 0) := Lib.hid (.inl ⟨rfl, Blk.new w1 _ _, World.ownsRow_nil _ _ _ _, World.ownsRow_nil _ _ _ _, fun g hg => by simp [Value.ownBlock] at hg, fun x hx => by simp at hx, fun x hx => by simp at hx⟩)
  have HB0 := Lib.hid (Hb1.out.alloc hs1 (.cells #[.slice none 0 0, .slice none 0 0, .int .i64 0, .bool false] 61))
  have HRm1 := HRm.out _ (H.out.below HB0.out)
  rw [World.size_alloc] at HRm1
  refine HRm1.mono ?_
  rintro e w2 ⟨rfl, hB2, hb2⟩
  have HSt2 := Lib.hid (HS0.out.step (by rw [World.size_alloc]; exact hb2))
  have HB2 := Lib.hid hB2
  have Hb2 := Lib.hid (HB0.out.trans (hb2.mono (by omega)))
  clear hB2 hb2 HRm1 HS0 HB0
  go_wp2_with fail
  go_loopw [7] (fun i wr => ∃ k : Nat, k ≤ 2 ∧ i = .int .i64 (k : Int) ∧ Hid (StateRY wr w.heap.size w1.heap.size ms k) ∧ Hid (Below w.heap.size w wr) ∧ Hid (Blk wr (w1.heap.size + 1) 5 (roomCY ns 165).toArray)) (fun i _ => 2 - (intOf i).toNat)
  case atStart => exact ⟨0, by omega, rfl, HSt2, Hb2, HB2⟩
  case round =>
    obtain ⟨k, hk, rfl, hSt, hb, hF⟩ := hrel
    clear HSt2 HB2 Hb2
    by_cases hlt : k < 2
    · go_wp2_with fail
      refine (HU.out _ _ _ (room_runesY hF.out)).mono ?_
      rintro e w3 ⟨⟨A1, c1, rfl, hF1⟩, hb3⟩
      have HF1 := Lib.hid hF1
      have Hb3 := Lib.hid hb3
      clear hF1 hb3
      have hsr := hb.out.size
      have hs3 := Hb3.out.size
      cases hv : Lib.validRune r with
      | false =>
        have e1 := appE_no hv
        have e2 := widI_no hv
        have e3 : m = 0 := by rw [← Hm.out, ← Hms.out, appI_no hv]; rfl
        rw [e1]
        rw [e2] at HW2
        have HK1 := HK.out wr w3 w3 w.heap.size w1.heap.size k A1 c1 hSt.out hlt hs1 Hb3.out HF1.out (Below.refl _ _) hsr
        rw [e3] at HK1 ⊢
        clear e1 e2 e3 hv
        go_wp2_with (go_at_call 43; refine (HW2.out _).mono ?_; rintro e w' ⟨rfl, rfl⟩)
        refine HK1.mono ?_
        rintro e w5 ⟨rfl, hSt2, hb5⟩
        have HSt2 := Lib.hid hSt2
        have Hb5 := Lib.hid (hb.out.trans ((Hb3.out.mono hsr).trans hb5.b))
        have HF5 := Lib.hid (hb5.blk (hF.out.below Hb3.out) (by decide) (by decide))
        clear hSt2 hb5 HK1
        go_wp2_with fail
        go_roundw
        case rel => exact ⟨k + 1, by omega, by go_num, HSt2, Hb5, HF5⟩
        case measure => simp [intOf]; omega
      | true =>
        have e1 := appE_yes hv
        have e2 := widI_yes hv
        have e2p := encodeRune_pos r
        have hz : (((Lib.encodeRune r).length : Int) == 0) = false := by rw [beq_eq_false_iff_ne]; omega
        have hcl := Lib.runeCells_length r
        have Hz4 : Hid ((Lib.runeCells r).length ≤ 4) := Lib.hid (by unfold Lib.runeCells; rw [List.length_map]; exact hel)
        have H1c : Hid (∀ u ∈ Lib.runeCells r, u.oneCell' = true) := Lib.hid (by
          intro u hu
          unfold Lib.runeCells at hu
          obtain ⟨z, _, rfl⟩ := List.mem_map.1 hu
          rfl)
        have Hmv : Hid ((ns.map (Value.int .u8)) ++ Lib.runeCells r = ms.map (Value.int .u8)) := Lib.hid (by rw [← Hms.out, appI_yes hv, List.map_append]; rfl)
        rw [e1]
        rw [e2] at HW2
        obtain ⟨v1, w4, hcp, hown, hb4⟩ := HCp.out w3 ((H.out.below hb.out).below (Hb3.out.mono (by omega)))
        have Hv := Lib.hid hv
        have Hb4 := Lib.hid hb4
        have hs4 := hb4.size
        clear e1 e2 hv hb4
        go_wp2_with (first
          | (go_at_call 43; refine (HW2.out _).mono ?_; rintro e w' ⟨rfl, rfl⟩)
          | (at_builtin; refine wpList_g rfl (fun K hK => ?_); refine wp_append_run _ _ 56 rfl (.slice none 0 0) v1 (.slice A n c) rfl rfl w4 hcp (hK _ _ ?_)))
        refine (HRB.out _ Hv.out).mono ?_
        unfold BytesEnd
        rintro e w5 ⟨⟨g, c2, rfl, hg1, hg2, hcs⟩, hb5⟩
        have hown5 := own_below hown hb5
        have hs5 := hb5.size
        have hlt3 := hown5.lt
        have Hcs := Lib.hid hcs
        have Hb5 := Lib.hid hb5
        clear hcs hb5 hcp hown
        obtain ⟨v2, w6, hr6, hown6, hgrow6, _, _⟩ := run_append_own_at (P := Tryd.prog) w5 w3.heap.size 56 56 5 i0 _ 1 1 Tryd.underlying56 hi hz0 hz1 hz2 rfl (by decide) v1 n _ hown5 ⟨g, 0, none⟩ (Lib.runeCells r).length c2 (Lib.runeCells r) (by omega) Hcs.out H1c.out (by have := Hz4.out; unfold maxLen; omega) (by have := Hz4.out; omega) (by omega)
        rw [Hmv.out] at hown6
        have hb56 : Below w3.heap.size w5 w6 := (Below.refl _ w5).grown hgrow6 (by omega) (fun k e => (hlt3 k e).1)
        obtain ⟨A2, c3, rfl, hF2⟩ := own_freshY hown6
        rw [Hm.out] at hr6
        have Hb36 := Lib.hid ((Hb4.out.trans (Hb5.out.mono hs4)).trans hb56)
        have hs36 := Hb36.out.size
        have HS6 := HS.out A1 A2 c1 c3 w6 (fresh_runesY (HF1.out) |>.below Hb36.out) (fresh_runesY hF2)
        clear hown6 hgrow6 hF2 hb56 hlt3 hown5 hcl
        go_wp2_with (at_builtin; refine wpList_g rfl (fun K hK => ?_); refine wp_append_run _ _ 56 rfl v1 (.slice A2 m c3) (.slice (some ⟨g, 0, none⟩) (Lib.runeCells r).length c2) rfl rfl w6 hr6 (hK _ _ ?_))
        refine HS6.mono ?_
        rintro e w7 ⟨rfl, q, rfl⟩
        have HK1 := HK.out wr w3 (w6.drewN q) w.heap.size w1.heap.size k A1 c1 hSt.out hlt hs1 Hb3.out HF1.out (below_drewN Hb36.out q) hsr
        clear HS6
        go_wp2_with fail
        refine HK1.mono ?_
        rintro e w8 ⟨rfl, hSt2, hb8⟩
        have HSt2 := Lib.hid hSt2
        have Hb8 := Lib.hid (hb.out.trans (((Hb3.out.mono hsr).trans ((below_drewN Hb36.out q).mono (by omega))).trans hb8.b))
        have HF8 := Lib.hid (hb8.blk ((hF.out.below Hb3.out).below (below_drewN Hb36.out q)) (by decide) (by decide))
        clear hSt2 hb8 HK1
        go_wp2_with fail
        go_roundw
        case rel => exact ⟨k + 1, by omega, by go_num, HSt2, Hb8, HF8⟩
        case measure => simp [intOf]; omega
    · obtain rfl : k = 2 := by omega
      go_wp2_with fail
      refine (HIn.out _ _ hF.out (H.out.below hb.out)).mono ?_
      rintro e w3 ⟨rfl, q, rfl⟩
      rcases hSt.out with ⟨h, _⟩ | ⟨h, _⟩ | ⟨_, gl, ol, cl, gw, ow, cw, hd, m2, A2, C, V, D, hBk, hm2, hN⟩
      · exact absurd h (by decide)
      · exact absurd h (by decide)
      · have HE := Lib.hid (HAp.out (wr.drewN q) w.heap.size w1.heap.size gl ol cl gw ow cw hd m2 A2 C V D (hBk.below (below_drewN (Below.refl _ wr) q)) hm2 (fun j hj => (hN j hj).1) hs1 (fun j hj => (hN j hj).2))
        clear hBk hN
        go_wp2_with fail
        refine HE.out.mono ?_
        rintro e w5 ⟨rfl, hb5⟩
        go_wp2_with fail
        go_ret
        exact ⟨rfl, (below_drewN hb.out q).trans hb5⟩
end Go.Proofs.YtkenffbonnbflaaDoor
