/- Walk: guiselaw2.SpotsPieces. -/
import Derived.Test.YtkenffbonnbflaaPieces
namespace Go.Proofs.Ytkenffbonnbflaa
open Go.RowKit
set_option linter.unusedVariables false

theorem StateR.step {w w' : World} {base B : Nat} {ns : List ByteArray} {k : Nat} (h : StateR w base B ns k) (hb : Below w.heap.size w w') : StateR w' base B ns k := by
  rcases h with ⟨rfl, h⟩ | ⟨rfl, vl, vw, hd, A, c, V, h, hV, h0⟩ | ⟨rfl, gl, ol, cl, gw, ow, cw, hd, m, A, C, V, D, h, hm, h0⟩
  · exact .inl ⟨rfl, h.step hb⟩
  · exact .inr (.inl ⟨rfl, vl, vw, hd, A, c, V, h.step hb, hV, h0⟩)
  · exact .inr (.inr ⟨rfl, gl, ol, cl, gw, ow, cw, hd, m, A, C, V, D, h.below hb, hm, h0⟩)
/-- an owned row of strings, as a list in new memory -/
theorem own_fresh {w w' : World} {n : Nat} {v : Value} {ns : List ByteArray} (h : w'.ownsRow w.heap.size 9 1 v n (ns.map Value.string)) : ∃ A c, v = .slice A ns.length c ∧ FreshR w w' A c ns := by
  have hl : n = ns.length := by have := h.1; rw [List.length_map] at this; omega
  subst hl
  rcases h.2 with ⟨rfl, h0⟩ | ⟨g, cap, cur, rfl, hb, hg, hcap, hm, hsz, htake⟩
  · exact ⟨none, 0, by rw [h0], ⟨fun hn => by omega, .inl ⟨rfl, h0, rfl⟩⟩, by decide, fun g hg => by cases hg⟩
  · refine ⟨some ⟨g, 0, none⟩, cap, rfl, ⟨fun _ => ⟨⟨g, 0, none⟩, rfl, (Array.getElem?_eq_some_iff.1 hg).1, fun j hj => ?_⟩, .inr ⟨g, cur, rfl, hg, by omega, hcap⟩⟩, by unfold maxLen at hm; omega, fun g' hg' => by cases hg'; exact hb⟩
    rw [addr_add0, Nat.zero_add, h.cellAt j (by omega), List.getElem?_map, List.getElem?_eq_getElem hj, List.getD_eq_getElem?_getD, List.getElem?_eq_getElem hj]
    rfl
theorem ints_take {w : World} {A : Option Addr} {cs : List Int} (h : RunesAtI w A cs) (n : Nat) : RunesAtI w A (cs.take n) := fun h0 => by
  rw [List.length_take] at h0
  obtain ⟨a, ha, hl, hc⟩ := h (by omega)
  refine ⟨a, ha, hl, fun j hj => ?_⟩
  rw [List.length_take] at hj
  rw [hc j (by omega), List.getD_eq_getElem?_getD, List.getD_eq_getElem?_getD, List.getElem?_take_of_lt (by omega)]

set_option maxRecDepth 100000 in
set_option maxHeartbeats 8000000 in
theorem pieces_walk (s : ByteArray) (fr to : Int) (w : World) (hx : s.size ≤ 9223372036854775807) (A : Option Addr) (c : Nat) (cs : List Int) (h : RunesAtI w A cs) (hn0 : A = none → c = 0) (hlc : cs.length ≤ c) (hcx : c ≤ 9223372036854775807)
    (hcs : ∀ c ∈ cs, -9223372036854775808 ≤ c ∧ c ≤ 9223372036854775807) (hfr : -9223372036854775808 ≤ fr ∧ fr ≤ 9223372036854775807) (hto : -9223372036854775808 ≤ to ∧ to ≤ 9223372036854775807) :
    Calls Try.prog 4 #[.string s, .int .i64 fr, .int .i64 to, .slice A cs.length c] w fun e w' => e = .returned (.bool true) ∧ Below w.heap.size w w' := by
  obtain ⟨n, hn⟩ : ∃ n, cs.length = n := ⟨_, rfl⟩
  by_cases hm : s.size ≤ 65536
  · by_cases hf : s.size ≤ 400
    · have hns := nS_le s
      obtain ⟨x, ok, HSl, HRl⟩ := slice_both s fr to (by omega)
      have HSl := Lib.hid HSl
      have HRl := Lib.hid HRl
      have HF := Lib.hid (fun w => fewP_yes s w hf)
      obtain ⟨m, hm2⟩ : ∃ m, min n 300 = m := ⟨_, rfl⟩
      obtain ⟨ds, hds⟩ : ∃ ds, cs.take 300 = ds := ⟨_, rfl⟩
      have hdl : ds.length = m := by rw [← hds, List.length_take]; omega
      have hm300 : m ≤ 300 := by omega
      have Hdl := Lib.hid hdl
      have H := Lib.hid (show RunesAtI w A ds by rw [← hds]; exact ints_take h 300)
      have hdb : ∀ c ∈ ds, -9223372036854775808 ≤ c ∧ c ≤ 9223372036854775807 := fun c hc => by rw [← hds] at hc; exact hcs c (List.mem_of_mem_take hc)
      have HPa := Lib.hid (fun (w : World) (T gb cb gl cl F : Nat) (hT : TextIs w T s gb cb gl cl) (hF : Blk w F 3 (roomCI ds 77).toArray) =>
        Parts_any hT (some ⟨F, 0, none⟩) m (m + 80) ds hdl (fun e => by cases e) (fun b hb j u hu => by
          cases hb
          have hj : j < ds.length := by
            rw [List.getElem?_map] at hu
            rcases Nat.lt_or_ge j ds.length with c | c
            · exact c
            · rw [List.getElem?_eq_none c] at hu; cases hu
          obtain ⟨a, ha, _, hc⟩ := room_runesI hF (by omega)
          cases ha
          rw [hc j hj, ← hu, List.getElem?_map, List.getElem?_eq_getElem hj, List.getD_eq_getElem?_getD, List.getElem?_eq_getElem hj]
          rfl) (by omega) (by unfold maxLen; omega) hdb (by omega))
      have HRm := fun w h => roomyRI ds A c 77 w h (by omega)
      have HIn := fun F w hB h => intactRI ds A F c 77 w hB h (by omega)
      have HRp := fun w h => refParts s w (by omega) A c ds h (by omega) hdb
      rw [hdl] at HRm HIn HRp
      have HRm := Lib.hid HRm
      have HIn := Lib.hid HIn
      have hpl : (pieces s 0 (ds ++ [(nS s : Int)])).length = m + 1 := by rw [pieces_length, List.length_append]; simp [hdl]
      obtain ⟨ps, hps⟩ : ∃ ps, pieces s 0 (ds ++ [(nS s : Int)]) = ps := ⟨_, rfl⟩
      rw [hps] at HPa HRp hpl
      have HRp := Lib.hid HRp
      have Hpl := Lib.hid hpl
      have HS := fun A B c d w h1 h2 => sameR ps A B c d w h1 h2 (by rw [hpl]; omega)
      have HK := fun w1 w2 w3 base B k A c (h : StateR w1 base B ps k) h1 h2 h3 h4 h5 h6 => h.keep (w1 := w1) (w2 := w2) (w3 := w3) (base := base) (B := B) (k := k) (A := A) (c := c) (ns := ps) (w4 := w1) h1 h2 (by rw [hpl]; omega) h3 h4 h5 h6
      have HAp := fun w base B gl ol cl gw ow cw hd m A C V D (h : BookR w B gl ol cl gw ow cw hd m A C V D ps) (h1 : m ≤ 2) h2 h3 h4 => apartR (base := base) w h (by omega) (by rw [hpl]; omega) h2 h3 h4
      rw [hpl] at HS HK
      have HS := Lib.hid HS
      have HK := Lib.hid HK
      have HAp := Lib.hid HAp
      rw [hn] at hlc
      rw [hn]
      have hval : (if 300 < n then Value.slice A 300 c else Value.slice A n c) = Value.slice A m c := by
        split
        · rw [show m = 300 by omega]
        · rw [show m = n by omega]
      clear h hcs hds hdl hdb hps hpl hfr hto hn hf
      go_enter Try.func4, Try.ntmps4
      go_wp2_with fail
      refine (begun_ok s _ hm).mono ?_
      rintro e w1 ⟨⟨T, gb, cb, gl, cl, rfl, hT⟩, hb1⟩
      have HT := Lib.hid hT
      have Hb1 := Lib.hid hb1
      clear hT hb1
      have hs1 := Hb1.out.size
      by_cases hn3 : 300 < n
      rw [if_pos hn3] at hval
      have Hval := Lib.hid hval
      clear hval
      have i1 : (300 : Int) < (n : Int) := by omega
      have i2 : (300 : Int) ≤ (c : Int) := by omega
      have i3 : 300 ≤ c := by omega
      go_wp2_with (go_at_call 13; refine (HF.out _).mono ?_; rintro e w' ⟨rfl, rfl⟩)
      rw [Hval.out]
      clear Hval i1 i2 i3 hn3
      rotate_left
      rw [if_neg hn3] at hval
      have Hval := Lib.hid hval
      clear hval
      have i1 : (n : Int) ≤ 300 := by omega
      go_wp2_with (go_at_call 13; refine (HF.out _).mono ?_; rintro e w' ⟨rfl, rfl⟩)
      rw [Hval.out]
      clear Hval i1 hn3
      all_goals
        refine (HSl.out _ T gb cb gl cl HT.out).mono ?_
        rintro e w2 ⟨rfl, hb2⟩
        have Hb2 := Lib.hid (Hb1.out.trans (hb2.mono hs1))
        have HT2 := Lib.hid (HT.out.below hb2)
        have hs2 := Hb2.out.size
        clear hb2
        go_wp2_with fail
        refine (HRl.out _).mono ?_
        rintro e w3 ⟨rfl, hb3⟩
        have Hb3 := Lib.hid (Hb2.out.trans (hb3.mono hs2))
        have HT3 := Lib.hid (HT2.out.below hb3)
        have hs3 := Hb3.out.size
        have H3 := Lib.hid (H.out.below Hb3.out)
        clear hb3
        have tok : (ok != ok) = false := by cases ok <;> rfl
        go_wp2_with fail
        have HS0 : Hid (StateR (w3.alloc (.cells #[.slice none 0 0, .slice none 0 0, .int .i64 0, .bool false] 43)) w3.heap.size w3.heap.size ps 0) := Lib.hid (.inl ⟨rfl, Blk.new w3 _ _, World.ownsRow_nil _ _ _ _, World.ownsRow_nil _ _ _ _, fun g hg => by simp [Value.ownBlock] at hg, fun x hx => by simp at hx, fun x hx => by simp at hx⟩)
        have hb34 : Below w3.heap.size w3 (w3.alloc (.cells #[.slice none 0 0, .slice none 0 0, .int .i64 0, .bool false] 43)) := (Below.refl _ w3).alloc (Nat.le_refl _) _
        have HRm1 := HRm.out _ (H3.out.below hb34)
        rw [World.size_alloc] at HRm1
        refine HRm1.mono ?_
        rintro e w4 ⟨rfl, hB4, hb4⟩
        have HSt4 := Lib.hid (HS0.out.step (by rw [World.size_alloc]; exact hb4))
        have HB4 := Lib.hid hB4
        have Hb4 := Lib.hid (hb34.trans (hb4.mono (by omega)))
        clear hB4 hb4 HRm1 HS0 hb34
        go_wp2_with fail
        go_loopw [18] (fun i wr => ∃ k : Nat, k ≤ 2 ∧ i = .int .i64 (k : Int) ∧ Hid (StateR wr w3.heap.size w3.heap.size ps k) ∧ Hid (Below w3.heap.size w3 wr) ∧ Hid (Blk wr (w3.heap.size + 1) 3 (roomCI ds 77).toArray)) (fun i _ => 2 - (intOf i).toNat)
        case atStart => exact ⟨0, by omega, rfl, HSt4, Hb4, HB4⟩
        case round =>
          obtain ⟨k, hk, rfl, hSt, hb, hF⟩ := hrel
          clear HSt4 HB4 Hb4
          have hsr := hb.out.size
          by_cases hlt : k < 2
          · have HPk := Lib.hid (HPa.out wr T gb cb gl cl (w3.heap.size + 1) (HT3.out.below hb.out) hF.out)
            go_wp2_with fail
            refine HPk.out.mono ?_
            rintro e w5 ⟨v5, rfl, hown5, hb5⟩
            obtain ⟨A1, c1, rfl, hF1⟩ := own_fresh hown5
            rw [Hpl.out]
            have HF1 := Lib.hid hF1
            have Hb5 := Lib.hid hb5
            have hs5 := hb5.size
            clear hF1 hb5 hown5 HPk
            go_wp2_with fail
            refine (HRp.out _ (H3.out.below (hb.out.trans (Hb5.out.mono hsr)))).mono ?_
            rintro e w6 ⟨⟨v6, rfl, hown6⟩, hb6⟩
            obtain ⟨A2, c2, rfl, hF2⟩ := own_fresh hown6
            rw [Hpl.out]
            have HS6 := HS.out A1 A2 c1 c2 w6 (HF1.out.1.1.below hb6) hF2.1.1
            have Hb6 := Lib.hid hb6
            have hs6 := hb6.size
            clear hown6 hF2 hb6
            go_wp2_with fail
            refine HS6.mono ?_
            rintro e w7 ⟨rfl, q, rfl⟩
            have HK1 := HK.out wr w5 (w6.drewN q) w3.heap.size w3.heap.size k A1 c1 hSt.out hlt (Nat.le_refl _) Hb5.out HF1.out (below_drewN Hb6.out q) hsr
            clear HS6
            go_wp2_with fail
            refine HK1.mono ?_
            rintro e w8 ⟨rfl, hSt2, hb8⟩
            have HSt2 := Lib.hid hSt2
            have Hb8 := Lib.hid (hb.out.trans (((Hb5.out.mono hsr).trans ((below_drewN Hb6.out q).mono (by omega))).trans hb8.b))
            have HF8 := Lib.hid (hb8.blk ((hF.out.below Hb5.out).below (below_drewN Hb6.out q)) (by decide) (by decide))
            clear hSt2 hb8 HK1
            go_wp2_with fail
            go_roundw
            case rel => exact ⟨k + 1, by omega, by go_num, HSt2, Hb8, HF8⟩
            case measure => simp [intOf]; omega
          · obtain rfl : k = 2 := by omega
            have HI := HIn.out _ wr hF.out (H3.out.below hb.out)
            go_wp2_with fail
            refine HI.mono ?_
            rintro e w5 ⟨rfl, q, rfl⟩
            rcases hSt.out with ⟨h, _⟩ | ⟨h, _⟩ | ⟨_, gl2, ol, cl2, gw, ow, cw, hd, m2, A2, C, V, D, hBk, hm2, hN⟩
            · exact absurd h (by decide)
            · exact absurd h (by decide)
            · have HE := Lib.hid (HAp.out (wr.drewN q) w3.heap.size w3.heap.size gl2 ol cl2 gw ow cw hd m2 A2 C V D (hBk.below (below_drewN (Below.refl _ wr) q)) hm2 (fun j hj => (hN j hj).1) (Nat.le_refl _) (fun j hj => (hN j hj).2))
              clear hBk hN HI
              go_wp2_with fail
              refine HE.out.mono ?_
              rintro e w6 ⟨rfl, hb6⟩
              have hb7 := (below_drewN hb.out q).trans hb6
              have HSx := Lib.hid (String_any (HT3.out.below hb7))
              have Hb7 := Lib.hid (Hb3.out.trans (hb7.mono hs3))
              clear hb6 hb7
              go_wp2_with (go_at_call 24; refine HSx.out.mono ?_; rintro e w' ⟨rfl, rfl⟩)
              go_ret
              exact ⟨by first | rfl | simp, Hb7.out⟩
    · have HF := Lib.hid (fun w => fewP_no s w (by omega))
      go_enter Try.func4, Try.ntmps4
      go_wp2_with fail
      refine (begun_ok s _ hm).mono ?_
      rintro e w1 ⟨⟨T, gb, cb, gl, cl, rfl, hT⟩, hb1⟩
      clear hT
      go_wp2_with (go_at_call 13; refine (HF.out _).mono ?_; rintro e w' ⟨rfl, rfl⟩)
      go_ret
      exact ⟨rfl, hb1⟩
  · go_enter Try.func4, Try.ntmps4
    go_wp2_with fail
    refine (begun_long s _ (by omega) hx).mono ?_
    rintro e w1 ⟨rfl, hb1⟩
    go_wp2_with fail
    go_ret
    exact ⟨rfl, hb1⟩
end Go.Proofs.Ytkenffbonnbflaa
