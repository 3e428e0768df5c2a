/- tables.check: tos. (Printed by gen_ctos.py.) -/
import Derived.Test.YtjmkdimbbacnfaaGreatDoorGTabO
import Derived.Deep.RegionHeld3
namespace Go.Proofs.YtjmkdimbbacnfaaGreatDoor
open Go.RowKit
set_option linter.unusedVariables false
def tosP (T : Tab) : Option (Int × Int × Int) := orW (scan (tosF T) 5 0 T.folds) (scan (tosL T) 6 0 T.looks)
theorem runesFrom_cons {s : ByteArray} {p : Nat} {rest : List Int} (hp : p < s.size) (h : runesFrom s p = some rest) : ∃ rest', rest = ((Utf8.decode s p).1 : Int) :: rest' ∧ runesFrom s (p + (Utf8.decode s p).2) = some rest' := by
  rw [runesFrom_step hp] at h
  split at h
  · cases h
  · cases hq : runesFrom s (p + (Utf8.decode s p).2) with
    | none => rw [hq] at h; cases h
    | some r => rw [hq] at h; cases h; exact ⟨r, rfl, rfl⟩
theorem runesD_of {k : Nat} {m : MapT} (h : mapAt k m = 0) : runesFrom m.to 0 = some (runesD m.to) := by
  unfold mapAt at h
  split at h
  · cases h
  · rw [runesFrom_zero]
    unfold runesD
    cases hr : runesOf m.to with
    | none => rw [hr] at h; cases h
    | some rs => rfl
/-- what tos holds on to: the Book has the drops; all else but the Book is as it was -/
structure TS (w0 w : World) (c b m1 m2 m3 m4 m5 : Nat) (v0 v1 v2 v3 v4 v5 v6 v7 t0 t1 t2 t3 t4 t5 t7 : Value) (M : MC) (wr : World) : Prop where
  below0 : Below w0.heap.size w0 wr
  size : w.heap.size < wr.heap.size
  off : ∀ i, i < w.heap.size → i ≠ b → wr.heap[i]? = w.heap[i]?
  res : Blk wr w.heap.size 40 #[.int .i64 0, .int .i64 0, .int .i64 0]
  chk : Blk wr c 68 #[v0, v1, v2, v3, v4, v5, v6, v7, .pointer (some ⟨b, 0, none⟩)]
  ms : MS wr b m1 m2 m3 m4 m5 t0 t1 t2 t3 t4 t5 v6 t7 M
section
variable {w0 w wr w2 : World} {c b m1 m2 m3 m4 m5 : Nat} {v0 v1 v2 v3 v4 v5 v6 v7 t0 t1 t2 t3 t4 t5 t6 t7 : Value} {M : MC}
theorem TS.step (h : TS w0 w c b m1 m2 m3 m4 m5 v0 v1 v2 v3 v4 v5 v6 v7 t0 t1 t2 t3 t4 t5 t7 M wr) (hb : Below wr.heap.size wr w2) : TS w0 w c b m1 m2 m3 m4 m5 v0 v1 v2 v3 v4 v5 v6 v7 t0 t1 t2 t3 t4 t5 t7 M w2 :=
  ⟨below_trans h.below0 hb, Nat.lt_of_lt_of_le h.size hb.size, fun i hi hne => (hb.block i (by have := h.size; omega)).trans (h.off i hi hne), h.res.below hb, h.chk.below hb, h.ms.below hb⟩
theorem TS.resF (h : TS w0 w c b m1 m2 m3 m4 m5 v0 v1 v2 v3 v4 v5 v6 v7 t0 t1 t2 t3 t4 t5 t7 M wr) : wr.cell? ⟨w.heap.size, 0, none⟩ = some (.int .i64 0) ∧ wr.cell? ⟨w.heap.size, 1, none⟩ = some (.int .i64 0) ∧ wr.cell? ⟨w.heap.size, 2, none⟩ = some (.int .i64 0) ∧ wr.frozen? ⟨w.heap.size, 0, none⟩ = false ∧ wr.frozen? ⟨w.heap.size, 1, none⟩ = false ∧ wr.frozen? ⟨w.heap.size, 2, none⟩ = false := wrong_facts h.res
theorem MS.of_blocks {t0 t1 t2 t3 t4 t5 t6 t7 : Value} (h : MS wr b m1 m2 m3 m4 m5 t0 t1 t2 t3 t4 t5 t6 t7 M) {g : Nat} {ty : TypeId} {cs : Array Value} (hg : Blk wr g ty cs) (hk : ∀ i, i ≠ g → w2.heap[i]? = wr.heap[i]?) {s0 s1 s2 s3 s4 s5 s6 s7 : Value} (hb : Blk w2 b 66 #[s0, s1, s2, s3, s4, s5, s6, s7, .map (some m1), .map (some m2), .map (some m3), .map (some m4), .map (some m5)]) : MS w2 b m1 m2 m3 m4 m5 s0 s1 s2 s3 s4 s5 s6 s7 M := by
  obtain ⟨n1, x1⟩ := h.cls
  obtain ⟨n2, x2⟩ := h.pr
  obtain ⟨n3, x3⟩ := h.jn
  obtain ⟨n4, x4⟩ := h.fl
  obtain ⟨n5, x5⟩ := h.lk
  exact ⟨hb, ⟨_, x1.of_block (hk _ (blk_ne hg x1).symm)⟩, ⟨_, x2.of_block (hk _ (blk_ne hg x2).symm)⟩, ⟨_, x3.of_block (hk _ (blk_ne hg x3).symm)⟩, ⟨_, x4.of_block (hk _ (blk_ne hg x4).symm)⟩, ⟨_, x5.of_block (hk _ (blk_ne hg x5).symm)⟩⟩
theorem TS.retF (h : TS w0 w c b m1 m2 m3 m4 m5 v0 v1 v2 v3 v4 v5 v6 v7 t0 t1 t2 t3 t4 t5 t7 M wr) (hsz : w0.heap.size ≤ w.heap.size) (x y z : Value) : Blk (((wr.setCell ⟨w.heap.size, 0, none⟩ x).setCell ⟨w.heap.size, 1, none⟩ y).setCell ⟨w.heap.size, 2, none⟩ z) w.heap.size 40 #[x, y, z] ∧
    Below w0.heap.size w0 (((wr.setCell ⟨w.heap.size, 0, none⟩ x).setCell ⟨w.heap.size, 1, none⟩ y).setCell ⟨w.heap.size, 2, none⟩ z) ∧ (∀ i, i < w.heap.size → i ≠ b → (((wr.setCell ⟨w.heap.size, 0, none⟩ x).setCell ⟨w.heap.size, 1, none⟩ y).setCell ⟨w.heap.size, 2, none⟩ z).heap[i]? = w.heap[i]?) ∧
    w.heap.size ≤ (((wr.setCell ⟨w.heap.size, 0, none⟩ x).setCell ⟨w.heap.size, 1, none⟩ y).setCell ⟨w.heap.size, 2, none⟩ z).heap.size ∧
    MS (((wr.setCell ⟨w.heap.size, 0, none⟩ x).setCell ⟨w.heap.size, 1, none⟩ y).setCell ⟨w.heap.size, 2, none⟩ z) b m1 m2 m3 m4 m5 t0 t1 t2 t3 t4 t5 v6 t7 M := by
  have hB : Below w.heap.size wr (((wr.setCell ⟨w.heap.size, 0, none⟩ x).setCell ⟨w.heap.size, 1, none⟩ y).setCell ⟨w.heap.size, 2, none⟩ z) := (((Below.refl w.heap.size wr).setCell (p := ⟨w.heap.size, 0, none⟩) (Nat.le_refl w.heap.size) x).setCell (p := ⟨w.heap.size, 1, none⟩) (Nat.le_refl w.heap.size) y).setCell (p := ⟨w.heap.size, 2, none⟩) (Nat.le_refl w.heap.size) z
  have hk : ∀ g, g ≠ w.heap.size → (((wr.setCell ⟨w.heap.size, 0, none⟩ x).setCell ⟨w.heap.size, 1, none⟩ y).setCell ⟨w.heap.size, 2, none⟩ z).heap[g]? = wr.heap[g]? := fun g hg => by
    rw [Below.heap_setCell _ _ _ _ (show g ≠ w.heap.size from hg), Below.heap_setCell _ _ _ _ (show g ≠ w.heap.size from hg), Below.heap_setCell _ _ _ _ (show g ≠ w.heap.size from hg)]
  have hbn : b ≠ w.heap.size := fun e => by
    have h1 := h.ms.book
    have h2 := h.res
    unfold Blk at h1 h2
    rw [e, h2] at h1
    cases h1
  refine ⟨h.res.set3 x y z, ((h.below0.setCell hsz _).setCell hsz _).setCell hsz _, fun i hi a1 => (hk i (by omega)).trans (h.off i hi a1), by have := hB.size; have := h.size; omega, ?_⟩
  exact h.ms.of_blocks h.res hk (h.ms.book.of (hk b hbn))
theorem TS.start (hb0 : Below w0.heap.size w0 w) (hbge : w0.heap.size ≤ b) (hc : Blk w c 68 #[v0, v1, v2, v3, v4, v5, v6, v7, .pointer (some ⟨b, 0, none⟩)]) (hM : MS w b m1 m2 m3 m4 m5 t0 t1 t2 t3 t4 t5 t6 t7 M) :
    TS w0 w c b m1 m2 m3 m4 m5 v0 v1 v2 v3 v4 v5 v6 v7 t0 t1 t2 t3 t4 t5 t7 M (((w.alloc (.cells #[.int .i64 0, .int .i64 0, .int .i64 0] 40)).setCell ⟨b, 6, none⟩ v6).drew) := by
  have hB : Below w.heap.size w (w.alloc (.cells #[.int .i64 0, .int .i64 0, .int .i64 0] 40)) := (Below.refl _ w).alloc (Nat.le_refl _) _
  have hM1 := hM.below hB
  have hbl := hM.book.lt
  have hk : ∀ i, i ≠ b → (((w.alloc (.cells #[.int .i64 0, .int .i64 0, .int .i64 0] 40)).setCell ⟨b, 6, none⟩ v6).drew).heap[i]? = (w.alloc (.cells #[.int .i64 0, .int .i64 0, .int .i64 0] 40)).heap[i]? := fun i hi => Below.heap_setCell _ _ _ _ (show i ≠ b from hi)
  have hcb : c ≠ b := fun e => by
    have h1 := hM.book
    have h2 := hc
    unfold Blk at h1 h2
    rw [← e, h2] at h1
    cases h1
  have hbk : Blk ((w.alloc (.cells #[.int .i64 0, .int .i64 0, .int .i64 0] 40)).setCell ⟨b, 6, none⟩ v6) b 66 #[t0, t1, t2, t3, t4, t5, v6, t7, .map (some m1), .map (some m2), .map (some m3), .map (some m4), .map (some m5)] := by
    have h := hM1.book.set_ 6 v6
    simpa using h
  refine ⟨((below_trans hb0 hB).setCell hbge _).drew, by simp [World.drew, World.setCell], fun i hi hne => (hk i hne).trans (hB.block i hi), (Blk.new w _ _).of (hk _ (by omega)), (hc.below hB).of (hk c hcb), hM1.of_blocks hM1.book hk (hbk.of rfl)⟩
end
set_option maxRecDepth 100000 in
set_option maxHeartbeats 8000000 in
theorem chk_tos {w0 w : World} {v0 v1 v2 v3 v4 v5 v6 v7 t0 t1 t2 t3 t4 t5 t6 t7 : Value} (T : Tab) (h : TabAt w0 v0 v1 v2 v3 v4 v5 v6 v7 T) (hok : TabOk T) (c b : Nat) {m1 m2 m3 m4 m5 : Nat} (hb0 : Below w0.heap.size w0 w) (hbge : w0.heap.size ≤ b) (hc : Blk w c 68 #[v0, v1, v2, v3, v4, v5, v6, v7, .pointer (some ⟨b, 0, none⟩)])
    (hM : MS w b m1 m2 m3 m4 m5 t0 t1 t2 t3 t4 t5 t6 t7 (mapsOf T)) (hmk : scan markAt 3 0 T.marks = none) (hdo : InOrder T.drops) (hf : scan mapAt 5 0 T.folds = none) (hlk : scan mapAt 6 0 T.looks = none) :
    Calls Tryz.prog 29 #[.pointer (some ⟨c, 0, none⟩)] w fun e w' => e = .returned (wrongV (tosP T)) ∧ Below w0.heap.size w0 w' ∧ (∀ i, i < w.heap.size → i ≠ b → w'.heap[i]? = w.heap[i]?) ∧ w.heap.size ≤ w'.heap.size ∧ MS w' b m1 m2 m3 m4 m5 t0 t1 t2 t3 t4 t5 v6 t7 (mapsOf T) := by
  have HO := Lib.hid hok
  have HK := Lib.hid hmk
  have HSZ := Lib.hid hb0.size
  have HDO := Lib.hid hdo
  have HF5 := Lib.hid hf
  have HF6 := Lib.hid hlk
  obtain ⟨A0, c0, rfl, hn0⟩ := h.formS
  obtain ⟨A1, c1, rfl, hn1⟩ := h.common.form
  obtain ⟨A2, c2, rfl, hn2⟩ := h.marks.form
  obtain ⟨A3, c3, rfl, hn3⟩ := h.pairs.form
  obtain ⟨A4, c4, rfl, hn4⟩ := h.folds.form
  obtain ⟨A5, c5, rfl, hn5⟩ := h.looks.form
  obtain ⟨A6, c6, rfl, hn6⟩ := h.drops.form
  obtain ⟨A7, c7, rfl, hn7⟩ := h.allowed.form
  have HT := Lib.hid h
  obtain ⟨n0, hln0⟩ : ∃ n, T.scripts.length = n := ⟨_, rfl⟩
  rw [hln0] at HT hc hn0
  have HLn0 := Lib.hid hln0
  clear hln0
  obtain ⟨n1, hln1⟩ : ∃ n, T.common.length = n := ⟨_, rfl⟩
  rw [hln1] at HT hc hn1
  have HLn1 := Lib.hid hln1
  clear hln1
  obtain ⟨n2, hln2⟩ : ∃ n, T.marks.length = n := ⟨_, rfl⟩
  rw [hln2] at HT hc hn2
  have HLn2 := Lib.hid hln2
  clear hln2
  obtain ⟨n3, hln3⟩ : ∃ n, T.pairs.length = n := ⟨_, rfl⟩
  rw [hln3] at HT hc hn3
  have HLn3 := Lib.hid hln3
  clear hln3
  obtain ⟨n4, hln4⟩ : ∃ n, T.folds.length = n := ⟨_, rfl⟩
  rw [hln4] at HT hc hn4
  have HLn4 := Lib.hid hln4
  clear hln4
  obtain ⟨n5, hln5⟩ : ∃ n, T.looks.length = n := ⟨_, rfl⟩
  rw [hln5] at HT hc hn5
  have HLn5 := Lib.hid hln5
  clear hln5
  obtain ⟨n6, hln6⟩ : ∃ n, T.drops.length = n := ⟨_, rfl⟩
  rw [hln6] at HT hc hn6 ⊢
  have HLn6 := Lib.hid hln6
  clear hln6
  obtain ⟨n7, hln7⟩ : ∃ n, T.allowed.length = n := ⟨_, rfl⟩
  rw [hln7] at HT hc hn7
  have HLn7 := Lib.hid hln7
  clear hln7
  have HS0 := Lib.hid (TS.start hb0 hbge hc hM)
  have hB : Below w.heap.size w (w.alloc (.cells #[.int .i64 0, .int .i64 0, .int .i64 0] 40)) := (Below.refl _ w).alloc (Nat.le_refl _) _
  obtain ⟨-, -, -, -, -, -, d6, -, d8⟩ := chk_facts (hc.below hB)
  have x6 : (w.alloc (.cells #[.int .i64 0, .int .i64 0, .int .i64 0] 40)).cell? ⟨b, 6, none⟩ = some t6 := (hM.book.below hB).cell 6
  have xf := (hM.book.below hB).frozen 6
  have hcb : c ≠ b := fun e => by
    have h1 := hM.book
    have h2 := hc
    unfold Blk at h1 h2
    rw [← e, h2] at h1
    cases h1
  have HS1 := Lib.hid (HS0.out.chk)
  obtain ⟨-, -, -, -, -, -, y6, -, y8⟩ := chk_facts HS1.out
  clear h hok hc hM hmk hdo hf hlk hb0 hbge hB HS1
  go_enter Tryz.func29, Tryz.ntmps29
  go_wp2_with fail
  go_region_held3 (fun w' => w'.cell? ⟨c, 8, none⟩ = some (.pointer (some ⟨b, 0, none⟩)) ∧ w'.cell? ⟨c, 6, none⟩ = some (.slice A6 n6 c6)) (first | go_keep | exact ⟨y8, y6⟩) (fail)
  obtain ⟨wr, hwr⟩ : ∃ wr, ((w.alloc (.cells #[.int .i64 0, .int .i64 0, .int .i64 0] 40)).setCell ⟨b, 6, none⟩ (.slice A6 n6 c6)).drew = wr := ⟨_, rfl⟩
  rw [hwr] at HS0 ⊢
  have Hr := HS0
  clear hwr HS0 x6 xf y6 y8 d6 d8
  obtain ⟨d0, d1, d2, d3, d4, d5, d6, d7, d8⟩ := chk_facts Hr.out.chk
  go_wp2_with fail
  go_loopw [31] (fun i wr => ∃ k : Nat, k ≤ n4 ∧ i = .int .i64 (k : Int) ∧ NoneTo (tosF T) T.folds k ∧ TS w0 w c b m1 m2 m3 m4 m5 (.slice A0 n0 c0) (.slice A1 n1 c1) (.slice A2 n2 c2) (.slice A3 n3 c3) (.slice A4 n4 c4) (.slice A5 n5 c5) (.slice A6 n6 c6) (.slice A7 n7 c7) t0 t1 t2 t3 t4 t5 t7 (mapsOf T) wr) (fun i _ => n4 - (intOf i).toNat)
  case atStart => exact ⟨0, Nat.zero_le _, rfl, NoneTo.zero _ _, Hr.out⟩
  case round =>
    clear Hr
    obtain ⟨k, hk, rfl, hno, hrs⟩ := hrel
    have Hno := Lib.hid hno
    have Hr := Lib.hid hrs
    by_cases hlt : k < n4
    · obtain ⟨m, hm⟩ : ∃ m, T.folds[k]? = some m := ⟨_, List.getElem?_eq_getElem (by rw [HLn4.out]; exact hlt)⟩
      obtain ⟨a, rfl, e0, e1⟩ := el2 HT.out.folds hrs.below0 hm rfl
      have Hm := Lib.hid hm
      have k0 : (0 : Int) ≤ (k : Int) := by omega
      have k1 : (k : Int) < (n4 : Int) := by omega
      have HE := Lib.hid ((Below.refl _ wr).alloc (Nat.le_refl _) (.cells #[.int .i32 m.frm, .string m.to] 79))
      have Hx := Lib.hid (Blk.new wr 79 #[.int .i32 m.frm, .string m.to])
      have h0 := scan_zero HF5.out k m hm
      have hrun0 := runesD_of h0
      have hszm := (HO.out.folds m (List.mem_of_getElem? hm)).2
      have Hf : Hid (tosF T k m = if (runesD m.to).any (fun r => !plainL T r) = true then 35 else 0) := Lib.hid rfl
      have HrE := Lib.hid (Hr.out.step HE.out)
      generalize hD : runesD m.to = D at *
      clear hD
      have Hrun0 := Lib.hid hrun0
      clear h0 hrun0 hno hrs hm
      go_wp2_with fail
      obtain ⟨wo, rfl⟩ : ∃ x, x = wr := ⟨_, rfl⟩
      have hsz1 : (wo.alloc (.cells #[.int .i32 m.frm, .string m.to] 79)).heap.size = wo.heap.size + 1 := by simp
      obtain ⟨W1, hW1⟩ : ∃ W1, wo.alloc (.cells #[.int .i32 m.frm, .string m.to] 79) = W1 := ⟨_, rfl⟩
      rw [hW1] at hsz1 HE HrE Hx ⊢
      have Hst : Hid (ItAt W1 (wo.heap.size + 1) m.to 0 (W1.iter m.to 0)) := Lib.hid (by rw [← hsz1]; exact ItAt.start (Below.refl _ _))
      have Hz1 := Lib.hid hsz1
      clear hW1 e0 e1 Hx
      go_loopw [6] (fun _ wr => ∃ (p : Nat) (dn rest : List Int), p ≤ m.to.size ∧ Hid (runesFrom m.to p = some rest) ∧ Hid (D = dn ++ rest) ∧ Hid (dn.any (fun r => !plainL T r) = false) ∧ ItAt W1 (wo.heap.size + 1) m.to p wr) (fun _ wr => m.to.size - wr.iterPos (wo.heap.size + 1))
      case atStart => exact ⟨0, [], D, Nat.zero_le _, Hrun0, Lib.hid rfl, Lib.hid rfl, Hst.out⟩
      case round =>
        clear Hst hsz1
        obtain ⟨p, dn, rest, hp, hrun, hsp, hdn, hit⟩ := hrel
        by_cases hlt2 : p < m.to.size
        · have hnx := fun ty => Lib.run_next_any_at (P := Tryz.prog) wr (wo.heap.size + 1) m.to p ty hit.it hlt2
          obtain ⟨rest', hre, hrun'⟩ := runesFrom_cons hlt2 hrun.out
          have hw := Lib.decode_width_pos m.to p hlt2
          have hru : (Utf8.decode m.to p).1 ≤ 1114111 := by have h := Lib.decodeL_rune (m.to.data.toList.drop p); rw [Lib.decodeL_drop] at h; exact h
          have hn1 := hit.next (by have := Hz1.out; omega) (p + (Utf8.decode m.to p).2)
          have hpos := hit.pos
          have hle : p + (Utf8.decode m.to p).2 ≤ m.to.size := by have h := Lib.decodeL_le (m.to.data.toList.drop p) (fun e => by have h := congrArg List.length e; rw [List.length_drop, Array.length_toList] at h; simp at h; have : m.to.data.size = m.to.size := rfl; omega); rw [Lib.decodeL_drop, List.length_drop, Array.length_toList] at h; have : m.to.data.size = m.to.size := rfl; omega
          generalize wr.iterAt (wo.heap.size + 1) m.to (p + (Utf8.decode m.to p).2) = w3 at *
          generalize (Utf8.decode m.to p).2 = wd at *
          generalize (Utf8.decode m.to p).1 = rn at *
          have hts := HrE.out.step hn1.below
          obtain ⟨-, -, -, -, -, -, -, -, d8⟩ := chk_facts hts.chk
          have Hsn := Lib.hid (show D = (dn ++ [(rn : Int)]) ++ rest' by rw [hsp.out, hre]; simp)
          have i1 : i32 (rn : Int) := by unfold i32; omega
          have HP := Lib.hid (fun z (hz : plainL T (rn : Int) = z) => (book_Plain T hts.ms HK.out (HT.out.drops.below hts.below0) HDO.out (rn : Int) i1).mono (R' := fun e w' => e = .returned (.bool z) ∧ Below w3.heap.size w3 w') (fun e w' h => ⟨by rw [← hz]; exact h.1, h.2⟩))
          have Hn1 := Lib.hid hn1
          have Hits := Lib.hid hit
          have Hpos := Lib.hid hpos
          have Hrun' := Lib.hid hrun'
          clear hit hn1 hts hre hrun' hpos hrun i1
          cases hz : plainL T (rn : Int) with
          | false =>
            have H0 : Hid (tosF T k m = 35) := Lib.hid (by rw [Hf.out, if_pos (by rw [Hsn.out, List.any_append, List.any_append]; simp [hz])])
            go_wp2_with (first | (go_at_call 61; refine (HP.out _ (by assumption)).mono ?_; rintro e w2 ⟨rfl, hb2⟩; have HB2 := Lib.hid (below_trans HE.out (Below.trans Hn1.out.below (hb2.mono Hn1.out.below.size)))) | (go_at_call 53; refine (tab_wrong _ _ _ _).mono ?_; rintro e w9 ⟨rfl, hb9⟩; have h9 := (Hr.out.step HB2.out).step hb9; obtain ⟨r1, r2, r3, f1, f2, f3⟩ := h9.resF; have H9 := Lib.hid h9; clear h9))
            have hval : tosP T = some (35, 5, (k : Int)) := by unfold tosP; rw [Hno.out.found Hm.out (by rw [H0.out]; decide) 5, H0.out]; first | done | rfl
            obtain ⟨hB, hW1, hW2, hW3, hMs⟩ := (H9.out).retF HSZ.out (.int .i64 35) (.int .i64 5) (.int .i64 (k : Int))
            obtain ⟨s1, s2, s3, -, -, -⟩ := wrong_facts hB
            refine bodyPost_ret (v := .agg #[.int .i64 35, .int .i64 5, .int .i64 (k : Int)]) ?_ rfl ⟨?_, hW1, hW2, hW3, hMs⟩
            · simp [results, Tryz.results29, go_sem, s1, s2, s3]
            · rw [hval]; rfl
          | true =>
            go_wp2_with (go_at_call 61; refine (HP.out _ (by assumption)).mono ?_; rintro e w2 ⟨rfl, hb2⟩; have HB2 := Lib.hid (below_trans HE.out (Below.trans Hn1.out.below (hb2.mono Hn1.out.below.size))))
            go_roundw
            case rel => exact ⟨p + wd, dn ++ [(rn : Int)], rest', hle, Hrun', Hsn, Lib.hid (by rw [List.any_append, hdn.out]; simp [hz]), Hn1.out.step hb2⟩
            case measure => rw [(Hn1.out.step hb2).pos, Hpos.out]; omega
        · obtain rfl : p = m.to.size := by omega
          have hnx := fun ty => Lib.run_next_end_at (P := Tryz.prog) wr (wo.heap.size + 1) m.to m.to.size ty hit.it (by omega)
          have hre : rest = [] := by have h := hrun.out; rw [runesFrom_end (Nat.le_refl _)] at h; cases h; rfl
          have H0 : Hid (tosF T k m = 0) := Lib.hid (by rw [Hf.out, if_neg (by rw [hsp.out, hre, List.append_nil, hdn.out]; simp)])
          have Hits := Lib.hid hit
          clear hit hrun hsp
          go_wp2_with fail
          go_roundw
          case rel => exact ⟨k + 1, by omega, by go_num, Hno.out.succ Hm.out H0.out, Hr.out.step (below_trans HE.out Hits.out.below)⟩
          case measure => simp [intOf]; omega
    · have hkn : n4 = k := by omega
      subst hkn
      have HN0 : Hid (scan (tosF T) 5 0 T.folds = none) := Lib.hid (NoneTo.all (by rw [HLn4.out]; exact Hno.out) 5)
      obtain ⟨d0, d1, d2, d3, d4, d5, d6, d7, d8⟩ := chk_facts Hr.out.chk
      clear Hno hno hrs
      go_wp2_with fail
      go_loopw [58] (fun i wr => ∃ k : Nat, k ≤ n5 ∧ i = .int .i64 (k : Int) ∧ NoneTo (tosL T) T.looks k ∧ TS w0 w c b m1 m2 m3 m4 m5 (.slice A0 n0 c0) (.slice A1 n1 c1) (.slice A2 n2 c2) (.slice A3 n3 c3) (.slice A4 n4 c4) (.slice A5 n5 c5) (.slice A6 n6 c6) (.slice A7 n7 c7) t0 t1 t2 t3 t4 t5 t7 (mapsOf T) wr) (fun i _ => n5 - (intOf i).toNat)
      case atStart => exact ⟨0, Nat.zero_le _, rfl, NoneTo.zero _ _, Hr.out⟩
      case round =>
        clear Hr
        obtain ⟨k, hk, rfl, hno, hrs⟩ := hrel
        have Hno := Lib.hid hno
        have Hr := Lib.hid hrs
        by_cases hlt : k < n5
        · obtain ⟨m, hm⟩ : ∃ m, T.looks[k]? = some m := ⟨_, List.getElem?_eq_getElem (by rw [HLn5.out]; exact hlt)⟩
          obtain ⟨a, rfl, e0, e1⟩ := el2 HT.out.looks hrs.below0 hm rfl
          have Hm := Lib.hid hm
          have k0 : (0 : Int) ≤ (k : Int) := by omega
          have k1 : (k : Int) < (n5 : Int) := by omega
          have HE := Lib.hid ((Below.refl _ wr).alloc (Nat.le_refl _) (.cells #[.int .i32 m.frm, .string m.to] 79))
          have Hx := Lib.hid (Blk.new wr 79 #[.int .i32 m.frm, .string m.to])
          have h0 := scan_zero HF6.out k m hm
          have hrun0 := runesD_of h0
          have hszm := (HO.out.looks m (List.mem_of_getElem? hm)).2
          have Hf : Hid (tosL T k m = if (runesD m.to).any (fun r => !plainL T r || decide (0 ≤ fromI T.looks r)) = true then 36 else 0) := Lib.hid rfl
          have HrE := Lib.hid (Hr.out.step HE.out)
          generalize hD : runesD m.to = D at *
          clear hD
          have Hrun0 := Lib.hid hrun0
          clear h0 hrun0 hno hrs hm
          go_wp2_with fail
          obtain ⟨wo, rfl⟩ : ∃ x, x = wr := ⟨_, rfl⟩
          have hsz1 : (wo.alloc (.cells #[.int .i32 m.frm, .string m.to] 79)).heap.size = wo.heap.size + 1 := by simp
          obtain ⟨W1, hW1⟩ : ∃ W1, wo.alloc (.cells #[.int .i32 m.frm, .string m.to] 79) = W1 := ⟨_, rfl⟩
          rw [hW1] at hsz1 HE HrE Hx ⊢
          have Hst : Hid (ItAt W1 (wo.heap.size + 1) m.to 0 (W1.iter m.to 0)) := Lib.hid (by rw [← hsz1]; exact ItAt.start (Below.refl _ _))
          have Hz1 := Lib.hid hsz1
          clear hW1 e0 e1 Hx
          go_loopw [10] (fun _ wr => ∃ (p : Nat) (dn rest : List Int), p ≤ m.to.size ∧ Hid (runesFrom m.to p = some rest) ∧ Hid (D = dn ++ rest) ∧ Hid (dn.any (fun r => !plainL T r || decide (0 ≤ fromI T.looks r)) = false) ∧ ItAt W1 (wo.heap.size + 1) m.to p wr) (fun _ wr => m.to.size - wr.iterPos (wo.heap.size + 1))
          case atStart => exact ⟨0, [], D, Nat.zero_le _, Hrun0, Lib.hid rfl, Lib.hid rfl, Hst.out⟩
          case round =>
            clear Hst hsz1
            obtain ⟨p, dn, rest, hp, hrun, hsp, hdn, hit⟩ := hrel
            by_cases hlt2 : p < m.to.size
            · have hnx := fun ty => Lib.run_next_any_at (P := Tryz.prog) wr (wo.heap.size + 1) m.to p ty hit.it hlt2
              obtain ⟨rest', hre, hrun'⟩ := runesFrom_cons hlt2 hrun.out
              have hw := Lib.decode_width_pos m.to p hlt2
              have hru : (Utf8.decode m.to p).1 ≤ 1114111 := by have h := Lib.decodeL_rune (m.to.data.toList.drop p); rw [Lib.decodeL_drop] at h; exact h
              have hn1 := hit.next (by have := Hz1.out; omega) (p + (Utf8.decode m.to p).2)
              have hpos := hit.pos
              have hle : p + (Utf8.decode m.to p).2 ≤ m.to.size := by have h := Lib.decodeL_le (m.to.data.toList.drop p) (fun e => by have h := congrArg List.length e; rw [List.length_drop, Array.length_toList] at h; simp at h; have : m.to.data.size = m.to.size := rfl; omega); rw [Lib.decodeL_drop, List.length_drop, Array.length_toList] at h; have : m.to.data.size = m.to.size := rfl; omega
              generalize wr.iterAt (wo.heap.size + 1) m.to (p + (Utf8.decode m.to p).2) = w3 at *
              generalize (Utf8.decode m.to p).2 = wd at *
              generalize (Utf8.decode m.to p).1 = rn at *
              have hts := HrE.out.step hn1.below
              obtain ⟨-, -, -, -, -, -, -, -, d8⟩ := chk_facts hts.chk
              have Hsn := Lib.hid (show D = (dn ++ [(rn : Int)]) ++ rest' by rw [hsp.out, hre]; simp)
              have i1 : i32 (rn : Int) := by unfold i32; omega
              have HP := Lib.hid (fun z (hz : plainL T (rn : Int) = z) => (book_Plain T hts.ms HK.out (HT.out.drops.below hts.below0) HDO.out (rn : Int) i1).mono (R' := fun e w' => e = .returned (.bool z) ∧ Below w3.heap.size w3 w') (fun e w' h => ⟨by rw [← hz]; exact h.1, h.2⟩))
              obtain ⟨-, -, -, -, q12⟩ := hts.ms.cells
              have l1 := hts.ms.look_lk i1
              have hlf := lk_from (T := T) (rn : Int)
              generalize ((mapsOf T).lk (rn : Int)).getD ⟨#[]⟩ = y8 at l1
              generalize ((mapsOf T).lk (rn : Int)).isSome = y7 at l1 hlf
              have Hlf := Lib.hid hlf
              clear hlf
              have Hn1 := Lib.hid hn1
              have Hits := Lib.hid hit
              have Hpos := Lib.hid hpos
              have Hrun' := Lib.hid hrun'
              clear hit hn1 hts hre hrun' hpos hrun i1
              cases y7 with
              | true =>
                have HBn := Lib.hid (below_trans HE.out Hn1.out.below)
                have H0 : Hid (tosL T k m = 36) := Lib.hid (by rw [Hf.out, if_pos (by rw [Hsn.out, List.any_append, List.any_append]; simp [show (0 : Int) ≤ fromI T.looks (rn : Int) by simpa using Hlf.out.symm])])
                go_wp2_with (go_at_call 53; refine (tab_wrong _ _ _ _).mono ?_; rintro e w9 ⟨rfl, hb9⟩; have h9 := (Hr.out.step HBn.out).step hb9; obtain ⟨r1, r2, r3, f1, f2, f3⟩ := h9.resF; have H9 := Lib.hid h9; clear h9)
                have hval : tosP T = some (36, 6, (k : Int)) := by unfold tosP; rw [HN0.out, Hno.out.found Hm.out (by rw [H0.out]; decide) 6, H0.out]; first | done | rfl
                obtain ⟨hB, hW1, hW2, hW3, hMs⟩ := (H9.out).retF HSZ.out (.int .i64 36) (.int .i64 6) (.int .i64 (k : Int))
                obtain ⟨s1, s2, s3, -, -, -⟩ := wrong_facts hB
                refine bodyPost_ret (v := .agg #[.int .i64 36, .int .i64 6, .int .i64 (k : Int)]) ?_ rfl ⟨?_, hW1, hW2, hW3, hMs⟩
                · simp [results, Tryz.results29, go_sem, s1, s2, s3]
                · rw [hval]; rfl
              | false =>
                have hno2 : ¬ (0 : Int) ≤ fromI T.looks (rn : Int) := by simpa using Hlf.out.symm
                have Hno2 := Lib.hid hno2
                clear hno2
                cases hz : plainL T (rn : Int) with
                | false =>
                  have H0 : Hid (tosL T k m = 36) := Lib.hid (by rw [Hf.out, if_pos (by rw [Hsn.out, List.any_append, List.any_append]; simp [hz])])
                  go_wp2_with (first | (go_at_call 61; refine (HP.out _ (by assumption)).mono ?_; rintro e w2 ⟨rfl, hb2⟩; have HB2 := Lib.hid (below_trans HE.out (Below.trans Hn1.out.below (hb2.mono Hn1.out.below.size)))) | (go_at_call 53; refine (tab_wrong _ _ _ _).mono ?_; rintro e w9 ⟨rfl, hb9⟩; have h9 := (Hr.out.step HB2.out).step hb9; obtain ⟨r1, r2, r3, f1, f2, f3⟩ := h9.resF; have H9 := Lib.hid h9; clear h9))
                  have hval : tosP T = some (36, 6, (k : Int)) := by unfold tosP; rw [HN0.out, Hno.out.found Hm.out (by rw [H0.out]; decide) 6, H0.out]; first | done | rfl
                  obtain ⟨hB, hW1, hW2, hW3, hMs⟩ := (H9.out).retF HSZ.out (.int .i64 36) (.int .i64 6) (.int .i64 (k : Int))
                  obtain ⟨s1, s2, s3, -, -, -⟩ := wrong_facts hB
                  refine bodyPost_ret (v := .agg #[.int .i64 36, .int .i64 6, .int .i64 (k : Int)]) ?_ rfl ⟨?_, hW1, hW2, hW3, hMs⟩
                  · simp [results, Tryz.results29, go_sem, s1, s2, s3]
                  · rw [hval]; rfl
                | true =>
                  go_wp2_with (go_at_call 61; refine (HP.out _ (by assumption)).mono ?_; rintro e w2 ⟨rfl, hb2⟩; have HB2 := Lib.hid (below_trans HE.out (Below.trans Hn1.out.below (hb2.mono Hn1.out.below.size))))
                  go_roundw
                  case rel => exact ⟨p + wd, dn ++ [(rn : Int)], rest', hle, Hrun', Hsn, Lib.hid (by rw [List.any_append, hdn.out]; simp [hz, Hno2.out]), Hn1.out.step hb2⟩
                  case measure => rw [(Hn1.out.step hb2).pos, Hpos.out]; omega
            · obtain rfl : p = m.to.size := by omega
              have hnx := fun ty => Lib.run_next_end_at (P := Tryz.prog) wr (wo.heap.size + 1) m.to m.to.size ty hit.it (by omega)
              have hre : rest = [] := by have h := hrun.out; rw [runesFrom_end (Nat.le_refl _)] at h; cases h; rfl
              have H0 : Hid (tosL T k m = 0) := Lib.hid (by rw [Hf.out, if_neg (by rw [hsp.out, hre, List.append_nil, hdn.out]; simp)])
              have Hits := Lib.hid hit
              clear hit hrun hsp
              go_wp2_with fail
              go_roundw
              case rel => exact ⟨k + 1, by omega, by go_num, Hno.out.succ Hm.out H0.out, Hr.out.step (below_trans HE.out Hits.out.below)⟩
              case measure => simp [intOf]; omega
        · have hkn : n5 = k := by omega
          subst hkn
          have HN1 : Hid (scan (tosL T) 6 0 T.looks = none) := Lib.hid (NoneTo.all (by rw [HLn5.out]; exact Hno.out) 6)
          obtain ⟨d0, d1, d2, d3, d4, d5, d6, d7, d8⟩ := chk_facts Hr.out.chk
          clear Hno hno hrs
          obtain ⟨r1, r2, r3, f1, f2, f3⟩ := (Hr.out).resF
          go_wp2_with fail
          have hval : tosP T = none := by unfold tosP; rw [HN0.out, HN1.out]; first | done | rfl
          obtain ⟨hB, hW1, hW2, hW3, hMs⟩ := (Hr.out).retF HSZ.out (.int .i64 0) (.int .i64 0) (.int .i64 0)
          obtain ⟨s1, s2, s3, -, -, -⟩ := wrong_facts hB
          refine bodyPost_ret (v := .agg #[.int .i64 0, .int .i64 0, .int .i64 0]) ?_ rfl ⟨?_, hW1, hW2, hW3, hMs⟩
          · simp [results, Tryz.results29, go_sem, s1, s2, s3]
          · rw [hval]; rfl

end Go.Proofs.YtjmkdimbbacnfaaGreatDoor
