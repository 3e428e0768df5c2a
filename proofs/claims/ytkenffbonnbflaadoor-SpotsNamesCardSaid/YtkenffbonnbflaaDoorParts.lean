/- Walk: (*spots.Text).Parts. -/
import Derived.Test.YtkenffbonnbflaaDoorBytes
import Derived.Deep.RegionLawGrows
namespace Go.Proofs.YtkenffbonnbflaaDoor
open Go.RowKit
set_option linter.unusedVariables false

/-- where the next piece ends -/
def stepTo (N pos : Nat) (c : Int) : Nat := pos + min c.toNat (N - pos)
theorem stepTo_int (N pos : Nat) (c : Int) (h : pos ≤ N) : (pos : Int) + min (max c 0) ((N : Int) - (pos : Int)) = (stepTo N pos c : Nat) := by unfold stepTo; omega
theorem stepTo_ge (N pos : Nat) (c : Int) : pos ≤ stepTo N pos c := by unfold stepTo; omega
theorem stepTo_le (N pos : Nat) (c : Int) (h : pos ≤ N) : stepTo N pos c ≤ N := by unfold stepTo; omega
/-- the pieces from a spot on -/
def pieces (s : ByteArray) : Nat → List Int → List ByteArray
  | _, [] => []
  | pos, c :: r => s.extract (bAt s pos) (bAt s (stepTo (nS s) pos c)) :: pieces s (stepTo (nS s) pos c) r
theorem pieces_length (s : ByteArray) : ∀ (pos : Nat) (l : List Int), (pieces s pos l).length = l.length
  | _, [] => rfl
  | pos, c :: r => by simp [pieces, pieces_length s]

/-- the k-th count, and behind them all the number of spots -/
def cAt (s : ByteArray) (cs : List Int) (k : Nat) : Int := (cs ++ [(nS s : Int)]).getD k 0
theorem cAt_drop (s : ByteArray) (cs : List Int) (k : Nat) (h : k < cs.length + 1) : (cs ++ [(nS s : Int)]).drop k = cAt s cs k :: (cs ++ [(nS s : Int)]).drop (k + 1) := by
  unfold cAt
  rw [List.drop_eq_getElem_cons (by simpa using h), List.getD_eq_getElem?_getD, List.getElem?_eq_getElem (by simpa using h)]
  rfl
theorem cAt_bd (s : ByteArray) (cs : List Int) (hs : nS s ≤ 65536) (hcs : ∀ c ∈ cs, -9223372036854775808 ≤ c ∧ c ≤ 9223372036854775807) (k : Nat) : -9223372036854775808 ≤ cAt s cs k ∧ cAt s cs k ≤ 9223372036854775807 := by
  unfold cAt
  rw [List.getD_eq_getElem?_getD]
  cases h : (cs ++ [(nS s : Int)])[k]? with
  | none => simp
  | some v =>
    have hm := List.mem_of_getElem? h
    rw [List.mem_append, List.mem_singleton] at hm
    rcases hm with hm | rfl
    · exact hcs _ hm
    · simp only [Option.getD_some]; omega
theorem infoStr : (Tryd.prog.info? 9).map (fun i => (i.zero, i.size, i.bytes)) = some (some (.string ByteArray.empty), 1, 16) := by kernel_rfl

set_option maxRecDepth 100000 in
set_option maxHeartbeats 2000000 in
theorem Parts_any {w : World} {T : Nat} {s : ByteArray} {gb cb gl cl : Nat} (h : TextIs w T s gb cb gl cl) (ao : Option Addr) (n cap : Nat) (cs : List Int) (hn : cs.length = n) (hnone : ao = none → n = 0 ∧ cap = 0)
    (hcells : ∀ b, ao = some b → ∀ j u, (cs.map (Value.int .i64))[j]? = some u → w.cell? (b.add j) = some u) (hcap : n ≤ cap) (hcap2 : cap ≤ maxLen) (hcs : ∀ c ∈ cs, -9223372036854775808 ≤ c ∧ c ≤ 9223372036854775807) (hsmall : n ≤ 2097152) :
    Calls Tryd.prog 78 #[.pointer (some ⟨T, 0, none⟩), .slice ao n cap] w fun e w' => ∃ v, e = .returned v ∧
      w'.ownsRow w.heap.size 9 1 v (n + 1) ((pieces s 0 (cs ++ [(nS s : Int)])).map Value.string) ∧ Below w.heap.size w w' := by
  obtain ⟨i0, hi, hz0, hz1, hz2⟩ := info_parts infoInt
  obtain ⟨j0, hj, hy0, hy1, hy2⟩ := info_parts infoStr
  have hs := h.size
  have hns := nS_le s
  unfold maxLen at hcap2
  have b1 : (0 : Int) ≤ (n : Int) := by omega
  have b2 : (n : Int) ≤ (cap : Int) := by omega
  go_enter Tryd.func78, Tryd.ntmps78
  go_wp2_with fail
  have c1 := h.c1
  have hT := h.tT
  go_region_held3 (fun w' => w'.cell? ⟨T, 1, none⟩ = some (.slice (some ⟨gb, 0, none⟩) (nS s + 1) cb))
    (first | go_keep | (rw [hgrow.cell_far ⟨T, 1, none⟩ (by simp; omega) (by simp)]; assumption))
    (first
      | (go_at_call 56; refine (Count_any (by first | exact h | exact h.drew)).mono ?_; rintro e w' ⟨rfl, rfl⟩)
      | (refine step_append_grows (by rfl) _ _ _ (by rfl) 3 i0 _ 1 8 Tryd.underlying75 hi hz0 hz1 hz2 rfl (by decide) ao n n (cs.map (Value.int .i64)) (by rfl) (fun e => ⟨(hnone e).1, (hnone e).1⟩) (by simp [hn]) (fun b hb j u hu => (((Below.refl w.heap.size w).alloc (Nat.le_refl _) (.cells #[.int .i64 (nS s : Int)] 3)).cell (World.block_lt_of_cell? w _ (hcells b hb j u hu))).trans (hcells b hb j u hu))
          ⟨w.heap.size, 0, none⟩ 1 1 [.int .i64 (nS s : Int)] (by rfl) (by rfl) (cells_new _ [_] _ _ rfl) (by simp [Value.oneCell']) (by omega) (by unfold maxLen; omega) (by omega) ?_; intro v' w1 hown1 hgrow; obtain ⟨g, c1, rfl, hge, hlt1⟩ := hown1.form (by omega)))
  have hb1 : Below w.heap.size w w1 := ((Below.refl w.heap.size w).alloc (Nat.le_refl _) (.cells #[.int .i64 (nS s : Int)] 3)).drew.grown hgrow (by simp) (fun k e => by cases e)
  have hE : ∀ k, k < n + 1 → w1.cell? ⟨g, k, none⟩ = some (.int .i64 (cAt s cs k)) := fun k hk => by
    rw [hown1.cellAt k (by omega), show cs.map (Value.int .i64) ++ [.int .i64 (nS s : Int)] = (cs ++ [(nS s : Int)]).map (Value.int .i64) by simp, List.getElem?_map, List.getElem?_eq_getElem (by simp; omega)]
    unfold cAt
    rw [List.getD_eq_getElem?_getD, List.getElem?_eq_getElem (by simp; omega)]
    rfl
  have h1 := h.below hb1
  have hbd := cAt_bd s cs (by omega) hcs
  have HE := Lib.hid hE
  have H1 := Lib.hid h1
  have Hbd := Lib.hid hbd
  have hs1 := hb1.size
  clear hE h1 hgrow hown1 hcells hbd
  go_wp2_with fail
  go_loopw [5, 6, 23] (fun v a i wr => ∃ (k pos : Nat) (acc : List ByteArray), k ≤ n + 1 ∧ i = .int .i64 (k : Int) ∧ a = .int .i64 (pos : Int) ∧ pos ≤ nS s ∧ acc.length = k ∧
      wr.ownsRow w1.heap.size 9 1 v k (acc.map Value.string) ∧ acc ++ pieces s pos ((cs ++ [(nS s : Int)]).drop k) = pieces s 0 (cs ++ [(nS s : Int)]) ∧ Below w1.heap.size w1 wr) (fun _ _ i _ => n + 1 - (intOf i).toNat)
  case atStart =>
    exact ⟨0, 0, [], Nat.zero_le _, rfl, rfl, Nat.zero_le _, rfl, World.ownsRow_nil _ _ _ _, by simp, Below.refl _ _⟩
  case round =>
    obtain ⟨k, pos, acc, hk, rfl, rfl, hpos, hacc, hown, hp, hb2⟩ := hrel
    have Hp := Lib.hid hp
    have Hacc := Lib.hid hacc
    clear hp hacc
    by_cases hlt : k < n + 1
    · have hcell : wr.cell? ⟨g, k, none⟩ = some (.int .i64 (cAt s cs k)) := (hb2.cell (p := ⟨g, k, none⟩) hlt1).trans (HE.out k hlt)
      obtain ⟨d1, d2⟩ := Hbd.out k
      have Hd := Lib.hid (cAt_drop s cs k (by omega))
      generalize cAt s cs k = c at *
      have H2 := H1.out.below hb2
      have HC := Lib.hid (Count_any H2)
      go_wp2_with (go_at_call 56; refine HC.out.mono ?_; rintro e w' ⟨rfl, rfl⟩)
      rw [stepTo_int (nS s) pos c hpos]
      have t1 := stepTo_ge (nS s) pos c
      have t2 := stepTo_le (nS s) pos c hpos
      have HS := Lib.hid (Slice_yes H2 pos (stepTo (nS s) pos c) t1 t2 (bAt_mono s _ _ t1 t2))
      have Ht := Lib.hid (show stepTo (nS s) pos c = stepTo (nS s) pos c from rfl)
      have hlt5 := hown.lt
      have hs2 := hb2.size
      generalize hto : stepTo (nS s) pos c = to at *
      have Hto := Lib.hid hto
      clear hto
      go_wp2_with (first
        | (go_at_call 73; refine HS.out.mono ?_; rintro e w' ⟨rfl, nd, rfl⟩)
        | (at_builtin; go_must (refine wpList_append_own _ rfl _ _ 107 rfl w1.heap.size 9 j0 _ 1 16 Tryd.underlying107 hj hy0 hy1 hy2 rfl (by decide) u5 k _ rfl (World.ownsRow.alloc (w := wr.drewN nd) hown _) ⟨wr.heap.size, 0, none⟩ 1 1 [.string (s.extract (bAt s pos) (bAt s to))] rfl rfl (cells_new (wr.drewN nd) [_] _ _ rfl) (by simp [Value.oneCell']) (by unfold maxLen; omega) (by omega) (by simp; omega) ?_); intro v' w2 hown' hgrow _))
      have hb3 : Below w1.heap.size w1 w2 := ((hb2.trans ⟨rfl, rfl, rfl, Nat.le_refl _, fun _ _ => rfl⟩ : Below w1.heap.size w1 (wr.drewN nd)).alloc (by simp; omega) _).grown hgrow (by simp; omega) (fun k e => (hlt5 k e).1)
      go_roundw
      case rel =>
        refine ⟨k + 1, to, acc ++ [s.extract (bAt s pos) (bAt s to)], by omega, by go_num, rfl, t2, by rw [List.length_append, Hacc.out]; rfl, ?_, ?_, hb3⟩
        · rw [List.map_append]
          exact hown'
        · rw [← Hp.out, Hd.out]
          simp only [pieces, Hto.out, List.append_assoc, List.singleton_append]
      case measure => simp [intOf]; omega
    · obtain rfl : k = n + 1 := by omega
      go_wp2
      go_ret
      refine ⟨_, rfl, ?_, hb1.trans (hb2.mono hs1)⟩
      have hp := Hp.out
      rw [List.drop_eq_nil_of_le (by simp; omega)] at hp
      simp only [pieces, List.append_nil] at hp
      rw [← hp]
      exact own_mono hown hs1
end Go.Proofs.YtkenffbonnbflaaDoor
