/- guiseref6: Runes (what is to be shown of it), script, maps: what they answer. -/
import Derived.Test.YtjmkdimbbacnfaaGreatDoorGRefC
namespace Go.Proofs.YtjmkdimbbacnfaaGreatDoor
open Go.RowKit
set_option linter.unusedVariables false
/-- the runes of a text in valid UTF-8 -/
def runesAt : Nat → Nat → List UInt8 → Option (List Int)
  | 0, _, _ => some []
  | f + 1, p, l => if l = [] then some [] else if isBadD (Lib.decodeL l) then none else (runesAt f (p + (Lib.decodeL l).2) (l.drop (Lib.decodeL l).2)).map (((Lib.decodeL l).1 : Int) :: ·)
where isBadD (x : Nat × Nat) : Bool := x.1 == 65533 && x.2 == 1
def runesOf (s : ByteArray) : Option (List Int) := runesAt s.size 0 s.data.toList

def RunesAtZ (w : World) (A : Option Addr) (ns : List Int) : Prop := 0 < ns.length → ∃ a : Addr, A = some a ∧ a.block < w.heap.size ∧ ∀ j, j < ns.length → w.cell? (a.add j) = some (.int .i32 (ns.getD j 0))
/-- what Runes answers -/
def RunesRes (w : World) (s : ByteArray) (e : Ending) : Prop :=
  match runesOf s with
  | none => e = .returned (.tuple #[.slice none 0 0, .bool false])
  | some rs => ∃ A c, e = .returned (.tuple #[.slice A rs.length c, .bool true]) ∧ RunesAtZ w A rs ∧ rs.length ≤ s.size

/-- what is to be shown of Runes -/
def RunesOK : Prop := ∀ (s : ByteArray) (w : World), s.size ≤ 2097152 →
    Calls Tryz.prog 85 #[.string s] w fun e w' => RunesRes w' s e ∧ Below w.heap.size w w'

/-- a script's form -/
def scriptW (s : ScrT) : Int := if nameOk s.name = false then 38 else match spansW s.spans 1 with | none => 0 | some (a, _, _) => a
theorem wrong_fst (o : Option (Int × Int × Int)) : ∃ b c : Int, wrongV o = .agg #[.int .i64 (match o with | none => 0 | some (a, _, _) => a), .int .i64 b, .int .i64 c] := by
  rcases o with _ | ⟨a, b, c⟩
  · exact ⟨_, _, rfl⟩
  · exact ⟨_, _, rfl⟩

set_option maxRecDepth 100000 in
set_option maxHeartbeats 2000000 in
theorem ref_script {w : World} {v : Value} (s : ScrT) (h : ListAt w v 2 (s.spans.map encSpan)) (hm : s.name.size ≤ 2097152) :
    Calls Tryz.prog 76 #[.agg #[.string s.name, v]] w fun e w' => e = .returned (.int .i64 (scriptW s)) ∧ Below w.heap.size w w' := by
  have HN := Lib.hid (fun w => ref_ScriptName s.name w hm)
  have b1 := (Below.refl w.heap.size w).alloc (Nat.le_refl _) (.cells #[.string s.name, v] 59)
  have HS := Lib.hid (ref_spans s.spans (h.below b1) 1)
  have Hb1 := Lib.hid b1
  obtain ⟨b, c, hw⟩ := wrong_fst (spansW s.spans 1)
  rw [hw] at HS
  have h2 : nameOk s.name = true → scriptW s = (match spansW s.spans 1 with | none => 0 | some (a, _, _) => a) := fun h => by unfold scriptW; rw [if_neg (by rw [h]; simp)]
  have h1 : nameOk s.name = false → scriptW s = 38 := fun h => by unfold scriptW; rw [if_pos h]
  generalize scriptW s = r at *
  generalize (match spansW s.spans 1 with | none => (0 : Int) | some (a, _, _) => a) = r2 at *
  have H1 := Lib.hid h1
  have H2 := Lib.hid h2
  clear h1 h2 hw h b1
  go_enter Tryz.func76, Tryz.ntmps76
  cases hn : nameOk s.name with
  | false =>
    rw [hn] at HN
    go_wp2_with (go_at_call 123; refine (HN.out _).mono ?_; rintro e w' ⟨rfl, rfl⟩)
    go_ret
    exact ⟨by rw [H1.out hn]; rfl, Hb1.out⟩
  | true =>
    rw [hn] at HN
    go_wp2_with (first
      | (go_at_call 123; refine (HN.out _).mono ?_; rintro e w' ⟨rfl, rfl⟩)
      | (go_at_call 77; refine HS.out.mono ?_; rintro e w2 ⟨rfl, hb2⟩))
    go_ret
    exact ⟨by rw [H2.out hn]; rfl, (below_trans Hb1.out hb2).alloc (below_trans Hb1.out hb2).size _⟩

/-- a map's form -/
def mapAt (_ : Nat) (m : MapT) : Int := if isRune m.frm = false then 12 else match runesOf m.to with | none => 35 | some rs => if 1 ≤ rs.length ∧ rs.length ≤ 4 then 0 else 35
def mapsW (l : List MapT) (list : Int) : Option (Int × Int × Int) := scan mapAt list 0 l

set_option maxRecDepth 100000 in
set_option maxHeartbeats 4000000 in
theorem ref_maps (HRU : RunesOK) {w : World} {v : Value} (l : List MapT) (h : ListAt w v 2 (l.map encMap)) (hok : ∀ m ∈ l, m.to.size ≤ 2097152) (list : Int) :
    Calls Tryz.prog 79 #[v, .int .i64 list] w fun e w' => e = .returned (wrongV (mapsW l list)) ∧ Below w.heap.size w w' := by
  have hl := h
  obtain ⟨A, c, rfl, hn, hc⟩ := h
  rw [List.length_map] at *
  obtain ⟨n, hln⟩ : ∃ n, l.length = n := ⟨_, rfl⟩
  rw [hln] at hn hl
  rw [hln]
  have Hl := Lib.hid hln
  have Hc := Lib.hid hc
  have Hok := Lib.hid hok
  clear hln hl hc hok
  go_enter Tryz.func79, Tryz.ntmps79
  go_wp2_with fail
  go_loopw [5, 6, 7] (fun i _ _ wr => ∃ k : Nat, k ≤ n ∧ i = .int .i64 (k : Int) ∧ NoneTo mapAt l k ∧ Below w.heap.size w wr ∧ Blk wr w.heap.size 40 #[.int .i64 0, .int .i64 0, .int .i64 0]) (fun i _ _ _ => n - (intOf i).toNat)
  case atStart => exact ⟨0, Nat.zero_le _, rfl, NoneTo.zero _ _, (Below.refl _ w).alloc (Nat.le_refl _) _, Blk.new w _ _⟩
  case round =>
    obtain ⟨k, hk, rfl, hno, hb, hblk⟩ := hrel
    have Hno := Lib.hid hno
    have Hb := Lib.hid hb
    have Hk := Lib.hid hblk
    by_cases hlt : k < n
    · obtain ⟨m, hm⟩ : ∃ m, l[k]? = some m := ⟨_, List.getElem?_eq_getElem (by rw [Hl.out]; exact hlt)⟩
      obtain ⟨a, rfl, hg, hcc⟩ := Hc.out (by rw [Hl.out]; omega)
      have e0 : w.cell? (a.add (k * 2)) = some (.int .i32 m.frm) := hcc k (encMap m) 0 _ (by rw [List.getElem?_map, hm]; rfl) rfl
      have e1 : w.cell? ⟨(a.add (k * 2)).block, (a.add (k * 2)).off + 1, none⟩ = some (.string m.to) := by rw [addr_fld a (k * 2) 0]; exact hcc k (encMap m) 1 _ (by rw [List.getElem?_map, hm]; rfl) rfl
      have c0 := (hb.cell (p := a.add (k * 2)) (by rw [addr_block']; exact hg)).trans e0
      have c1 := (hb.cell (p := ⟨(a.add (k * 2)).block, (a.add (k * 2)).off + 1, none⟩) (by show (a.add (k * 2)).block < _; rw [addr_block']; exact hg)).trans e1
      have HR := Lib.hid (fun w => ref_Rune m.frm w)
      have HU := Lib.hid (fun w => HRU m.to w (Hok.out m (List.mem_of_getElem? hm)))
      have Hm := Lib.hid hm
      have Hg : Hid (a.block < w.heap.size) := Lib.hid hg
      have E1 := Lib.hid c1
      have k0 : (0 : Int) ≤ (k : Int) := by omega
      have k1 : (k : Int) < (n : Int) := by omega
      clear hcc e0 e1 hm hno hb hblk hg
      cases hr : isRune m.frm with
      | false =>
        rw [hr] at HR
        have H0 : Hid (mapAt k m = 12) := Lib.hid (by unfold mapAt; rw [if_pos hr])
        obtain ⟨r1, r2, r3, f1, f2, f3⟩ := wrong_facts Hk.out
        go_wp2_with (go_at_call 78; refine (HR.out _).mono ?_; rintro e w' ⟨rfl, rfl⟩)
        obtain ⟨s1, s2, s3, -, -, -⟩ := wrong_facts (Hk.out.set3 (.int .i64 12) (.int .i64 list) (.int .i64 (k : Int)))
        refine bodyPost_ret (v := .agg #[.int .i64 12, .int .i64 list, .int .i64 (k : Int)]) ?_ rfl ⟨?_, below_set3 Hb.out _ _ _⟩
        · simp [results, Tryz.results79, go_sem, s1, s2, s3]
        · rw [show mapsW l list = _ from Hno.out.found Hm.out (by rw [H0.out]; decide) list, H0.out]
          rfl
      | true =>
        rw [hr] at HR
        unfold RunesRes at HU
        cases hu : runesOf m.to with
        | none =>
          rw [hu] at HU
          have H0 : Hid (mapAt k m = 35) := Lib.hid (by unfold mapAt; rw [if_neg (by rw [hr]; simp), hu])
          clear c1
          have c1 := E1.out
          go_wp2_with (first
            | (go_at_call 78; refine (HR.out _).mono ?_; rintro e w' ⟨rfl, rfl⟩)
            | (go_at_call 85; refine (HU.out _).mono ?_; rintro e w2 ⟨rfl, hb2⟩; obtain ⟨r1, r2, r3, f1, f2, f3⟩ := wrong_facts (Hk.out.below hb2)))
          obtain ⟨s1, s2, s3, -, -, -⟩ := wrong_facts ((Hk.out.below hb2).set3 (.int .i64 35) (.int .i64 list) (.int .i64 (k : Int)))
          refine bodyPost_ret (v := .agg #[.int .i64 35, .int .i64 list, .int .i64 (k : Int)]) ?_ rfl ⟨?_, below_set3 (below_trans Hb.out hb2) _ _ _⟩
          · simp [results, Tryz.results79, go_sem, s1, s2, s3]
          · rw [show mapsW l list = _ from Hno.out.found Hm.out (by rw [H0.out]; decide) list, H0.out]
            rfl
        | some rs =>
          rw [hu] at HU
          dsimp only at HU
          have Hx : Hid (mapAt k m = if 1 ≤ rs.length ∧ rs.length ≤ 4 then 0 else 35) := Lib.hid (by unfold mapAt; rw [if_neg (by rw [hr]; simp), hu])
          clear c1
          have c1 := E1.out
          obtain ⟨z, hz⟩ : ∃ z, rs.length = z := ⟨_, rfl⟩
          rw [hz] at HU Hx
          clear hz hu hr
          by_cases h1 : (z : Int) < 1
          · have H0 : Hid (mapAt k m = 35) := Lib.hid (by rw [Hx.out, if_neg (by omega)])
            go_wp2_with (first
              | (go_at_call 78; refine (HR.out _).mono ?_; rintro e w' ⟨rfl, rfl⟩)
              | (go_at_call 85; refine (HU.out _).mono ?_; rintro e w2 ⟨⟨A2, c2, rfl, -, -⟩, hb2⟩; obtain ⟨r1, r2, r3, f1, f2, f3⟩ := wrong_facts (Hk.out.below hb2)))
            obtain ⟨s1, s2, s3, -, -, -⟩ := wrong_facts ((Hk.out.below hb2).set3 (.int .i64 35) (.int .i64 list) (.int .i64 (k : Int)))
            refine bodyPost_ret (v := .agg #[.int .i64 35, .int .i64 list, .int .i64 (k : Int)]) ?_ rfl ⟨?_, below_set3 (below_trans Hb.out hb2) _ _ _⟩
            · simp [results, Tryz.results79, go_sem, s1, s2, s3]
            · rw [show mapsW l list = _ from Hno.out.found Hm.out (by rw [H0.out]; decide) list, H0.out]
              rfl
          · by_cases h2 : (4 : Int) < (z : Int)
            · have H0 : Hid (mapAt k m = 35) := Lib.hid (by rw [Hx.out, if_neg (by omega)])
              go_wp2_with (first
                | (go_at_call 78; refine (HR.out _).mono ?_; rintro e w' ⟨rfl, rfl⟩)
                | (go_at_call 85; refine (HU.out _).mono ?_; rintro e w2 ⟨⟨A2, c2, rfl, -, -⟩, hb2⟩; obtain ⟨r1, r2, r3, f1, f2, f3⟩ := wrong_facts (Hk.out.below hb2)))
              obtain ⟨s1, s2, s3, -, -, -⟩ := wrong_facts ((Hk.out.below hb2).set3 (.int .i64 35) (.int .i64 list) (.int .i64 (k : Int)))
              refine bodyPost_ret (v := .agg #[.int .i64 35, .int .i64 list, .int .i64 (k : Int)]) ?_ rfl ⟨?_, below_set3 (below_trans Hb.out hb2) _ _ _⟩
              · simp [results, Tryz.results79, go_sem, s1, s2, s3]
              · rw [show mapsW l list = _ from Hno.out.found Hm.out (by rw [H0.out]; decide) list, H0.out]
                rfl
            · have H0 : Hid (mapAt k m = 0) := Lib.hid (by rw [Hx.out, if_pos (by omega)])
              go_wp2_with (first
                | (go_at_call 78; refine (HR.out _).mono ?_; rintro e w' ⟨rfl, rfl⟩)
                | (go_at_call 85; refine (HU.out _).mono ?_; rintro e w2 ⟨⟨A2, c2, rfl, -, -⟩, hb2⟩; obtain ⟨r1, r2, r3, f1, f2, f3⟩ := wrong_facts (Hk.out.below hb2)))
              go_roundw
              case rel => exact ⟨k + 1, by omega, by go_num, Hno.out.succ Hm.out H0.out, below_trans Hb.out hb2, Hk.out.below hb2⟩
              case measure => simp [intOf]; omega
    · obtain rfl : k = n := by omega
      obtain ⟨r1, r2, r3, f1, f2, f3⟩ := wrong_facts Hk.out
      clear hno hb hblk
      go_wp2_with fail
      obtain ⟨s1, s2, s3, -, -, -⟩ := wrong_facts (Hk.out.set3 (.int .i64 0) (.int .i64 0) (.int .i64 0))
      refine bodyPost_ret (v := .agg #[.int .i64 0, .int .i64 0, .int .i64 0]) ?_ rfl ⟨?_, below_set3 Hb.out _ _ _⟩
      · simp [results, Tryz.results79, go_sem, s1, s2, s3]
      · rw [show mapsW l list = none from NoneTo.all (by rw [Hl.out]; exact Hno.out) list]
        rfl

end Go.Proofs.YtjmkdimbbacnfaaGreatDoor
