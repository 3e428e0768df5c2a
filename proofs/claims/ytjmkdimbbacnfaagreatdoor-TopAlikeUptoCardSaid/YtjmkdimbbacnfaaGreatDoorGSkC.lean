/- Texts as runes; what a right table says of a rune; the Book's methods. Fold, Look, look.Rune; strip.Strip. open.Rune: a rune taken apart. -/
import Derived.Test.YtjmkdimbbacnfaaGreatDoorGBld
import Derived.BigQuiet
import Derived.Laws.EntriesVeiled
namespace Go.Proofs.YtjmkdimbbacnfaaGreatDoor
section
open Go.RowKit
set_option linter.unusedVariables false
theorem addr_block (a : Addr) (j : Nat) : (a.add j).block = a.block := by unfold Addr.add; split <;> rfl
theorem addr_add0 (g o j : Nat) : (⟨g, o, none⟩ : Addr).add j = ⟨g, o + j, none⟩ := by unfold Addr.add; split <;> simp_all
/-- a slice that holds runes -/
def RunesAt (w : World) (A : Option Addr) (ns : List Int) : Prop := 0 < ns.length → ∃ a : Addr, A = some a ∧ a.block < w.heap.size ∧ ∀ j, j < ns.length → w.cell? (a.add j) = some (.int .i32 (ns.getD j 0))
theorem RunesAt.below {w w' : World} {A : Option Addr} {ns : List Int} (h : RunesAt w A ns) (hb : Below w.heap.size w w') : RunesAt w' A ns := fun hn => by
  obtain ⟨a, hg, hl, hc⟩ := h hn
  exact ⟨a, hg, Nat.lt_of_lt_of_le hl hb.size, fun j hj => (hb.cell (p := a.add j) (by rw [addr_block]; exact hl)).trans (hc j hj)⟩
/-- a text's runes; the text of runes -/
def rnF : Nat → List UInt8 → List Int
  | 0, _ => []
  | f + 1, l => if l.isEmpty then [] else ((Go.Lib.decodeL l).1 : Int) :: rnF f (l.drop (Go.Lib.decodeL l).2)
def rn (s : ByteArray) : List Int := rnF s.size s.data.toList
theorem spotsAt_r : ∀ (l : List UInt8) (a b : Nat), (spotsAt a l).map (·.r) = (spotsAt b l).map (·.r) := fun l => by
  induction l using spots_ind with
  | h0 => intro a b; rw [spotsAt_nil, spotsAt_nil]
  | h1 l hl ih => intro a b; rw [spotsAt_cons a l hl, spotsAt_cons b l hl, List.map_cons, List.map_cons, ih _ (b + (Go.Lib.decodeL l).2)]; rfl
theorem runesI_nil : runesI [] = [] := by unfold runesI runesN spots; rw [spotsAt_nil]; rfl
theorem runesI_cons {l : List UInt8} (hl : l ≠ []) : runesI l = ((Go.Lib.decodeL l).1 : Int) :: runesI (l.drop (Go.Lib.decodeL l).2) := by
  unfold runesI runesN spots
  rw [spotsAt_cons 0 _ hl, List.map_cons, List.map_cons, spotsAt_r _ _ 0]
  rfl
theorem rnF_I : ∀ (f : Nat) (l : List UInt8), l.length ≤ f → rnF f l = runesI l
  | 0, l, h => by
    have : l = [] := List.eq_nil_of_length_eq_zero (by omega)
    subst this
    rw [runesI_nil]; rfl
  | f + 1, l, h => by
    unfold rnF
    by_cases h0 : l = []
    · subst h0; rw [runesI_nil]; rfl
    · have hlt := decodeL_drop_lt l h0
      rw [if_neg (by simpa using h0), rnF_I f _ (by omega), ← runesI_cons h0]
theorem rn_def (s : ByteArray) : rn s = runesI s.data.toList := rnF_I _ _ (by simp)
def strR (l : List Int) : ByteArray := ⟨(encL l).toArray⟩
theorem rn_le (s : ByteArray) : (rn s).length ≤ s.size := by
  rw [rn_def, runesI_length]
  have := spots_length_le s.data.toList
  simpa using this
theorem strR_le (l : List Int) : (strR l).size ≤ 4 * l.length := by
  have := encL_length l
  show (encL l).toArray.size ≤ _
  simpa using this
theorem strR_toList (l : List Int) : (strR l).data.toList = encL l := by simp [strR]
theorem rn_valid (s : ByteArray) : ∀ r ∈ rn s, 0 ≤ r ∧ r ≤ 1114111 := fun r hr => by
  rw [rn_def] at hr
  unfold runesI runesN at hr
  rw [List.mem_map] at hr
  obtain ⟨n, hn, rfl⟩ := hr
  rw [List.mem_map] at hn
  obtain ⟨x, hx, rfl⟩ := hn
  have := (spotsAt_range s.data.toList 0 x hx).1
  exact ⟨Int.natCast_nonneg _, by simp only [Int.ofNat_eq_natCast]; omega⟩
theorem rn_i32 (s : ByteArray) : ∀ r ∈ rn s, i32 r := fun r hr => by
  have := rn_valid s r hr
  unfold i32
  omega
theorem rn_cons {s : ByteArray} {p : Nat} (hp : p < s.size) : runesI (s.data.toList.drop p) = ((Utf8.decode s p).1 : Int) :: runesI (s.data.toList.drop (p + (Utf8.decode s p).2)) := by
  have hne := drop_ne s p hp
  have hd : Go.Lib.decodeL (s.data.toList.drop p) = Utf8.decode s p := Lib.decodeL_drop s p
  rw [runesI_cons hne, hd, List.drop_drop]
theorem rn_end {s : ByteArray} {p : Nat} (hp : ¬ p < s.size) : runesI (s.data.toList.drop p) = [] := by
  rw [List.drop_of_length_le (by simp; omega), runesI_nil]
/-- string(l), l a slice of runes -/
theorem conv_runes {w : World} {A : Option Addr} {ns : List Int} {c : Nat} (h : RunesAt w A ns) : (convert 55 9 (.slice A ns.length c)).run Tryz.prog w = .ok (.string (strR ns)) w := by
  cases A with
  | none =>
    have : ns = [] := List.eq_nil_of_length_eq_zero (by
      rcases Nat.eq_zero_or_pos ns.length with h0 | h0
      · exact h0
      · obtain ⟨a, hg, _⟩ := h h0; cases hg)
    subst this
    exact run_convert_runes_nil w _ _ _ _ _ Tryz.underlying55 Tryz.underlying21 Tryz.underlying9
  | some a =>
    rcases Nat.eq_zero_or_pos ns.length with h0 | h0
    · have : ns = [] := List.eq_nil_of_length_eq_zero h0
      subst this
      exact run_convert_runes w _ _ _ a 0 c [] (Nat.le_refl _) Tryz.underlying55 Tryz.underlying21 Tryz.underlying9 (fun j hj => by simp at hj)
    · obtain ⟨b, hg, hl, hc⟩ := h h0
      cases hg
      have hr := run_convert_runes (P := Tryz.prog) w 55 9 21 a ns.length c ns (Nat.le_refl _) Tryz.underlying55 Tryz.underlying21 Tryz.underlying9 hc
      rw [List.take_length, runesBytes_eq] at hr
      exact hr
/-- what '[]rune(s)' lays -/
def rowR (s : ByteArray) (cap : Nat) : Array Value := ((rn s).map (Value.int .i32)).toArray ++ Array.replicate (cap - (rn s).length) (.int .i32 0)
theorem conv_to_runes (s : ByteArray) (w : World) (hs : s.size ≤ 70368744177664) : (convert 9 55 (.string s)).run Tryz.prog w = .ok (.slice (some ⟨w.heap.size, 0, none⟩) (rn s).length (grownCap w (rn s).length 0 21)) (w.drew.alloc (.cells (rowR s (grownCap w (rn s).length 0 21)) 21)) := by
  have hsz : (Conv.runesFrom s s.size 0 #[]).size = (rn s).length := by rw [runesFrom_all]; simp [rn_def]
  have hle := rn_le s
  have h := run_runes_of_string (P := Tryz.prog) w 9 55 21 s Tryz.underlying9 Tryz.underlying55 Tryz.underlying21 (by omega)
  rw [hsz, runesFrom_all, ← rn_def] at h
  exact h
theorem rowR_get (s : ByteArray) (cap j : Nat) (hj : j < (rn s).length) : (rowR s cap)[j]? = some (.int .i32 ((rn s).getD j 0)) := by
  unfold rowR
  rw [Array.getElem?_append_left (by simpa using hj)]
  simp [List.getElem?_map, List.getElem?_eq_getElem hj, List.getD_eq_getElem?_getD]
theorem rowR_runes (s : ByteArray) (cap : Nat) (w : World) : RunesAt (w.drew.alloc (.cells (rowR s cap) 21)) (some ⟨w.heap.size, 0, none⟩) (rn s) := fun _ =>
  ⟨⟨w.heap.size, 0, none⟩, rfl, by simp, fun j hj => by
    rw [addr_add0, Nat.zero_add]
    exact ((Blk.new w.drew 21 (rowR s cap)).cell j).trans (rowR_get s cap j hj)⟩

/-- what a right table says of a rune -/
def clsT (T : Tab) (r : Int) : Int := ((mapsOf T).cls r).getD 0
def foldR (T : Tab) (r : Int) : List Int := match (mapsOf T).fl r with | some t => rn t | none => [r]
def lookR (T : Tab) (r : Int) : List Int := match (mapsOf T).lk r with | some t => rn t | none => [r]
def apartF (T : Tab) : Nat → Int → List Int
  | 0, r => [r]
  | f + 1, r => match (mapsOf T).pr r with | some p => apartF T f p.1 ++ [p.2] | none => [r]
/-- the wholes in a rune end within f steps -/
def endsT (T : Tab) : Nat → Int → Prop
  | 0, r => (mapsOf T).pr r = none
  | f + 1, r => ∀ p, (mapsOf T).pr r = some p → endsT T f p.1
theorem runesAt_I : ∀ (f p : Nat) (l : List UInt8) (rs : List Int), runesAt f p l = some rs → l.length ≤ f → runesI l = rs
  | 0, p, l, rs, h, hl => by
    have : l = [] := List.eq_nil_of_length_eq_zero (by omega)
    subst this
    unfold runesAt at h
    cases h
    exact runesI_nil
  | f + 1, p, l, rs, h, hl => by
    unfold runesAt at h
    by_cases h0 : l = []
    · subst h0
      rw [if_pos rfl] at h
      cases h
      exact runesI_nil
    · rw [if_neg h0] at h
      split at h
      · cases h
      · have hlt := decodeL_drop_lt l h0
        cases hr : runesAt f (p + (Go.Lib.decodeL l).2) (l.drop (Go.Lib.decodeL l).2) with
        | none => rw [hr] at h; cases h
        | some r2 =>
          rw [hr] at h
          cases h
          rw [runesI_cons h0, runesAt_I f _ _ _ hr (by omega)]
theorem runesOf_rn {s : ByteArray} {rs : List Int} (h : runesOf s = some rs) : rn s = rs := (rn_def s).trans (runesAt_I _ _ _ _ h (by simp))
theorem mapAt_four {k : Nat} {m : MapT} (h : mapAt k m = 0) : (rn m.to).length ≤ 4 := by
  unfold mapAt at h
  split at h
  · cases h
  · cases hr : runesOf m.to with
    | none => rw [hr] at h; cases h
    | some rs =>
      rw [hr] at h
      dsimp only at h
      split at h
      · rename_i h4; rw [runesOf_rn hr]; exact h4.2
      · cases h
/-- a right table -/
structure RightT (T : Tab) : Prop where
  ok : TabOk T
  none : ∀ q, q < 9 → stepW T q = none
theorem right_of {T : Tab} (hok : TabOk T) (h : checkW T = none) : RightT T := by
  refine ⟨hok, ?_⟩
  rw [checkW_steps] at h
  have key : ∀ {a b : Option (Int × Int × Int)}, orW a b = none → a = none ∧ b = none := fun {a b} h => by
    cases a with
    | none => exact ⟨rfl, h⟩
    | some x => cases h
  obtain ⟨h0, h⟩ := key h
  obtain ⟨h1, h⟩ := key h
  obtain ⟨h2, h⟩ := key h
  obtain ⟨h3, h⟩ := key h
  obtain ⟨h4, h⟩ := key h
  obtain ⟨h5, h⟩ := key h
  obtain ⟨h6, h⟩ := key h
  obtain ⟨h7, h8⟩ := key h
  intro q hq
  match q, hq with
  | 0, _ => exact h0
  | 1, _ => exact h1
  | 2, _ => exact h2
  | 3, _ => exact h3
  | 4, _ => exact h4
  | 5, _ => exact h5
  | 6, _ => exact h6
  | 7, _ => exact h7
  | 8, _ => exact h8
  | q + 9, hq => omega
section
variable {T : Tab}
theorem RightT.drops (h : RightT T) : InOrder T.drops := (forms_parts (h.none 1 (by omega))).2.2.2.2.1
theorem RightT.allowed (h : RightT T) : InOrder T.allowed := (forms_parts (h.none 1 (by omega))).2.2.2.2.2
theorem RightT.common (h : RightT T) : InOrder T.common := (forms_parts (h.none 1 (by omega))).1
theorem fold4 (h : RightT T) (r : Int) : (foldR T r).length ≤ 4 := by
  unfold foldR mapsOf
  dsimp only
  cases hf : T.folds.find? fun m => decide (m.frm = r) with
  | none => simp
  | some m =>
    obtain ⟨j, hj, rfl⟩ := List.mem_iff_getElem.1 (List.mem_of_find?_eq_some hf)
    exact mapAt_four (scan_zero (forms_parts (h.none 1 (by omega))).2.2.1 j _ (List.getElem?_eq_getElem hj))
theorem look4 (h : RightT T) (r : Int) : (lookR T r).length ≤ 4 := by
  unfold lookR mapsOf
  dsimp only
  cases hf : T.looks.find? fun m => decide (m.frm = r) with
  | none => simp
  | some m =>
    obtain ⟨j, hj, rfl⟩ := List.mem_iff_getElem.1 (List.mem_of_find?_eq_some hf)
    exact mapAt_four (scan_zero (forms_parts (h.none 1 (by omega))).2.2.2.1 j _ (List.getElem?_eq_getElem hj))
theorem fl_size (h : RightT T) {r : Int} {t : ByteArray} (ht : (mapsOf T).fl r = some t) : t.size ≤ 2097152 := by
  unfold mapsOf at ht
  dsimp only at ht
  cases hf : T.folds.find? fun m => decide (m.frm = r) with
  | none => rw [hf] at ht; cases ht
  | some m => rw [hf] at ht; cases ht; exact (h.ok.folds m (List.mem_of_find?_eq_some hf)).2
theorem lk_size (h : RightT T) {r : Int} {t : ByteArray} (ht : (mapsOf T).lk r = some t) : t.size ≤ 2097152 := by
  unfold mapsOf at ht
  dsimp only at ht
  cases hf : T.looks.find? fun m => decide (m.frm = r) with
  | none => rw [hf] at ht; cases ht
  | some m => rw [hf] at ht; cases ht; exact (h.ok.looks m (List.mem_of_find?_eq_some hf)).2
theorem pr_i32 (h : RightT T) {r : Int} {p : Int × Int} (hp : (mapsOf T).pr r = some p) : i32 p.1 ∧ i32 p.2 := by
  unfold mapsOf at hp
  dsimp only at hp
  cases hf : T.pairs.find? fun m => decide (m.whole = r) with
  | none => rw [hf] at hp; cases hp
  | some m => rw [hf] at hp; cases hp; exact (h.ok.pairs m (List.mem_of_find?_eq_some hf)).2
end
/-- a Book of T at block b -/
def Bk (w : World) (b : Nat) (T : Tab) : Prop := BookAt w 0 b T
theorem Bk.below {w w' : World} {b : Nat} {T : Tab} (h : Bk w b T) (hb : Below w.heap.size w w') : Bk w' b T := BookAt.belowW h hb
theorem BookAt.bk {w : World} {n b : Nat} {T : Tab} (h : BookAt w n b T) : Bk w b T := h.mono (Nat.zero_le _)
/-- what Fold, Look answer -/
def ToRes (o : Option ByteArray) (e : Ending) (w : World) : Prop := match o with
  | none => e = .returned (.tuple #[.slice none 0 0, .bool false])
  | some t => ∃ A, e = .returned (.tuple #[.slice A (rn t).length (rn t).length, .bool true]) ∧ RunesAt w A (rn t)
section
variable {w : World} {b : Nat} {T : Tab}
set_option maxRecDepth 100000 in
set_option maxHeartbeats 1000000 in
theorem bk_Class (h : Bk w b T) {r : Int} (hr : i32 r) :
    Calls Tryz.prog 102 #[.pointer (some ⟨b, 0, none⟩), .int .i32 r] w fun e w' => e = .returned (.int .i64 (clsT T r)) ∧ w = w' := by
  obtain ⟨m1, m2, m3, m4, m5, u0, u1, u2, u3, u4, u5, u6, u7, -, -, -, -, -, -, ht, hM⟩ := h
  obtain ⟨q8, -, -, -, -⟩ := hM.cells
  have l1 := hM.look_cls hr
  rw [show ((mapsOf T).cls r).getD 0 = clsT T r from rfl] at l1
  clear ht hM
  go_enter Tryz.func102, Tryz.ntmps102
  go_wp2_with fail
  go_ret
  exact ⟨rfl, rfl⟩
set_option maxRecDepth 100000 in
set_option maxHeartbeats 1000000 in
theorem bk_Pair (h : Bk w b T) {r : Int} (hr : i32 r) {p : Int × Int} (hp : ((mapsOf T).pr r).getD (0, 0) = p) {ok : Bool} (ho : ((mapsOf T).pr r).isSome = ok) :
    Calls Tryz.prog 109 #[.pointer (some ⟨b, 0, none⟩), .int .i32 r] w fun e w' => e = .returned (.tuple #[.int .i32 p.1, .int .i32 p.2, .bool ok]) ∧ Below w.heap.size w w' := by
  obtain ⟨m1, m2, m3, m4, m5, u0, u1, u2, u3, u4, u5, u6, u7, -, -, -, -, -, -, ht, hM⟩ := h
  obtain ⟨-, q9, -, -, -⟩ := hM.cells
  have l1 := hM.look_pr hr
  rw [hp, ho] at l1
  clear ht hM hp ho
  have HB := Lib.hid ((Below.refl _ w).alloc (Nat.le_refl _) (.cells #[.int .i32 p.1, .int .i32 p.2] 112))
  go_enter Tryz.func109, Tryz.ntmps109
  go_wp2_with fail
  go_quiet (fail)
  go_wp2_with fail
  go_ret3
  exact ⟨rfl, Below.drwN HB.out _⟩
set_option maxHeartbeats 1000000 in
theorem clip_rune (A : Option Addr) (n c : Nat) (hle : n ≤ c) (hm : n ≤ 9007199254740992) (w : World) :
    Calls Tryz.prog 154 #[.slice A n c] w fun e w' => e = .returned (.slice A n n) ∧ w = w' := by
  have k0 : (0 : Int) ≤ (n : Int) := by omega
  have k1 : (n : Int) ≤ (c : Int) := by omega
  go_enter Tryz.func154, Tryz.ntmps154
  go_wp2_with fail
  go_ret
  exact ⟨rfl, rfl⟩
end
end
section
open Go.RowKit
set_option linter.unusedVariables false
section
variable {w : World} {b : Nat} {T : Tab}
set_option maxRecDepth 100000 in
set_option maxHeartbeats 1000000 in
theorem tab_to (m : Nat) (r : Int) (o : Option ByteArray) (w : World) (hl : (Instr.lookup 64 (.map (some m)) (.int .i32 r) true).run Tryz.prog w = .ok (.tuple #[.string (o.getD ⟨#[]⟩), .bool o.isSome]) w) (hs : ∀ t, o = some t → t.size ≤ 2097152) :
    Calls Tryz.prog 116 #[.map (some m), .int .i32 r] w fun e w' => ToRes o e w' ∧ Below w.heap.size w w' := by
  cases o with
  | none =>
    simp only [Option.getD_none, Option.isSome_none] at hl
    go_enter Tryz.func116, Tryz.ntmps116
    go_wp2_with fail
    go_ret2
    exact ⟨rfl, Below.refl _ _⟩
  | some t =>
    simp only [Option.getD_some, Option.isSome_some] at hl
    have hcv := conv_to_runes t w (by have := hs t rfl; omega)
    have hge := grownCap_ge w (rn t).length 0 21
    have hrn : (rn t).length ≤ 2097152 := Nat.le_trans (rn_le t) (hs t rfl)
    generalize grownCap w (rn t).length 0 21 = cap at hcv hge
    have HR := Lib.hid (rowR_runes t cap w)
    have HC := Lib.hid (clip_rune (some ⟨w.heap.size, 0, none⟩) (rn t).length cap hge (by omega))
    have HB := Lib.hid (((Below.refl w.heap.size w).drew).alloc (Nat.le_refl _) (.cells (rowR t cap) 21))
    clear hge hrn hs
    go_enter Tryz.func116, Tryz.ntmps116
    go_wp2_with (go_at_call 154; refine (HC.out _).mono ?_; rintro e w' ⟨rfl, rfl⟩)
    go_ret2
    exact ⟨⟨_, rfl, HR.out⟩, HB.out⟩
set_option maxRecDepth 100000 in
set_option maxHeartbeats 1000000 in
theorem bk_Fold (h : Bk w b T) (hR : RightT T) {r : Int} (hr : i32 r) :
    Calls Tryz.prog 107 #[.pointer (some ⟨b, 0, none⟩), .int .i32 r] w fun e w' => ToRes ((mapsOf T).fl r) e w' ∧ Below w.heap.size w w' := by
  obtain ⟨m1, m2, m3, m4, m5, u0, u1, u2, u3, u4, u5, u6, u7, -, -, -, -, -, -, ht, hM⟩ := h
  obtain ⟨-, -, -, q11, -⟩ := hM.cells
  have HT := Lib.hid (tab_to m4 r _ w (hM.look_fl hr) (fun t ht => fl_size hR ht))
  clear ht hM
  go_enter Tryz.func107, Tryz.ntmps107
  cases hf : (mapsOf T).fl r with
  | none =>
    rw [hf] at HT
    go_wp2_with (go_at_call 116; refine HT.out.mono ?_; rintro e w2 ⟨h2, hb2⟩; unfold ToRes at h2; subst h2)
    go_ret2
    exact ⟨rfl, hb2⟩
  | some t =>
    rw [hf] at HT
    go_wp2_with (go_at_call 116; refine HT.out.mono ?_; rintro e w2 ⟨⟨A, rfl, h2⟩, hb2⟩)
    go_ret2
    exact ⟨⟨_, rfl, h2⟩, hb2⟩
set_option maxRecDepth 100000 in
set_option maxHeartbeats 1000000 in
theorem bk_Look (h : Bk w b T) (hR : RightT T) {r : Int} (hr : i32 r) :
    Calls Tryz.prog 52 #[.pointer (some ⟨b, 0, none⟩), .int .i32 r] w fun e w' => ToRes ((mapsOf T).lk r) e w' ∧ Below w.heap.size w w' := by
  obtain ⟨m1, m2, m3, m4, m5, u0, u1, u2, u3, u4, u5, u6, u7, -, -, -, -, -, -, ht, hM⟩ := h
  obtain ⟨-, -, -, -, q12⟩ := hM.cells
  have HT := Lib.hid (tab_to m5 r _ w (hM.look_lk hr) (fun t ht => lk_size hR ht))
  clear ht hM
  go_enter Tryz.func52, Tryz.ntmps52
  cases hf : (mapsOf T).lk r with
  | none =>
    rw [hf] at HT
    go_wp2_with (go_at_call 116; refine HT.out.mono ?_; rintro e w2 ⟨h2, hb2⟩; unfold ToRes at h2; subst h2)
    go_ret2
    exact ⟨rfl, hb2⟩
  | some t =>
    rw [hf] at HT
    go_wp2_with (go_at_call 116; refine HT.out.mono ?_; rintro e w2 ⟨⟨A, rfl, h2⟩, hb2⟩)
    go_ret2
    exact ⟨⟨_, rfl, h2⟩, hb2⟩
theorem one_rune (w : World) (r : Int) (t : TypeId) : RunesAt (w.alloc (.cells #[.int .i32 r] t)) (some ⟨w.heap.size, 0, none⟩) [r] := fun _ =>
  ⟨⟨w.heap.size, 0, none⟩, rfl, by simp, fun j hj => by
    obtain rfl : j = 0 := by simpa using hj
    exact (Blk.new w t #[.int .i32 r]).cell 0⟩
set_option maxRecDepth 100000 in
set_option maxHeartbeats 1000000 in
theorem look_Rune (h : Bk w b T) (hR : RightT T) {r : Int} (hr : i32 r) :
    Calls Tryz.prog 20 #[.pointer (some ⟨b, 0, none⟩), .int .i32 r] w fun e w' => (∃ A c, e = .returned (.slice A (lookR T r).length c) ∧ RunesAt w' A (lookR T r)) ∧ Below w.heap.size w w' := by
  have HT := Lib.hid (bk_Look h hR hr)
  go_enter Tryz.func20, Tryz.ntmps20
  unfold lookR
  cases hf : (mapsOf T).lk r with
  | none =>
    rw [hf] at HT
    go_wp2_with (go_at_call 52; refine HT.out.mono ?_; rintro e w2 ⟨h2, hb2⟩; unfold ToRes at h2; subst h2)
    go_ret
    exact ⟨⟨_, ⟨_, rfl⟩, one_rune _ _ _⟩, hb2.alloc hb2.size _⟩
  | some t =>
    rw [hf] at HT
    go_wp2_with (go_at_call 52; refine HT.out.mono ?_; rintro e w2 ⟨⟨A, rfl, h2⟩, hb2⟩)
    go_ret
    exact ⟨⟨_, ⟨_, rfl⟩, h2⟩, hb2⟩
theorem bk_Dropped (h : Bk w b T) (hR : RightT T) (r : Int) {x : Bool} (hx : ofL r T.drops = x) :
    Calls Tryz.prog 113 #[.pointer (some ⟨b, 0, none⟩), .int .i32 r] w fun e w' => e = .returned (.bool x) ∧ Below w.heap.size w w' := by
  obtain ⟨m1, m2, m3, m4, m5, u0, u1, u2, u3, u4, u5, u6, u7, -, -, -, -, -, -, ht, hM⟩ := h
  subst hx
  exact book_Dropped hM T.drops ht.drops hR.drops r
end
/-- a Builder that holds these bytes, at block B, in memory from B on -/
def BldL (w : World) (B : Nat) (l : List UInt8) : Prop := Lib.IsBuilderF 52 5 B B (Lib.byteCells l) w
theorem grown_of_below {W W' : World} (h : Below W.heap.size W W') : W.grownBy W' none := ⟨h.os, h.tape, h.output, h.size, fun k hk _ => h.block k hk⟩
theorem bldAt_below {B b : Nat} {p : Value} {bs : List Value} {w w' : World} (h : Lib.BuilderAtF 52 5 B b p bs w) (hb : Below w.heap.size w w') : Lib.BuilderAtF 52 5 B b p bs w' := by
  have hl := h.lt
  obtain ⟨h1, v, h2, h3, h4⟩ := h
  refine ⟨h1, v, (hb.block b hl).trans h2, h3.kept (grown_of_below hb) ?_, h4⟩
  cases hv : v.ownBlock with
  | none => exact .inl rfl
  | some x => exact .inr (by simp)
theorem BldL.below {w w' : World} {B : Nat} {l : List UInt8} (h : BldL w B l) (hb : Below w.heap.size w w') : BldL w' B l := h.elim (fun h => .inl (bldAt_below h hb)) (fun h => .inr (bldAt_below h hb))
theorem BldL.lt {w : World} {B : Nat} {l : List UInt8} (h : BldL w B l) : B < w.heap.size := h.elim (fun h => h.lt) (fun h => h.lt)
theorem BldL.new (w : World) : BldL (w.alloc (.cells #[.pointer none, .slice none 0 0] 52)) w.heap.size [] := Lib.IsBuilderF.of (Lib.fresh_isBuilder _ _ _)
theorem byteCells_append (a b : List UInt8) : Lib.byteCells (a ++ b) = Lib.byteCells a ++ Lib.byteCells b := by simp [Lib.byteCells]
theorem bytes_length (a : List UInt8) : (Lib.byteCells a).length = a.length := by simp [Lib.byteCells]
theorem strCells_bytes (s : ByteArray) : Lib.strCells s = Lib.byteCells s.data.toList := by
  unfold Lib.strCells Lib.byteCells
  first | rfl | simp
theorem bldL_rune {w : World} {B : Nat} {l : List UInt8} (h : BldL w B l) (hl : l.length ≤ 100000000) {r : Int} (hr : i32 r) :
    Calls Tryz.prog 50 #[.pointer (some ⟨B, 0, none⟩), .int .i32 r] w fun e w' => (∃ m : Int, e = .returned (.tuple #[.int .i64 m, .nilIface])) ∧ BldL w' B (l ++ Lib.encodeRune r) ∧ Below B w w' ∧ Lib.OthersKept 5 (some B) w w' := by
  refine (bld_WriteRune B B _ r hr.1 hr.2 w h (by rw [bytes_length]; omega) (Nat.le_of_lt h.lt)).mono ?_
  rintro e w' ⟨he, h1, h2, h3⟩
  refine ⟨he, .inr ?_, h2, h3⟩
  rw [byteCells_append, Lib.byteCells_encodeRune]
  exact h1
theorem bldL_str {w : World} {B : Nat} {l : List UInt8} (h : BldL w B l) (hl : l.length ≤ 100000000) (s : ByteArray) (hs : s.size ≤ 100000000) :
    Calls Tryz.prog 19 #[.pointer (some ⟨B, 0, none⟩), .string s] w fun e w' => e = .returned (.tuple #[.int .i64 s.size, .nilIface]) ∧ BldL w' B (l ++ s.data.toList) ∧ Below B w w' ∧ Lib.OthersKept 5 (some B) w w' := by
  refine (bld_WriteString B B _ s w h (by rw [bytes_length]; omega) (Nat.le_of_lt h.lt)).mono ?_
  rintro e w' ⟨he, h1, h2, h3⟩
  refine ⟨he, .inr ?_, h2, h3⟩
  rw [byteCells_append, ← strCells_bytes]
  exact h1
theorem bldL_String {w : World} {B : Nat} {l : List UInt8} (h : BldL w B l) :
    Calls Tryz.prog 21 #[.pointer (some ⟨B, 0, none⟩)] w fun e w' => e = .returned (.string ⟨l.toArray⟩) ∧ Below B w w' :=
  (Tryz.Builder_String_any_k B B l w h (Nat.le_of_lt h.lt)).mono (fun e w' h => ⟨h.1, h.2.2.1⟩)

/-- strip.Strip's answer -/
def stripS (T : Tab) (s : ByteArray) : ByteArray := strR ((rn s).filter fun r => !ofL r T.drops)
set_option maxRecDepth 100000 in
set_option maxHeartbeats 1000000 in
theorem strip_1 {w : World} {B : Nat} {l : List UInt8} (h : BldL w B l) (hl : l.length ≤ 100000000) {r : Int} (hr : i32 r) (x y : Value) :
    Calls Tryz.prog 49 #[.agg #[x, y], .int .i32 r, .pointer (some ⟨B, 0, none⟩)] w fun e w' => e = .returned (.bool true) ∧ BldL w' B (l ++ Lib.encodeRune r) ∧ Below B w w' ∧ Lib.OthersKept 5 (some B) w w' := by
  have hb : Below w.heap.size w (w.alloc (.cells #[x, y] 82)) := (Below.refl _ w).alloc (Nat.le_refl _) _
  have H := Lib.hid (bldL_rune (h.below hb) hl hr)
  have HB := Lib.hid (hb.mono (Nat.le_of_lt h.lt))
  have HO : Hid (Lib.OthersKept 5 (some B) w (w.alloc (.cells #[x, y] 82))) := Lib.hid ((Lib.OthersKept.refl _ _ w).alloc _)
  clear h hb
  go_enter Tryz.func49, Tryz.ntmps49
  go_wp2_with (go_at_call 50; refine H.out.mono ?_; rintro e w2 ⟨⟨m, rfl⟩, h2, hb2, ho2⟩)
  go_ret
  exact ⟨rfl, h2, HB.out.trans hb2, HO.out.trans ho2⟩
/-- what the loop over a text holds: the builder, the iterator -/
structure StrA (w0 : World) (B g : Nat) (s : ByteArray) (p : Nat) (l : List UInt8) (wr : World) : Prop where
  bld : BldL wr B l
  below : Below B w0 wr
  it : wr.heap[g]? = some (.stringIter s p)
section
variable {w0 wr w2 : World} {B g p : Nat} {s : ByteArray} {l l2 : List UInt8}
theorem StrA.lt (h : StrA w0 B g s p l wr) : g < wr.heap.size := (Array.getElem?_eq_some_iff.1 h.it).1
theorem StrA.step (h : StrA w0 B g s p l wr) (hb : Below wr.heap.size wr w2) : StrA w0 B g s p l w2 :=
  ⟨h.bld.below hb, h.below.trans (hb.mono (Nat.le_of_lt h.bld.lt)), (hb.block g h.lt).trans h.it⟩
theorem StrA.next (h : StrA w0 B g s p l wr) (hg : B ≤ g) (q : Nat) : StrA w0 B g s q l (wr.iterAt g s q) :=
  ⟨Lib.IsBuilderF.iterAt h.bld h.it q, Lib.below_iterAt h.below hg s q, Lib.iterAt_heap _ _ _ _ _ h.it⟩
theorem StrA.write (h : StrA w0 B g s p l wr) (hg : g ≠ B) (hB : BldL w2 B l2) (hb : Below B wr w2) (ho : Lib.OthersKept 5 (some B) wr w2) : StrA w0 B g s p l2 w2 :=
  ⟨hB, h.below.trans hb, ho.iter h.it hg⟩
theorem StrA.pos (h : StrA w0 B g s p l wr) : wr.iterPos g = p := by unfold World.iterPos; rw [h.it]
end
theorem dec_pos (s : ByteArray) {p : Nat} (hp : p < s.size) : 1 ≤ (Utf8.decode s p).2 ∧ p + (Utf8.decode s p).2 ≤ s.size ∧ (Utf8.decode s p).1 ≤ 1114111 := by
  have hne := drop_ne s p hp
  have hd : Go.Lib.decodeL (s.data.toList.drop p) = Utf8.decode s p := Lib.decodeL_drop s p
  have h := spotsAt_range (s.data.toList.drop p) 0 (sptOf 0 (s.data.toList.drop p)) (by rw [spotsAt_cons 0 _ hne]; simp)
  simp only [sptOf, hd, List.length_drop] at h
  have hl : s.data.toList.length = s.size := by simp
  omega
theorem filter_cons_if (p : Int → Bool) (x : Int) (l : List Int) : encL ((x :: l).filter p) = (if p x then Lib.encodeRune x else []) ++ encL (l.filter p) := by
  rw [List.filter_cons]
  split <;> simp [encL]
set_option maxRecDepth 100000 in
set_option maxHeartbeats 4000000 in
theorem strip_seen {w0 : World} {b : Nat} {T : Tab} (hK : Bk w0 b T) (hR : RightT T) (s : ByteArray) (hs : s.size ≤ 10000000) {w : World} (hb0 : Below w0.heap.size w0 w) (hbl : BldL w w0.heap.size []) :
    Calls Tryz.prog 48 #[.pointer (some ⟨b, 0, none⟩), .string s, .func (.func 49) #[] #[.pointer (some ⟨w0.heap.size, 0, none⟩)]] w fun e w' => e = .returned (.tuple #[]) ∧ BldL w' w0.heap.size (encL ((rn s).filter fun r => !ofL r T.drops)) ∧ Below w0.heap.size w0 w' := by
  obtain ⟨B, hB⟩ : ∃ B, w0.heap.size = B := ⟨_, rfl⟩
  have HK := Lib.hid hK
  have HRt := Lib.hid hR
  have HB := Lib.hid hB
  rw [hB] at hb0 hbl ⊢
  have HS0 : Hid (StrA w0 B w.heap.size s 0 [] (w.iter s 0)) := Lib.hid ⟨hbl.below ((Below.refl _ w).alloc (Nat.le_refl _) _), hb0.alloc (by rw [← hB]; exact hb0.size) _, heap_alloc_new w _⟩
  have hgB : B < w.heap.size := hbl.lt
  obtain ⟨g, hg⟩ : ∃ g, w.heap.size = g := ⟨_, rfl⟩
  rw [hg] at HS0 hgB
  clear hK hR hB hb0 hbl
  go_enter Tryz.func48, Tryz.ntmps48
  go_wp2_with fail
  go_loopw [6] (fun v wr => ∃ (p : Nat) (l : List UInt8) (m : Int), v = .int .i64 m ∧ -1 ≤ m ∧ m ≤ p ∧ p ≤ s.size ∧ l.length ≤ 4 * p ∧ Hid (StrA w0 B g s p l wr) ∧ Hid (l ++ encL ((runesI (s.data.toList.drop p)).filter fun r => !ofL r T.drops) = encL ((rn s).filter fun r => !ofL r T.drops))) (fun _ wr => s.size - wr.iterPos g)
  case atStart => exact ⟨0, [], -1, rfl, by omega, by omega, Nat.zero_le _, by simp, HS0, Lib.hid (by rw [rn_def]; rfl)⟩
  case round =>
    clear HS0
    obtain ⟨p, l, m, rfl, hm1, hm2, hp, hl, HA, HL⟩ := hrel
    by_cases hlt : p < s.size
    · have hnx := fun ty => Lib.run_next_any_at (P := Tryz.prog) wr g s p ty HA.out.it hlt
      obtain ⟨d1, d2, d3⟩ := dec_pos s hlt
      obtain ⟨r, hr⟩ : ∃ r : Nat, (Utf8.decode s p).1 = r := ⟨_, rfl⟩
      obtain ⟨q, hq⟩ : ∃ q, p + (Utf8.decode s p).2 = q := ⟨_, rfl⟩
      have hrc := rn_cons hlt
      rw [hr, hq] at hrc
      have HA2 := Lib.hid (HA.out.next (Nat.le_of_lt hgB) q)
      have Hpos := Lib.hid HA.out.pos
      simp only [hr, hq] at hnx
      obtain ⟨w3, hw3⟩ : ∃ w3, wr.iterAt g s q = w3 := ⟨_, rfl⟩
      rw [hw3] at HA2
      simp only [hw3] at hnx
      have hri : i32 (r : Int) := by unfold i32; omega
      have HD := Lib.hid (fun x hx => bk_Dropped (HK.out.below (by rw [HB.out]; exact HA2.out.below)) HRt.out (r : Int) (x := x) hx)
      rw [hrc, filter_cons_if] at HL
      have hq1 : p + 1 ≤ q := by omega
      have hq2 : q ≤ s.size := by omega
      have Hm : Hid (s.size - q < s.size - p) := Lib.hid (by omega)
      clear hrc hr hq hw3 d1 d2 d3
      cases hdr : ofL (r : Int) T.drops with
      | true =>
        rw [hdr] at HL
        go_wp2_with (go_at_call 113; refine (HD.out _ (by assumption)).mono ?_; rintro e w4 ⟨rfl, hb4⟩)
        have HA4 := Lib.hid (HA2.out.step hb4)
        go_roundw
        case rel => exact ⟨q, l, m + 1, by go_num, by omega, by omega, hq2, by omega, HA4, HL⟩
        case measure => rw [HA4.out.pos, Hpos.out]; exact Hm.out
      | false =>
        rw [hdr] at HL
        have hle := (Lib.runeCells_le (r : Int)).2
        rw [Lib.runeCells_length] at hle
        have Hle : Hid ((l ++ Lib.encodeRune (r : Int)).length ≤ 4 * q) := Lib.hid (by rw [List.length_append]; omega)
        have HL2 : Hid ((l ++ Lib.encodeRune (r : Int)) ++ encL ((runesI (s.data.toList.drop q)).filter fun r => !ofL r T.drops) = encL ((rn s).filter fun r => !ofL r T.drops)) := Lib.hid (by rw [← HL.out, List.append_assoc]; rfl)
        have Hri := Lib.hid hri
        have Hll : Hid (l.length ≤ 100000000) := Lib.hid (by omega)
        clear HL hle hri
        go_wp2_with (first | (go_at_call 113; refine (HD.out _ (by assumption)).mono ?_; rintro e w4 ⟨rfl, hb4⟩; have HA4 := Lib.hid (HA2.out.step hb4)) | (go_at_call 49; refine (strip_1 HA4.out.bld Hll.out Hri.out _ _).mono ?_; rintro e w5 ⟨rfl, hB5, hb5, ho5⟩))
        have HA5 := Lib.hid (HA4.out.write (by omega) hB5 hb5 ho5)
        go_roundw
        case rel => exact ⟨q, _, m + 1, by go_num, by omega, by omega, hq2, Hle.out, HA5, HL2⟩
        case measure => rw [HA5.out.pos, Hpos.out]; exact Hm.out
    · have hnx := fun ty => Lib.run_next_end_at (P := Tryz.prog) wr g s p ty HA.out.it hlt
      rw [rn_end hlt] at HL
      have HL3 : Hid (encL ((rn s).filter fun r => !ofL r T.drops) = l) := Lib.hid (by rw [← HL.out]; simp [encL])
      clear HL
      go_wp2_with fail
      go_end0
      rw [HL3.out]
      exact ⟨rfl, HA.out.bld, HA.out.below⟩
set_option maxRecDepth 100000 in
set_option maxHeartbeats 1000000 in
theorem strip_Strip {w : World} {b : Nat} {T : Tab} (hK : Bk w b T) (hR : RightT T) (s : ByteArray) (hs : s.size ≤ 10000000) :
    Calls Tryz.prog 18 #[.pointer (some ⟨b, 0, none⟩), .string s] w fun e w' => e = .returned (.string (stripS T s)) ∧ Below w.heap.size w w' := by
  have H := Lib.hid (strip_seen hK hR s hs ((Below.refl _ w).alloc (Nat.le_refl _) _) (BldL.new w))
  go_enter Tryz.func18, Tryz.ntmps18
  go_wp2_with (first | (go_at_call 48; refine H.out.mono ?_; rintro e w2 ⟨rfl, hB2, hb2⟩) | (go_at_call 21; refine (bldL_String hB2).mono ?_; rintro e w3 ⟨rfl, hb3⟩))
  go_ret
  exact ⟨rfl, hb2.trans hb3⟩

end
section
open Go.RowKit
set_option linter.unusedVariables false
theorem endsT_none {T : Tab} {r : Int} (h : (mapsOf T).pr r = none) : ∀ f, endsT T f r
  | 0 => h
  | f + 1 => fun p hp => by rw [h] at hp; cases hp
theorem chainGo_ends {T : Tab} : ∀ (f n i : Nat), 0 ≤ chainGo T.pairs f n i → chainGo T.pairs f n i ≤ 4 → n ≤ 4 ∧ endsT T (4 - n) ((T.pairs[i]?.map (·.base)).getD 0)
  | 0, n, i, h, _ => by unfold chainGo at h; omega
  | f + 1, n, i, h0, h4 => by
    unfold chainGo at h0 h4
    by_cases hw : wholeI T.pairs ((T.pairs[i]?.map (·.base)).getD 0) < 0
    · rw [if_pos hw] at h4
      exact ⟨by omega, endsT_none (pr_none hw) _⟩
    · rw [if_neg hw] at h0 h4
      obtain ⟨h1, h2⟩ := chainGo_ends f (n + 1) _ h0 h4
      refine ⟨by omega, ?_⟩
      rw [show 4 - n = (4 - (n + 1)) + 1 by omega]
      intro p hp
      obtain ⟨q, hq1, hq2⟩ := pr_some (T := T) (r := (T.pairs[i]?.map (·.base)).getD 0) (by omega)
      rw [hq2] at hp
      cases hp
      rw [hq1] at h2
      exact h2
theorem ends4 {T : Tab} (h : RightT T) (r : Int) : endsT T 4 r := by
  by_cases hw : wholeI T.pairs r < 0
  · exact endsT_none (pr_none hw) _
  · intro p hp
    obtain ⟨q, hq1, hq2⟩ := pr_some (T := T) (r := r) (by omega)
    rw [hq2] at hp
    cases hp
    have hc : chainAt T (wholeI T.pairs r).toNat q = 0 := by
      have := scan_zero (h.none 4 (by omega)) _ _ hq1
      simpa using this
    unfold chainAt at hc
    split at hc
    · cases hc
    · split at hc
      · cases hc
      · rename_i a1 a2
        have := (chainGo_ends (T := T) T.pairs.length 1 (wholeI T.pairs r).toNat (by unfold chainOf at a1; omega) (by unfold chainOf at a2; omega)).2
        rw [hq1] at this
        exact this
theorem apartF_len (T : Tab) : ∀ (f : Nat) (r : Int), (apartF T f r).length ≤ f + 1
  | 0, r => by simp [apartF]
  | f + 1, r => by
    unfold apartF
    cases (mapsOf T).pr r with
    | none => simp
    | some p => have := apartF_len T f p.1; simp; omega
/-- a rune, taken apart -/
def apartT (T : Tab) (r : Int) : List Int := apartF T 4 r

/-- open.Rune's three cells, behind memory w0 of N blocks -/
structure ApS (w0 : World) (N b : Nat) (W : World) (ns : List Int) (v : Value) : Prop where
  below : Below N w0 W
  bx : Blk W N 29 #[.pointer (some ⟨b, 0, none⟩)]
  lst : Blk W (N + 1) 55 #[v]
  fn : Blk W (N + 2) 163 #[.func (.func 108) #[] #[.pointer (some ⟨N, 0, none⟩), .pointer (some ⟨N + 1, 0, none⟩), .pointer (some ⟨N + 2, 0, none⟩)]]
  own : W.ownsRow (N + 3) 21 1 v ns.length (ns.map (Value.int .i32))
section
variable {w0 W W2 : World} {N b : Nat} {ns : List Int} {v v' : Value}
theorem ownS_below {w w' : World} {base n : Nat} {v : Value} {xs : List Value} {e : TypeId} (h : w.ownsRow base e 1 v n xs) (hb : Below w.heap.size w w') : w'.ownsRow base e 1 v n xs :=
  h.kept (grown_of_below hb) (by
    cases hv : v.ownBlock with
    | none => exact .inl rfl
    | some x => exact .inr (by simp))
theorem ApS.step (h : ApS w0 N b W ns v) (hb : Below W.heap.size W W2) : ApS w0 N b W2 ns v :=
  ⟨h.below.trans (hb.mono (Nat.le_of_lt h.bx.lt)), h.bx.below hb, h.lst.below hb, h.fn.below hb, ownS_below h.own hb⟩
theorem ApS.cells (h : ApS w0 N b W ns v) : W.cell? ⟨N, 0, none⟩ = some (.pointer (some ⟨b, 0, none⟩)) ∧ W.cell? ⟨N + 1, 0, none⟩ = some v ∧ W.cell? ⟨N + 2, 0, none⟩ = some (.func (.func 108) #[] #[.pointer (some ⟨N, 0, none⟩), .pointer (some ⟨N + 1, 0, none⟩), .pointer (some ⟨N + 2, 0, none⟩)]) ∧ W.frozen? ⟨N + 1, 0, none⟩ = false :=
  ⟨h.bx.cell 0, h.lst.cell 0, h.fn.cell 0, h.lst.frozen 0⟩
/-- behind the append: what the store wants -/
theorem ApS.app (h : ApS w0 N b W ns v) {o : Obj} (hg : (W.alloc o).grownBy W2 v.ownBlock) : W2.cell? ⟨N + 1, 0, none⟩ = some v ∧ W2.frozen? ⟨N + 1, 0, none⟩ = false ∧ Blk W2 (N + 1) 55 #[v] := by
  have hb : Blk W2 (N + 1) 55 #[v] := h.lst.of (by
    rw [hg.block (N + 1) (by have := h.lst.lt; simp; omega) (fun e => by have := (h.own.lt _ e.symm).1; omega)]
    exact heap_alloc_old W o h.lst.lt)
  exact ⟨hb.cell 0, hb.frozen 0, hb⟩
theorem ApS.push (h : ApS w0 N b W ns v) (hN : w0.heap.size = N) {o : Obj} {r : Int} (hown : W2.ownsRow (N + 3) 21 1 v' (ns.length + 1) (ns.map (Value.int .i32) ++ [.int .i32 r])) (hg : (W.alloc o).grownBy W2 v.ownBlock) : ApS w0 N b (W2.setCell ⟨N + 1, 0, none⟩ v') (ns ++ [r]) v' := by
  have hlt := h.own.lt
  have hsz := h.fn.lt
  have key : ∀ k, k < N + 3 → k ≠ N + 1 → (W2.setCell ⟨N + 1, 0, none⟩ v').heap[k]? = W.heap[k]? := fun k hk hne => by
    rw [Below.heap_setCell _ _ _ _ (show k ≠ N + 1 from hne), hg.block k (by simp; omega) (fun e => by have := (hlt _ e.symm).1; omega)]
    exact heap_alloc_old W o (by omega)
  refine ⟨?_, h.bx.of (key N (by omega) (by omega)), ?_, h.fn.of (key (N + 2) (by omega) (by omega)), ?_⟩
  · refine ((h.below.alloc (by have := h.below.size; omega) o).grown hg (by simp; omega) (fun k hk => by have := (hlt k hk).1; omega)).setCell (p := ⟨N + 1, 0, none⟩) (by show N ≤ N + 1; omega) _
  · have := ((h.app hg).2.2).set_ 0 v'
    simpa using this
  · have h2 := hown.kept (w' := W2.setCell ⟨N + 1, 0, none⟩ v') (row := some (N + 1)) ⟨rfl, rfl, rfl, by simp [World.setCell], fun k _ hk => Below.heap_setCell _ _ _ _ (fun e => hk (by simp [e]))⟩ (.inr (fun e => by have := (hown.lt _ e).1; omega))
    rw [List.length_append, List.map_append]
    exact h2
end
theorem ApS.start (w : World) (b : Nat) : ApS w w.heap.size b (((w.alloc (.cells #[.pointer (some ⟨b, 0, none⟩)] 29)).alloc (.cells #[.slice none 0 0] 55)).alloc (.cells #[.func (.func 108) #[] #[.pointer (some ⟨w.heap.size, 0, none⟩), .pointer (some ⟨w.heap.size + 1, 0, none⟩), .pointer (some ⟨w.heap.size + 1 + 1, 0, none⟩)]] 163)) [] (.slice none 0 0) := by
  have b1 := Blk.new w 29 #[.pointer (some ⟨b, 0, none⟩)]
  obtain ⟨w1, h1⟩ : ∃ x, w.alloc (.cells #[.pointer (some ⟨b, 0, none⟩)] 29) = x := ⟨_, rfl⟩
  have hs1 : w1.heap.size = w.heap.size + 1 := by rw [← h1, World.size_alloc]
  have hb1 : Below w.heap.size w w1 := by rw [← h1]; exact (Below.refl _ w).alloc (Nat.le_refl _) _
  rw [h1] at b1 ⊢
  have b2 := Blk.new w1 55 #[.slice none 0 0]
  obtain ⟨w2, h2⟩ : ∃ x, w1.alloc (.cells #[.slice none 0 0] 55) = x := ⟨_, rfl⟩
  have hs2 : w2.heap.size = w.heap.size + 2 := by rw [← h2, World.size_alloc, hs1]
  have hb2 : Below w1.heap.size w1 w2 := by rw [← h2]; exact (Below.refl _ w1).alloc (Nat.le_refl _) _
  rw [h2] at b2 ⊢
  have hb3 : ∀ o, Below w2.heap.size w2 (w2.alloc o) := fun o => (Below.refl _ w2).alloc (Nat.le_refl _) o
  have b3 := Blk.new w2 163 #[.func (.func 108) #[] #[.pointer (some ⟨w.heap.size, 0, none⟩), .pointer (some ⟨w.heap.size + 1, 0, none⟩), .pointer (some ⟨w.heap.size + 1 + 1, 0, none⟩)]]
  rw [hs2] at b3
  rw [hs1] at b2
  exact ⟨below_trans hb1 (below_trans hb2 (hb3 _)), (b1.below hb2).below (hb3 _), b2.below (hb3 _), b3, World.ownsRow_nil _ _ _ _⟩
set_option maxRecDepth 100000 in
set_option maxHeartbeats 4000000 in
theorem apart_rec {w0 : World} {N b : Nat} {T : Tab} (hN : w0.heap.size = N) (hK : Bk w0 b T) (hR : RightT T) : ∀ (f : Nat) (r : Int) (W : World) (ns : List Int) (v : Value), endsT T f r → i32 r → ApS w0 N b W ns v → ns.length + f ≤ 1000 →
    Calls Tryz.prog 108 #[.int .i32 r, .pointer (some ⟨N, 0, none⟩), .pointer (some ⟨N + 1, 0, none⟩), .pointer (some ⟨N + 2, 0, none⟩)] W fun e W' => e = .returned (.tuple #[]) ∧ ∃ v', ApS w0 N b W' (ns ++ apartF T f r) v' := by
  intro f
  induction f with
  | zero =>
    intro r W ns v he hr hS hl
    obtain ⟨i0, hi, hz0, hz1, hz2⟩ := info_parts infoR
    have HP := Lib.hid (bk_Pair (r := r) (hK.below (by rw [hN]; exact hS.below)) hr (p := (0, 0)) (by rw [show (mapsOf T).pr r = none from he]; rfl) (ok := false) (by rw [show (mapsOf T).pr r = none from he]; rfl))
    have HS := Lib.hid hS
    obtain ⟨c0, c1, -, -⟩ := hS.cells
    clear hS he
    go_enter Tryz.func108, Tryz.ntmps108
    go_wp2_with (first | (go_at_call 109; refine HP.out.mono ?_; rintro e w1 ⟨rfl, hb1⟩; have HS1 := Lib.hid (HS.out.step hb1); obtain ⟨d0, d1, -, -⟩ := HS1.out.cells; clear c0 c1; have hsz := HS1.out.fn.lt) | (at_builtin; (refine wpList_append_own _ rfl _ _ 55 rfl (N + 3) 21 i0 _ 1 4 Tryz.underlying55 hi hz0 hz1 hz2 rfl (by decide) v ns.length _ rfl (HS1.out.own.alloc _) ⟨w1.heap.size, 0, none⟩ 1 1 [.int .i32 r] rfl rfl (cells_new _ _ _ _ rfl) (by simp [Value.oneCell']) (by unfold maxLen; omega) (by omega) (by rw [World.size_alloc]; omega) ?_); intro v' w2 hown' hgrow _; obtain ⟨A9, c9, rfl, -⟩ := own_form hown'; obtain ⟨x1, x2, -⟩ := HS1.out.app hgrow))
    first
      | (refine bodyPost_ret (results_none rfl _ _ _) rfl ?_; exact ⟨rfl, _, HS1.out.push hN hown' hgrow⟩)
      | (go_end0; exact ⟨rfl, _, HS1.out.push hN hown' hgrow⟩)
  | succ f ih =>
    intro r W ns v he hr hS hl
    obtain ⟨i0, hi, hz0, hz1, hz2⟩ := info_parts infoR
    have HS := Lib.hid hS
    have HKW := Lib.hid (hK.below (w' := W) (by rw [hN]; exact hS.below))
    have IH := Lib.hid ih
    obtain ⟨c0, c1, c2, -⟩ := hS.cells
    clear ih
    cases hp : (mapsOf T).pr r with
    | none =>
      have HP := Lib.hid (bk_Pair (r := r) HKW.out hr (p := (0, 0)) (by rw [hp]; rfl) (ok := false) (by rw [hp]; rfl))
      have Hap : Hid (apartF T (f + 1) r = [r]) := Lib.hid (by rw [apartF, hp])
      clear hS he hp
      go_enter Tryz.func108, Tryz.ntmps108
      go_wp2_with (first | (go_at_call 109; refine HP.out.mono ?_; rintro e w1 ⟨rfl, hb1⟩; have HS1 := Lib.hid (HS.out.step hb1); obtain ⟨d0, d1, -, -⟩ := HS1.out.cells; clear c0 c1 c2; have hsz := HS1.out.fn.lt) | (at_builtin; (refine wpList_append_own _ rfl _ _ 55 rfl (N + 3) 21 i0 _ 1 4 Tryz.underlying55 hi hz0 hz1 hz2 rfl (by decide) v ns.length _ rfl (HS1.out.own.alloc _) ⟨w1.heap.size, 0, none⟩ 1 1 [.int .i32 r] rfl rfl (cells_new _ _ _ _ rfl) (by simp [Value.oneCell']) (by unfold maxLen; omega) (by omega) (by rw [World.size_alloc]; omega) ?_); intro v' w2 hown' hgrow _; obtain ⟨A9, c9, rfl, -⟩ := own_form hown'; obtain ⟨x1, x2, -⟩ := HS1.out.app hgrow))
      first
        | (refine bodyPost_ret (results_none rfl _ _ _) rfl ?_; exact ⟨rfl, _, by rw [Hap.out]; exact HS1.out.push hN hown' hgrow⟩)
        | (go_end0; exact ⟨rfl, _, by rw [Hap.out]; exact HS1.out.push hN hown' hgrow⟩)
    | some p =>
      obtain ⟨x, y⟩ := p
      have HP := Lib.hid (bk_Pair (r := r) HKW.out hr (p := (x, y)) (by rw [hp]; rfl) (ok := true) (by rw [hp]; rfl))
      have Hap : Hid (apartF T (f + 1) r = apartF T f x ++ [y]) := Lib.hid (by rw [apartF, hp])
      have Hx := Lib.hid (pr_i32 hR hp)
      have He := Lib.hid (he (x, y) hp)
      have IH2 : Hid (∀ W1, ApS w0 N b W1 ns v → Calls Tryz.prog 108 #[.int .i32 x, .pointer (some ⟨N, 0, none⟩), .pointer (some ⟨N + 1, 0, none⟩), .pointer (some ⟨N + 2, 0, none⟩)] W1 fun e W' => e = .returned (.tuple #[]) ∧ ∃ (l2 : List Int) (v2 : Value), l2.length ≤ 1001 ∧ Hid (ns ++ apartF T f x = l2) ∧ Hid (ApS w0 N b W' l2 v2)) := Lib.hid (fun W1 h1 => (IH.out x W1 ns v He.out Hx.out.1 h1 (by omega)).mono (by
        rintro e w2 ⟨rfl, v2, hS2⟩
        exact ⟨rfl, _, v2, by have := apartF_len T f x; rw [List.length_append]; omega, Lib.hid rfl, Lib.hid hS2⟩))
      clear hS he hp
      go_enter Tryz.func108, Tryz.ntmps108
      go_wp2_with (first | (go_at_call 109; refine HP.out.mono ?_; rintro e w1 ⟨rfl, hb1⟩; have HS1 := Lib.hid (HS.out.step hb1); obtain ⟨d0, d1, d2, -⟩ := HS1.out.cells; clear c0 c1 c2) | (go_at_call 108; refine (IH2.out _ HS1.out).mono ?_; rintro e w2 ⟨rfl, l2, v2, hll, Hl2, HS2⟩; obtain ⟨e0, e1, -, -⟩ := HS2.out.cells; clear d0 d1 d2; have hsz := HS2.out.fn.lt) | (at_builtin; (refine wpList_append_own _ rfl _ _ 55 rfl (N + 3) 21 i0 _ 1 4 Tryz.underlying55 hi hz0 hz1 hz2 rfl (by decide) v2 l2.length _ rfl (HS2.out.own.alloc _) ⟨w2.heap.size, 0, none⟩ 1 1 [.int .i32 y] rfl rfl (cells_new _ _ _ _ rfl) (by simp [Value.oneCell']) (by unfold maxLen; omega) (by omega) (by rw [World.size_alloc]; omega) ?_); intro v' w3 hown' hgrow _; obtain ⟨A9, c9, rfl, -⟩ := own_form hown'; obtain ⟨x1, x2, -⟩ := HS2.out.app hgrow))
      go_end0
      exact ⟨rfl, _, by rw [Hap.out, ← List.append_assoc, Hl2.out]; exact HS2.out.push hN hown' hgrow⟩
set_option maxRecDepth 100000 in
set_option maxHeartbeats 4000000 in
theorem open_Rune {w : World} {b : Nat} {T : Tab} (hK : Bk w b T) (hR : RightT T) {r : Int} (hr : i32 r) :
    Calls Tryz.prog 46 #[.pointer (some ⟨b, 0, none⟩), .int .i32 r] w fun e w' => (∃ A c, e = .returned (.slice A (apartT T r).length c) ∧ RunesAt w' A (apartT T r)) ∧ Below w.heap.size w w' := by
  have H := Lib.hid (fun W hS => apart_rec rfl hK hR 4 r W [] (.slice none 0 0) (ends4 hR r) hr hS (by simp))
  go_enter Tryz.func46, Tryz.ntmps46
  go_wp2_with (go_at_call 108; refine (H.out _ (ApS.start w b)).mono ?_; rintro e w2 ⟨rfl, v2, hS2⟩; have HS2 := Lib.hid hS2; obtain ⟨-, e1, -, -⟩ := hS2.cells; obtain ⟨A9, c9, rfl, hA9⟩ := own_form hS2.own; clear hS2)
  go_ret
  rw [List.nil_append] at hA9 HS2
  rw [show apartT T r = apartF T 4 r from rfl]
  refine ⟨⟨_, _, rfl, fun h0 => ?_⟩, HS2.out.below⟩
  obtain ⟨g, rfl, hg, hlt, hc⟩ := hA9 h0
  refine ⟨⟨g, 0, none⟩, rfl, hlt, fun j hj => ?_⟩
  rw [addr_add0, Nat.zero_add, hc j (by simpa using hj), List.getElem?_map, List.getElem?_eq_getElem hj, List.getD_eq_getElem?_getD, List.getElem?_eq_getElem hj]
  rfl

end
end Go.Proofs.YtjmkdimbbacnfaaGreatDoor
