/- The stable sort's steps, as functions on arrays. The stable sort's exchanges, its rotation, its insertions, at runes. (Printed by gen_sort.py.) -/
import Derived.Test.YtjmkdimbbacnfaaGreatDoorProg
import Derived.Shelf.SlSortCmp.Kit1
import Derived.Sort.WalkA
import Derived.Deep.LoopGhost
import Derived.Lib.Hide
namespace Go.Proofs.YtjmkdimbbacnfaaGreatDoor
section
open Go.Shelf Go.RowKit Go.Lib Go.Sort
set_option linter.unusedVariables false
section
variable {α : Type} [Inhabited α]
/-- the bisection's end -/
def bis (p : Nat → Bool) : Nat → Nat → Nat → Nat
  | 0, i, _ => i
  | f + 1, i, j => if i < j then (if p ((i + j) / 2) then bis p f ((i + j) / 2 + 1) j else bis p f i ((i + j) / 2)) else i
theorem bis_end (p : Nat → Bool) (f i : Nat) : bis p f i i = i := by
  cases f with
  | zero => rfl
  | succ f => unfold bis; rw [if_neg (Nat.lt_irrefl i)]
theorem bis_up {p : Nat → Bool} {f i j : Nat} (h : i < j) (hp : p ((i + j) / 2) = true) : bis p (f + 1) i j = bis p f ((i + j) / 2 + 1) j := by
  rw [bis, if_pos h, if_pos hp]
theorem bis_dn {p : Nat → Bool} {f i j : Nat} (h : i < j) (hp : p ((i + j) / 2) = false) : bis p (f + 1) i j = bis p f i ((i + j) / 2) := by
  rw [bis, if_pos h, hp]; rfl
theorem bis_t {p : Nat → Bool} {f i j h R : Nat} (e : bis p (f + 1) i j = R) (hlt : i < j) (hh : (i + j) / 2 = h) (hp : p h = true) : bis p f (h + 1) j = R := by
  subst hh; rw [← e, bis_up hlt hp]
theorem bis_f {p : Nat → Bool} {f i j h R : Nat} (e : bis p (f + 1) i j = R) (hlt : i < j) (hh : (i + j) / 2 = h) (hp : p h = false) : bis p f i h = R := by
  subst hh; rw [← e, bis_dn hlt hp]
/-- n places from a on against n from b on -/
def swr (d : Array α) (a b : Nat) : Nat → Array α
  | 0 => d
  | n + 1 => swp (swr d a b n) (a + n) (b + n)
theorem size_swr (d : Array α) (a b n : Nat) : (swr d a b n).size = d.size := by
  induction n with
  | zero => rfl
  | succ n ih => rw [swr, size_swp, ih]
/-- the exchange of a..m against m..b -/
def rotA (m : Nat) : Nat → Nat → Nat → Array α → Array α
  | 0, _, _, d => d
  | f + 1, i, j, d => if i = j then swr d (m - i) m i else if j < i then rotA m f (i - j) j (swr d (m - i) m j) else rotA m f i (j - i) (swr d (m - i) (m + j - i) i)
theorem size_rotA (m : Nat) : ∀ (f i j : Nat) (d : Array α), (rotA m f i j d).size = d.size
  | 0, _, _, d => rfl
  | f + 1, i, j, d => by
    unfold rotA
    split
    · exact size_swr _ _ _ _
    · split
      · rw [size_rotA m f, size_swr]
      · rw [size_rotA m f, size_swr]
/-- one place moved up, one moved down -/
def upA (d : Array α) (a : Nat) : Nat → Array α
  | 0 => d
  | k + 1 => swp (upA d a k) (a + k) (a + k + 1)
def dnA (d : Array α) (m : Nat) : Nat → Array α
  | 0 => d
  | k + 1 => swp (dnA d m k) (m - k) (m - k - 1)
theorem size_upA (d : Array α) (a k : Nat) : (upA d a k).size = d.size := by
  induction k with
  | zero => rfl
  | succ k ih => rw [upA, size_swp, ih]
theorem size_dnA (d : Array α) (a k : Nat) : (dnA d a k).size = d.size := by
  induction k with
  | zero => rfl
  | succ k ih => rw [dnA, size_swp, ih]
variable (lt : α → α → Bool)
def symS (d : Array α) (a m b : Nat) : Nat :=
  let mid := (a + b) / 2
  let s0 := if mid < m then mid + m - b else a
  let r0 := if mid < m then mid else m
  bis (fun c => !lt d[mid + m - 1 - c]! d[c]!) (r0 - s0) s0 r0
/-- the merge of a..m and m..b -/
def symA : Nat → Nat → Nat → Nat → Array α → Array α
  | 0, _, _, _, d => d
  | f + 1, a, m, b, d =>
    if m - a = 1 then upA d a (bis (fun h => lt d[h]! d[a]!) (b - m) m b - 1 - a)
    else if b - m = 1 then dnA d m (m - bis (fun h => !lt d[m]! d[h]!) (m - a) a m)
    else
      let mid := (a + b) / 2
      let s := symS lt d a m b
      let e := mid + m - s
      let d1 := if s < m ∧ m < e then rotA m (m - s + (e - m)) (m - s) (e - m) d else d
      let d2 := if a < s ∧ s < mid then symA f a s mid d1 else d1
      if mid < e ∧ e < b then symA f mid e b d2 else d2
theorem size_symA : ∀ (f a m b : Nat) (d : Array α), (symA lt f a m b d).size = d.size
  | 0, _, _, _, d => rfl
  | f + 1, a, m, b, d => by
    unfold symA
    split
    · exact size_upA _ _ _
    · split
      · exact size_dnA _ _ _
      · dsimp only
        split <;> (try rw [size_symA f]) <;> split <;> (try rw [size_symA f]) <;> split <;> first | rw [size_rotA] | rfl
theorem size_insInner (a : Nat) : ∀ (j : Nat) (d : Array α), (insInner lt a j d).size = d.size
  | 0, d => rfl
  | j + 1, d => by
    unfold insInner
    split
    · rw [size_insInner a j, size_swp]
    · rfl
theorem size_insOuter (a b : Nat) : ∀ (k i : Nat) (d : Array α), b - i ≤ k → (insOuter lt a b i d).size = d.size
  | 0, i, d, h => by rw [insOuter_stop _ _ _ _ _ (by omega)]
  | k + 1, i, d, h => by
    by_cases hi : i < b
    · rw [insOuter, if_pos hi, size_insOuter a b k _ _ (by omega), size_insInner]
    · rw [insOuter_stop _ _ _ _ _ hi]
theorem size_insertionSort (d : Array α) (a b : Nat) : (Sort.insertionSort lt d a b).size = d.size := size_insOuter lt a b _ _ _ (Nat.le_refl _)
/-- the blocks of twenty -/
def blkA : Nat → Nat → Array α → Array α
  | 0, a, d => Sort.insertionSort lt d a d.size
  | f + 1, a, d => if a + 20 ≤ d.size then blkA f (a + 20) (Sort.insertionSort lt d a (a + 20)) else Sort.insertionSort lt d a d.size
/-- one pass of merges -/
def passA (bs : Nat) : Nat → Nat → Array α → Array α
  | 0, _, d => d
  | f + 1, a, d => if a + 2 * bs ≤ d.size then passA bs f (a + 2 * bs) (symA lt d.size a (a + bs) (a + 2 * bs) d) else if a + bs < d.size then symA lt d.size a (a + bs) d.size d else d
def passesA : Nat → Nat → Array α → Array α
  | 0, _, d => d
  | f + 1, bs, d => if bs < d.size then passesA f (2 * bs) (passA lt bs (d.size + 1) 0 d) else d
def stableA (d : Array α) : Array α := passesA lt d.size 20 (blkA lt d.size 0 d)
theorem size_blkA : ∀ (f a : Nat) (d : Array α), (blkA lt f a d).size = d.size
  | 0, a, d => by unfold blkA; exact size_insertionSort _ _ _ _
  | f + 1, a, d => by
    unfold blkA
    split
    · rw [size_blkA f, size_insertionSort]
    · exact size_insertionSort _ _ _ _
theorem size_passA (bs : Nat) : ∀ (f a : Nat) (d : Array α), (passA lt bs f a d).size = d.size
  | 0, _, d => rfl
  | f + 1, a, d => by
    unfold passA
    split
    · rw [size_passA bs f, size_symA]
    · split
      · exact size_symA _ _ _ _ _ _
      · rfl
theorem size_passesA : ∀ (f bs : Nat) (d : Array α), (passesA lt f bs d).size = d.size
  | 0, _, d => rfl
  | f + 1, bs, d => by
    unfold passesA
    split
    · rw [size_passesA f, size_passA]
    · rfl
theorem size_stableA (d : Array α) : (stableA lt d).size = d.size := by unfold stableA; rw [size_passesA, size_blkA]
theorem stableA_one (d : Array α) (h : d.size ≤ 1) : stableA lt d = d := by
  have hi : Sort.insertionSort lt d 0 d.size = d := by
    unfold Sort.insertionSort
    exact insOuter_stop _ _ _ _ _ (by omega)
  have hb : blkA lt d.size 0 d = d := by
    cases hd : d.size with
    | zero => unfold blkA; exact hi
    | succ n => unfold blkA; rw [if_neg (by omega)]; exact hi
  unfold stableA
  rw [hb]
  cases hd : d.size with
  | zero => rfl
  | succ n => unfold passesA; rw [if_neg (by omega)]
end
end
section
open Go.Shelf Go.RowKit Go.Lib Go.Sort
set_option linter.unusedVariables false
section
variable {α : Type} [Inhabited α] {enc : α → Value} {cf : α → α → Int} {g : Nat} {cb : Array Value} {blk off cap n : Nat} {d0 : Array α} {w0 : World}
set_option maxHeartbeats 8000000 in
set_option maxRecDepth 1000000 in
theorem srt_swr (hR : Row1 enc w0 blk off d0) (h0 : d0.size = n) (hn : n < 4611686018427387904) (d : Array α) (w : World) (hs : d.size = n) (hS : SW enc w0 blk off d w) (a b k : Nat) (ha : a + k ≤ n) (hb : b + k ≤ n) (fv : Value) :
    Calls Tryz.prog 224 #[.slice (some ⟨blk, off, none⟩) n cap, .int .i64 (a : Int), .int .i64 (b : Int), .int .i64 (k : Int), fv] w fun e w' => e = .returned (.tuple #[]) ∧ SW enc w0 blk off (swr d a b k) w' := by
  have mixed : Tryz.prog.follows .mixedOrders = true := by kernel_rfl
  have hcl0 := hR.hO.cells
  simp only [Value.cells] at hcl0
  have hst := hR.hO.store Tryz.prog
  have R : Aside _ := hR
  have S0 : Aside _ := hS
  clear hR hS
  go_enter Tryz.func224, Tryz.ntmps224
  go_wp2_with fail
  go_loopg [10] k (fun g1 vi wr => ∃ i : Nat, vi = .int .i64 (i : Int) ∧ i ≤ k ∧ k - i ≤ g1 ∧ Aside (SW enc w0 blk off (swr d a b i) wr))
  case atStart => exact ⟨0, rfl, Nat.zero_le _, by omega, S0⟩
  case round =>
    clear S0
    obtain ⟨i, rfl, hik, hg1, S1⟩ := hrel
    have hsi : (swr d a b i).size = n := by rw [size_swr]; exact hs
    by_cases hlt : i < k
    · have hltz : (i : Int) < (k : Int) := by omega
      obtain ⟨di, hdi⟩ : ∃ x, swr d a b i = x := ⟨_, rfl⟩
      rw [hdi] at S1 hsi
      have Hdi := Lib.hid hdi
      clear hdi
      obtain ⟨i1, hi1⟩ : ∃ q, q = a + i := ⟨_, rfl⟩
      obtain ⟨j1, hj1⟩ : ∃ q, q = b + i := ⟨_, rfl⟩
      have ea1 : ((a : Int) + (i : Int)).toNat = i1 := by omega
      have pa1 : (0 : Int) ≤ (a : Int) + (i : Int) := by omega
      have ba1 : (a : Int) + (i : Int) < (n : Int) := by omega
      have ra1 : IntKind.i64.wrap ((a : Int) + (i : Int)) = (a : Int) + (i : Int) := by rw [IntKind.wrap_i64]; omega
      have ec1 : ((b : Int) + (i : Int)).toNat = j1 := by omega
      have pc1 : (0 : Int) ≤ (b : Int) + (i : Int) := by omega
      have bc1 : (b : Int) + (i : Int) < (n : Int) := by omega
      have rc1 : IntKind.i64.wrap ((b : Int) + (i : Int)) = (b : Int) + (i : Int) := by rw [IntKind.wrap_i64]; omega
      obtain ⟨x1, hx1⟩ : ∃ x, x = di[a + i]! := ⟨_, rfl⟩
      obtain ⟨y1, hy1⟩ : ∃ x, x = di[b + i]! := ⟨_, rfl⟩
      have w2S : Aside (SW enc w0 blk off (swp di (a + i) (b + i)) ((wr.setCell ⟨blk, off + i1, none⟩ (enc y1)).setCell ⟨blk, off + j1, none⟩ (enc x1)).drew) := by rw [hi1, hj1, hx1, hy1]; exact S1.out.swapped R.out (a + i) (b + i) (by omega) (by omega)
      have ca1 := S1.out.c1 R.out (by omega) (a + i) (by omega)
      have cb1 := S1.out.c1 R.out (by omega) (b + i) (by omega)
      have fa1 := S1.out.f1 R.out (by omega) (a + i) (by omega)
      have fb1 := S1.out.f1 R.out (by omega) (b + i) (by omega)
      obtain ⟨u1, cc1⟩ := S1.out.c2 R.out (by omega) (a + i) (b + i) (by omega) (by omega) (enc y1)
      rw [← hj1, ← hi1] at cc1
      rw [← hx1, ← hi1] at ca1
      rw [← hy1, ← hj1] at cb1
      rw [← hi1] at fa1
      rw [← hj1] at fb1
      clear S1 hx1 hy1 hi1 hj1
      go_wp2_with fail
      go_big_region_o
      clear ca1 cb1 cc1 fa1 fb1
      generalize ((wr.setCell ⟨blk, off + i1, none⟩ (enc y1)).setCell ⟨blk, off + j1, none⟩ (enc x1)).drew = w2 at w2S ⊢
      clear ea1 ec1 pa1 ba1 ra1 pc1 bc1 rc1
      go_wp2_with fail
      go_roundg (k - (i + 1))
      case measure => omega
      case rel => exact ⟨i + 1, by go_num, by omega, Nat.le_refl _, (show Aside _ from by rw [swr, Hdi.out]; exact w2S.out)⟩
    · obtain rfl : i = k := by omega
      have hltz : ¬ (i : Int) < (i : Int) := by omega
      go_wp2_with fail
      go_end0
      exact ⟨rfl, S1.out⟩

set_option maxHeartbeats 8000000 in
set_option maxRecDepth 1000000 in
theorem srt_rot (hR : Row1 enc w0 blk off d0) (h0 : d0.size = n) (hn : n < 4611686018427387904) (d : Array α) (w : World) (hs : d.size = n) (hS : SW enc w0 blk off d w) (a m b : Nat) (ha : a < m) (hm : m < b) (hb : b ≤ n) (fv : Value) :
    Calls Tryz.prog 207 #[.slice (some ⟨blk, off, none⟩) n cap, .int .i64 (a : Int), .int .i64 (m : Int), .int .i64 (b : Int), fv] w fun e w' => e = .returned (.tuple #[]) ∧ SW enc w0 blk off (rotA m (m - a + (b - m)) (m - a) (b - m) d) w' ∧ (rotA m (m - a + (b - m)) (m - a) (b - m) d).size = n := by
  have R : Aside _ := hR
  have S0 : Aside _ := hS
  clear hR hS
  obtain ⟨i0, hi0⟩ : ∃ i, m - a = i := ⟨_, rfl⟩
  obtain ⟨j0, hj0⟩ : ∃ j, b - m = j := ⟨_, rfl⟩
  rw [hi0, hj0]
  have ei : (m : Int) - (a : Int) = (i0 : Int) := by omega
  have ej : (b : Int) - (m : Int) = (j0 : Int) := by omega
  go_enter Tryz.func207, Tryz.ntmps207
  go_wp2_with fail
  go_loopg [10, 11] (i0 + j0) (fun g1 vi vj wr => ∃ (i j f : Nat) (di : Array α), vi = .int .i64 (i : Int) ∧ vj = .int .i64 (j : Int) ∧ 1 ≤ i ∧ 1 ≤ j ∧ i ≤ i0 ∧ j ≤ j0 ∧ i + j ≤ f ∧ f ≤ g1 ∧ di.size = n ∧ Aside (SW enc w0 blk off di wr) ∧ Hid (rotA m f i j di = rotA m (i0 + j0) i0 j0 d))
  case atStart => exact ⟨i0, j0, i0 + j0, d, rfl, rfl, by omega, by omega, Nat.le_refl _, Nat.le_refl _, Nat.le_refl _, Nat.le_refl _, hs, S0, rfl⟩
  case round =>
    clear S0
    obtain ⟨i, j, f, di, rfl, rfl, hi1, hj1, hii, hjj, hf, hg1, hsi, S1, HE⟩ := hrel
    obtain ⟨f, rfl⟩ : ∃ q, f = q + 1 := ⟨f - 1, by omega⟩
    obtain ⟨p, hp⟩ : ∃ p, m - i = p := ⟨_, rfl⟩
    have ep : (m : Int) - (i : Int) = (p : Int) := by omega
    by_cases heq : i = j
    · subst heq
      have t1 : ((i : Int) != (i : Int)) = false := by simp
      have Hend : Hid (rotA m (i0 + j0) i0 j0 d = swr di p m i) := Lib.hid (by rw [← HE.out, rotA, if_pos rfl, hp])
      clear hp
      go_wp2_with (go_at_call 224; refine (srt_swr R.out h0 hn di wr (by omega) S1.out _ _ _ (by omega) (by omega) _).mono ?_; rintro e w2 ⟨rfl, hS2⟩)
      have HS2 := Lib.hid hS2
      clear hS2
      go_end0
      exact ⟨rfl, by rw [Hend.out]; exact HS2.out, by rw [size_rotA]; exact hs⟩
    · have t1 : ((i : Int) != (j : Int)) = true := by rw [bne_iff_ne]; omega
      by_cases hlt : j < i
      · have t2 : (j : Int) < (i : Int) := by omega
        obtain ⟨q, hq⟩ : ∃ q, i - j = q := ⟨_, rfl⟩
        have eq : (i : Int) - (j : Int) = (q : Int) := by omega
        have Hnext : Hid (rotA m f q j (swr di p m j) = rotA m (i0 + j0) i0 j0 d) := Lib.hid (by rw [← HE.out]; conv => rhs; rw [rotA, if_neg heq, if_pos hlt, hp, hq])
        clear hp hq
        go_wp2_with (go_at_call 224; refine (srt_swr R.out h0 hn di wr (by omega) S1.out _ _ _ (by omega) (by omega) _).mono ?_; rintro e w2 ⟨rfl, hS2⟩)
        have HS2 : Aside _ := hS2
        clear hS2
        go_roundg f
        case measure => omega
        case rel => exact ⟨q, j, f, _, by go_num, rfl, by omega, hj1, by omega, hjj, by omega, Nat.le_refl _, by rw [size_swr]; exact hsi, HS2, Hnext⟩
      · have t2 : ¬ (j : Int) < (i : Int) := by omega
        obtain ⟨q, hq⟩ : ∃ q, j - i = q := ⟨_, rfl⟩
        have eq : (j : Int) - (i : Int) = (q : Int) := by omega
        obtain ⟨r, hr⟩ : ∃ r, m + j - i = r := ⟨_, rfl⟩
        have er : (m : Int) + (j : Int) - (i : Int) = (r : Int) := by omega
        have Hnext : Hid (rotA m f i q (swr di p r i) = rotA m (i0 + j0) i0 j0 d) := Lib.hid (by rw [← HE.out]; conv => rhs; rw [rotA, if_neg heq, if_neg hlt, hp, hq, hr])
        clear hp hq hr
        go_wp2_with (go_at_call 224; refine (srt_swr R.out h0 hn di wr (by omega) S1.out _ _ _ (by omega) (by omega) _).mono ?_; rintro e w2 ⟨rfl, hS2⟩)
        have HS2 : Aside _ := hS2
        clear hS2
        go_roundg f
        case measure => omega
        case rel => exact ⟨i, q, f, _, rfl, by go_num, hi1, by omega, hii, by omega, by omega, Nat.le_refl _, by rw [size_swr]; exact hsi, HS2, Hnext⟩

set_option maxHeartbeats 16000000 in
set_option maxRecDepth 1000000 in
theorem srt_ins (eg : ∀ args w, (callFunc g args).run Tryz.prog w = .ok (.enter g args) w) (hcmp : CmpLays1 Tryz.prog g cb enc cf blk off d0.size w0) (hR : Row1 enc w0 blk off d0) (h0 : d0.size = n) (hn : n < 4611686018427387904) (d : Array α) (w : World) (hs : d.size = n) (hS : SW enc w0 blk off d w) (a b : Nat) (hab : a ≤ b) (hb : b ≤ n) :
    Calls Tryz.prog 189 #[.slice (some ⟨blk, off, none⟩) n cap, .int .i64 (a : Int), .int .i64 (b : Int), .func (.func g) #[] cb] w fun e w' => e = .returned (.tuple #[]) ∧ SW enc w0 blk off (Sort.insertionSort (ltOf cf) d a b) w' ∧ (Sort.insertionSort (ltOf cf) d a b).size = n := by
  have HC : Aside _ := hcmp
  clear hcmp
  have mixed : Tryz.prog.follows .mixedOrders = true := by kernel_rfl
  have hcl0 := hR.hO.cells
  simp only [Value.cells] at hcl0
  have hst := hR.hO.store Tryz.prog
  have R : Aside _ := hR
  have S0 : Aside _ := hS
  clear hR hS
  go_enter Tryz.func189, Tryz.ntmps189
  go_wp2_with fail
  go_loopg [8] (b - a) (fun g1 vi wr => ∃ (i : Nat) (dk : Array α), vi = .int .i64 i ∧ a < i ∧ i ≤ b + 1 ∧ b + 1 - i ≤ g1 + 1 ∧ dk.size = n ∧ Aside (SW enc w0 blk off dk wr) ∧ Hid (insOuter (ltOf cf) a b i dk = insOuter (ltOf cf) a b (a + 1) d))
  case atStart => exact ⟨a + 1, d, by go_num, by omega, by omega, by omega, hs, S0, rfl⟩
  case round =>
    clear S0
    obtain ⟨i, dk, rfl, hai, hib, hg1, hsk, S1, HO⟩ := hrel
    by_cases hlt : i < b
    · have hltz : (i : Int) < (b : Int) := by omega
      go_wp2_with fail
      go_loopg [9] i (fun g2 vj wr2 => ∃ (j : Nat) (dj : Array α), vj = .int .i64 j ∧ a ≤ j ∧ j ≤ i ∧ j ≤ g2 ∧ dj.size = n ∧ Aside (SW enc w0 blk off dj wr2) ∧ Hid (insInner (ltOf cf) a j dj = insInner (ltOf cf) a i dk))
      case atStart => exact ⟨i, dk, rfl, by omega, Nat.le_refl _, Nat.le_refl _, hsk, S1, rfl⟩
      case round =>
        clear S1
        obtain ⟨j, dj, rfl, haj, hji, hg2, hsj, SJ, HI⟩ := hrel
        have OUT : Aside ((j ≤ a ∨ (ltOf cf) dj[j]! dj[j - 1]! = false) → Hid (insOuter (ltOf cf) a b (i + 1) dj = insOuter (ltOf cf) a b (a + 1) d)) := fun hs => by
          show _ = _
          rw [← HO.out, insOuter_go _ _ _ _ _ hlt, ← HI.out, insInner_stop _ _ _ _ hs]
        by_cases hja : a < j
        · have hjaz : (a : Int) < (j : Int) := by omega
          obtain ⟨jp, hjp⟩ : ∃ q, q + 1 = j := ⟨j - 1, by omega⟩
          have zjp : (j : Int) = (jp : Int) + 1 := by omega
          have hjad : decide ((jp : Int) + 1 > (a : Int)) = true := decide_eq_true (by omega)
          have hjaz' : (a : Int) < (jp : Int) + 1 := by omega
          cases hlv : (ltOf cf) dj[j]! dj[j - 1]! with
          | true =>
            obtain ⟨i2, hi2⟩ : ∃ q, q = j := ⟨_, rfl⟩
            obtain ⟨j2, hj2⟩ : ∃ q, q = j - 1 := ⟨_, rfl⟩
            have ea2 : ((jp : Int) + 1).toNat = i2 := by omega
            have pa2 : (0 : Int) ≤ (jp : Int) + 1 := by omega
            have ba2 : (jp : Int) + 1 < (n : Int) := by omega
            have ra2 : IntKind.i64.wrap ((jp : Int) + 1) = (jp : Int) + 1 := by rw [IntKind.wrap_i64]; omega
            have ec2 : ((jp : Int)).toNat = j2 := by omega
            have pc2 : (0 : Int) ≤ (jp : Int) := by omega
            have bc2 : (jp : Int) < (n : Int) := by omega
            have rc2 : IntKind.i64.wrap ((jp : Int)) = (jp : Int) := by rw [IntKind.wrap_i64]; omega
            obtain ⟨x2, hx2⟩ : ∃ x, x = dj[j]! := ⟨_, rfl⟩
            obtain ⟨y2, hy2⟩ : ∃ x, x = dj[j - 1]! := ⟨_, rfl⟩
            have la2 := SJ.out.cl R.out (by omega) (j) (by omega)
            have lb2 := SJ.out.cl R.out (by omega) (j - 1) (by omega)
            rw [← hx2, ← hi2] at la2
            rw [← hy2, ← hj2] at lb2
            have hc2 := SJ.out.cmp HC.out (by omega) x2 y2
            have hv2 : cf x2 y2 < 0 := by rw [hx2, hy2]; exact of_decide_eq_true hlv
            have hd2 : decide (cf x2 y2 < 0) = true := decide_eq_true hv2
            clear hx2 hy2 hi2 hj2
            go_wp2_with fail
            go_quiet_grown (first | (go_at_fn g; refine Calls.grown_of (hc2 _ _)))
            have w2S : Aside (SW enc w0 blk off dj (grow (wr.drewN nq) osq)) := SJ.out.grown nq osq
            clear la2 lb2 hc2 SJ
            generalize grow (wr.drewN nq) osq = w2 at w2S ⊢
            clear nq osq ea2 ec2 pa2 ba2 ra2 pc2 bc2 rc2
            go_wp2_with fail
            obtain ⟨i3, hi3⟩ : ∃ q, q = j := ⟨_, rfl⟩
            obtain ⟨j3, hj3⟩ : ∃ q, q = j - 1 := ⟨_, rfl⟩
            have ea3 : ((jp : Int) + 1).toNat = i3 := by omega
            have pa3 : (0 : Int) ≤ (jp : Int) + 1 := by omega
            have ba3 : (jp : Int) + 1 < (n : Int) := by omega
            have ra3 : IntKind.i64.wrap ((jp : Int) + 1) = (jp : Int) + 1 := by rw [IntKind.wrap_i64]; omega
            have ec3 : ((jp : Int)).toNat = j3 := by omega
            have pc3 : (0 : Int) ≤ (jp : Int) := by omega
            have bc3 : (jp : Int) < (n : Int) := by omega
            have rc3 : IntKind.i64.wrap ((jp : Int)) = (jp : Int) := by rw [IntKind.wrap_i64]; omega
            obtain ⟨x3, hx3⟩ : ∃ x, x = dj[j]! := ⟨_, rfl⟩
            obtain ⟨y3, hy3⟩ : ∃ x, x = dj[j - 1]! := ⟨_, rfl⟩
            have w3S : Aside (SW enc w0 blk off (swp dj (j) (j - 1)) ((w2.setCell ⟨blk, off + i3, none⟩ (enc y3)).setCell ⟨blk, off + j3, none⟩ (enc x3)).drew) := by rw [hi3, hj3, hx3, hy3]; exact w2S.out.swapped R.out (j) (j - 1) (by omega) (by omega)
            have ca3 := w2S.out.c1 R.out (by omega) (j) (by omega)
            have cb3 := w2S.out.c1 R.out (by omega) (j - 1) (by omega)
            have fa3 := w2S.out.f1 R.out (by omega) (j) (by omega)
            have fb3 := w2S.out.f1 R.out (by omega) (j - 1) (by omega)
            obtain ⟨u3, cc3⟩ := w2S.out.c2 R.out (by omega) (j) (j - 1) (by omega) (by omega) (enc y3)
            rw [← hj3, ← hi3] at cc3
            rw [← hx3, ← hi3] at ca3
            rw [← hy3, ← hj3] at cb3
            rw [← hi3] at fa3
            rw [← hj3] at fb3
            clear w2S hx3 hy3 hi3 hj3
            go_wp2_with fail
            go_big_region_o
            clear ca3 cb3 cc3 fa3 fb3
            generalize ((w2.setCell ⟨blk, off + i3, none⟩ (enc y3)).setCell ⟨blk, off + j3, none⟩ (enc x3)).drew = w3 at w3S ⊢
            clear ea3 ec3 pa3 ba3 ra3 pc3 bc3 rc3
            go_wp2_with fail
            go_roundg (j - 1)
            case measure => omega
            case rel => exact ⟨j - 1, swp dj j (j - 1), by first | rfl | go_num | (congr 1; omega), by omega, by omega, Nat.le_refl _, by rw [size_swp]; exact hsj, w3S, (show Hid _ from by rw [← HI.out, insInner_go (ltOf cf) a j dj hja hlv]; exact rfl)⟩
          | false =>
            obtain ⟨i4, hi4⟩ : ∃ q, q = j := ⟨_, rfl⟩
            obtain ⟨j4, hj4⟩ : ∃ q, q = j - 1 := ⟨_, rfl⟩
            have ea4 : ((jp : Int) + 1).toNat = i4 := by omega
            have pa4 : (0 : Int) ≤ (jp : Int) + 1 := by omega
            have ba4 : (jp : Int) + 1 < (n : Int) := by omega
            have ra4 : IntKind.i64.wrap ((jp : Int) + 1) = (jp : Int) + 1 := by rw [IntKind.wrap_i64]; omega
            have ec4 : ((jp : Int)).toNat = j4 := by omega
            have pc4 : (0 : Int) ≤ (jp : Int) := by omega
            have bc4 : (jp : Int) < (n : Int) := by omega
            have rc4 : IntKind.i64.wrap ((jp : Int)) = (jp : Int) := by rw [IntKind.wrap_i64]; omega
            obtain ⟨x4, hx4⟩ : ∃ x, x = dj[j]! := ⟨_, rfl⟩
            obtain ⟨y4, hy4⟩ : ∃ x, x = dj[j - 1]! := ⟨_, rfl⟩
            have la4 := SJ.out.cl R.out (by omega) (j) (by omega)
            have lb4 := SJ.out.cl R.out (by omega) (j - 1) (by omega)
            rw [← hx4, ← hi4] at la4
            rw [← hy4, ← hj4] at lb4
            have hc4 := SJ.out.cmp HC.out (by omega) x4 y4
            have hv4 : ¬ cf x4 y4 < 0 := by rw [hx4, hy4]; exact of_decide_eq_false hlv
            have hd4 : decide (cf x4 y4 < 0) = false := decide_eq_false hv4
            clear hx4 hy4 hi4 hj4
            go_wp2_with fail
            go_quiet_grown (first | (go_at_fn g; refine Calls.grown_of (hc4 _ _)))
            have w2S : Aside (SW enc w0 blk off dj (grow (wr.drewN nq) osq)) := SJ.out.grown nq osq
            clear la4 lb4 hc4 SJ
            generalize grow (wr.drewN nq) osq = w2 at w2S ⊢
            clear nq osq ea4 ec4 pa4 ba4 ra4 pc4 bc4 rc4
            go_wp2_with fail
            go_roundg (b - (i + 1))
            case measure => omega
            case rel => exact ⟨i + 1, dj, by go_num, by omega, by omega, by omega, hsj, w2S, OUT.out (Or.inr hlv)⟩
        · have hjaz : decide ((j : Int) > (a : Int)) = false := decide_eq_false (by omega)
          have hjaz' : ¬ (a : Int) < (j : Int) := by omega
          go_wp2_with fail
          go_big_region_o
          have S2 : Aside (SW enc w0 blk off dj wr.drew) := SJ.out.drew
          clear SJ
          generalize wr.drew = w2 at S2 ⊢
          go_wp2_with fail
          go_roundg (b - (i + 1))
          case measure => omega
          case rel => exact ⟨i + 1, dj, by go_num, by omega, by omega, by omega, hsj, S2, OUT.out (Or.inl (by omega))⟩
    · have hltz : ¬ (i : Int) < (b : Int) := by omega
      go_wp2_with fail
      go_end0
      exact ⟨rfl, by unfold Sort.insertionSort; rw [← HO.out, insOuter_stop _ _ _ _ _ hlt]; exact S1.out, by rw [size_insertionSort]; exact hs⟩
end
end
end Go.Proofs.YtjmkdimbbacnfaaGreatDoor
