/- The stable sort's merge, at runes. (Printed by gen_sort.py.) -/
import Derived.Test.YtjmkdimbbacnfaaGreatDoorGSrtB
namespace Go.Proofs.YtjmkdimbbacnfaaGreatDoor
open Go.Shelf Go.RowKit Go.Lib Go.Sort
set_option linter.unusedVariables false
section
variable {α : Type} [Inhabited α] {enc : α → Value} {cf : α → α → Int} {g : Nat} {cb : Array Value} {blk off cap n : Nat} {d0 : Array α} {w0 : World}
set_option maxHeartbeats 32000000 in
set_option maxRecDepth 1000000 in
theorem srt_sym (eg : ∀ args w, (callFunc g args).run Tryz.prog w = .ok (.enter g args) w) (hcmp : CmpLays1 Tryz.prog g cb enc cf blk off d0.size w0) (hR : Row1 enc w0 blk off d0) (h0 : d0.size = n) (hn : n < 2305843009213693952) : ∀ (F : Nat) (a m b : Nat) (d : Array α) (w : World), b - a ≤ F → a < m → m < b → b ≤ n → d.size = n → SW enc w0 blk off d w →
    Calls Tryz.prog 190 #[.slice (some ⟨blk, off, none⟩) n cap, .int .i64 (a : Int), .int .i64 (m : Int), .int .i64 (b : Int), .func (.func g) #[] cb] w fun e w' => e = .returned (.tuple #[]) ∧ SW enc w0 blk off (symA (ltOf cf) F a m b d) w' ∧ (symA (ltOf cf) F a m b d).size = n := by
  intro F
  induction F with
  | zero => intro a m b d w h1 h2 h3; omega
  | succ F ih =>
  intro a m b d w hF ham hmb hbn hs hS
  have HC : Aside _ := hcmp
  have IH := Lib.hid ih
  clear hcmp ih
  have mixed : Tryz.prog.follows .mixedOrders = true := by kernel_rfl
  have hcl0 := hR.hO.cells
  simp only [Value.cells] at hcl0
  have hst := hR.hO.store Tryz.prog
  have R : Aside _ := hR
  have S0 : Aside _ := hS
  clear hR hS
  replace hn : n < 4611686018427387904 := by omega
  go_enter Tryz.func190, Tryz.ntmps190
  by_cases c1 : m - a = 1
  · have t1 : ((m : Int) - (a : Int) == 1) = true := by rw [beq_iff_eq]; omega
    have Hsym : Hid (symA (ltOf cf) (F + 1) a m b d = upA d a (bis (fun h => ltOf cf d[h]! d[a]!) (b - m) m b - 1 - a)) := Lib.hid (by rw [symA, if_pos c1])
    go_wp2_with fail
    go_loopg [10, 11] (b - m) (fun g1 vi vj wr => ∃ i j f : Nat, vi = .int .i64 (i : Int) ∧ vj = .int .i64 (j : Int) ∧ m ≤ i ∧ i ≤ j ∧ j ≤ b ∧ j - i ≤ f ∧ f ≤ g1 ∧ Aside (SW enc w0 blk off d wr) ∧ Hid (bis (fun h => ltOf cf d[h]! d[a]!) f i j = bis (fun h => ltOf cf d[h]! d[a]!) (b - m) m b))
    case atStart => exact ⟨m, b, b - m, rfl, rfl, by omega, by omega, by omega, Nat.le_refl _, Nat.le_refl _, S0, rfl⟩
    case round =>
      clear S0
      obtain ⟨i, j, f, rfl, rfl, hi0, hij, hjb, hf, hg1, S1, HB⟩ := hrel
      by_cases hlt : i < j
      · have hltz : (i : Int) < (j : Int) := by omega
        obtain ⟨f, rfl⟩ : ∃ q, f = q + 1 := ⟨f - 1, by omega⟩
        obtain ⟨h, hh⟩ : ∃ h, (i + j) / 2 = h := ⟨_, rfl⟩
        have em : ((i : Int) + (j : Int)) / 2 = (h : Int) := by omega
        have m1 : i ≤ h := by omega
        have m2 : h < j := by omega
        cases hlv : (ltOf cf) d[h]! d[a]! with
        | true =>
          have HN := Lib.hid (bis_t HB.out hlt hh (by show ltOf cf d[h]! d[a]! = true; rw [hlv]))
          clear hh
          go_wp2_with fail
          obtain ⟨i5, hi5⟩ : ∃ q, q = h := ⟨_, rfl⟩
          obtain ⟨j5, hj5⟩ : ∃ q, q = a := ⟨_, rfl⟩
          have ea5 : ((h : Int)).toNat = i5 := by omega
          have pa5 : (0 : Int) ≤ (h : Int) := by omega
          have ba5 : (h : Int) < (n : Int) := by omega
          have ra5 : IntKind.i64.wrap ((h : Int)) = (h : Int) := by rw [IntKind.wrap_i64]; omega
          have ec5 : ((a : Int)).toNat = j5 := by omega
          have pc5 : (0 : Int) ≤ (a : Int) := by omega
          have bc5 : (a : Int) < (n : Int) := by omega
          have rc5 : IntKind.i64.wrap ((a : Int)) = (a : Int) := by rw [IntKind.wrap_i64]; omega
          obtain ⟨x5, hx5⟩ : ∃ x, x = d[h]! := ⟨_, rfl⟩
          obtain ⟨y5, hy5⟩ : ∃ x, x = d[a]! := ⟨_, rfl⟩
          have la5 := S1.out.cl R.out (by omega) (h) (by omega)
          have lb5 := S1.out.cl R.out (by omega) (a) (by omega)
          rw [← hx5, ← hi5] at la5
          rw [← hy5, ← hj5] at lb5
          have hc5 := S1.out.cmp HC.out (by omega) x5 y5
          have hv5 : cf x5 y5 < 0 := by rw [hx5, hy5]; exact of_decide_eq_true hlv
          have hd5 : decide (cf x5 y5 < 0) = true := decide_eq_true hv5
          clear hx5 hy5 hi5 hj5
          go_wp2_with fail
          go_quiet_grown (first | (go_at_fn g; refine Calls.grown_of (hc5 _ _)))
          have w2S : Aside (SW enc w0 blk off d (grow (wr.drewN nq) osq)) := S1.out.grown nq osq
          clear la5 lb5 hc5 S1
          generalize grow (wr.drewN nq) osq = w2 at w2S ⊢
          clear nq osq ea5 ec5 pa5 ba5 ra5 pc5 bc5 rc5
          go_wp2_with fail
          go_roundg f
          case measure => omega
          case rel => exact ⟨h + 1, j, f, by go_num, rfl, by omega, by omega, by omega, by omega, Nat.le_refl _, w2S, HN⟩
        | false =>
          have HN := Lib.hid (bis_f HB.out hlt hh (by show ltOf cf d[h]! d[a]! = false; rw [hlv]))
          clear hh
          go_wp2_with fail
          obtain ⟨i6, hi6⟩ : ∃ q, q = h := ⟨_, rfl⟩
          obtain ⟨j6, hj6⟩ : ∃ q, q = a := ⟨_, rfl⟩
          have ea6 : ((h : Int)).toNat = i6 := by omega
          have pa6 : (0 : Int) ≤ (h : Int) := by omega
          have ba6 : (h : Int) < (n : Int) := by omega
          have ra6 : IntKind.i64.wrap ((h : Int)) = (h : Int) := by rw [IntKind.wrap_i64]; omega
          have ec6 : ((a : Int)).toNat = j6 := by omega
          have pc6 : (0 : Int) ≤ (a : Int) := by omega
          have bc6 : (a : Int) < (n : Int) := by omega
          have rc6 : IntKind.i64.wrap ((a : Int)) = (a : Int) := by rw [IntKind.wrap_i64]; omega
          obtain ⟨x6, hx6⟩ : ∃ x, x = d[h]! := ⟨_, rfl⟩
          obtain ⟨y6, hy6⟩ : ∃ x, x = d[a]! := ⟨_, rfl⟩
          have la6 := S1.out.cl R.out (by omega) (h) (by omega)
          have lb6 := S1.out.cl R.out (by omega) (a) (by omega)
          rw [← hx6, ← hi6] at la6
          rw [← hy6, ← hj6] at lb6
          have hc6 := S1.out.cmp HC.out (by omega) x6 y6
          have hv6 : ¬ cf x6 y6 < 0 := by rw [hx6, hy6]; exact of_decide_eq_false hlv
          have hd6 : decide (cf x6 y6 < 0) = false := decide_eq_false hv6
          clear hx6 hy6 hi6 hj6
          go_wp2_with fail
          go_quiet_grown (first | (go_at_fn g; refine Calls.grown_of (hc6 _ _)))
          have w2S : Aside (SW enc w0 blk off d (grow (wr.drewN nq) osq)) := S1.out.grown nq osq
          clear la6 lb6 hc6 S1
          generalize grow (wr.drewN nq) osq = w2 at w2S ⊢
          clear nq osq ea6 ec6 pa6 ba6 ra6 pc6 bc6 rc6
          go_wp2_with fail
          go_roundg f
          case measure => omega
          case rel => exact ⟨i, h, f, rfl, rfl, by omega, by omega, by omega, by omega, Nat.le_refl _, w2S, HN⟩
      · obtain rfl : j = i := by omega
        have hltz : ¬ (j : Int) < (j : Int) := by omega
        have HB := Lib.hid (HB.out.symm.trans (bis_end _ _ _))
        rw [HB.out] at Hsym
        obtain ⟨q, hq⟩ : ∃ q, j - 1 = q := ⟨_, rfl⟩
        have eq : (j : Int) - 1 = (q : Int) := by omega
        rw [hq] at Hsym
        clear HB hq
        go_wp2_with fail
        go_loopg [13] (q - a) (fun g1 vk wr => ∃ k c : Nat, vk = .int .i64 (k : Int) ∧ k = a + c ∧ k ≤ q ∧ q - k ≤ g1 ∧ Aside (SW enc w0 blk off (upA d a c) wr))
        case atStart => exact ⟨a, 0, rfl, rfl, by omega, Nat.le_refl _, S1⟩
        case round =>
          clear S1
          obtain ⟨k, c, rfl, hk9, hkq, hg1, S1⟩ := hrel
          have hk := Lib.hid hk9
          have hka : a ≤ k := by omega
          clear hk9
          have hsi : (upA d a c).size = n := by rw [size_upA]; exact hs
          by_cases hlt2 : k < q
          · have hl2 : (k : Int) < (q : Int) := by omega
            obtain ⟨di, hdi⟩ : ∃ x, upA d a c = x := ⟨_, rfl⟩
            rw [hdi] at S1 hsi
            have Hdi := Lib.hid hdi
            clear hdi
            go_wp2_with fail
            obtain ⟨i7, hi7⟩ : ∃ q, q = k := ⟨_, rfl⟩
            obtain ⟨j7, hj7⟩ : ∃ q, q = k + 1 := ⟨_, rfl⟩
            have ea7 : ((k : Int)).toNat = i7 := by omega
            have pa7 : (0 : Int) ≤ (k : Int) := by omega
            have ba7 : (k : Int) < (n : Int) := by omega
            have ra7 : IntKind.i64.wrap ((k : Int)) = (k : Int) := by rw [IntKind.wrap_i64]; omega
            have ec7 : ((k : Int) + 1).toNat = j7 := by omega
            have pc7 : (0 : Int) ≤ (k : Int) + 1 := by omega
            have bc7 : (k : Int) + 1 < (n : Int) := by omega
            have rc7 : IntKind.i64.wrap ((k : Int) + 1) = (k : Int) + 1 := by rw [IntKind.wrap_i64]; omega
            obtain ⟨x7, hx7⟩ : ∃ x, x = di[k]! := ⟨_, rfl⟩
            obtain ⟨y7, hy7⟩ : ∃ x, x = di[k + 1]! := ⟨_, rfl⟩
            have w2S : Aside (SW enc w0 blk off (swp di (k) (k + 1)) ((wr.setCell ⟨blk, off + i7, none⟩ (enc y7)).setCell ⟨blk, off + j7, none⟩ (enc x7)).drew) := by rw [hi7, hj7, hx7, hy7]; exact S1.out.swapped R.out (k) (k + 1) (by omega) (by omega)
            have ca7 := S1.out.c1 R.out (by omega) (k) (by omega)
            have cb7 := S1.out.c1 R.out (by omega) (k + 1) (by omega)
            have fa7 := S1.out.f1 R.out (by omega) (k) (by omega)
            have fb7 := S1.out.f1 R.out (by omega) (k + 1) (by omega)
            obtain ⟨u7, cc7⟩ := S1.out.c2 R.out (by omega) (k) (k + 1) (by omega) (by omega) (enc y7)
            rw [← hj7, ← hi7] at cc7
            rw [← hx7, ← hi7] at ca7
            rw [← hy7, ← hj7] at cb7
            rw [← hi7] at fa7
            rw [← hj7] at fb7
            clear S1 hx7 hy7 hi7 hj7
            go_wp2_with fail
            go_big_region_o
            clear ca7 cb7 cc7 fa7 fb7
            generalize ((wr.setCell ⟨blk, off + i7, none⟩ (enc y7)).setCell ⟨blk, off + j7, none⟩ (enc x7)).drew = w2 at w2S ⊢
            clear ea7 ec7 pa7 ba7 ra7 pc7 bc7 rc7
            go_wp2_with fail
            go_roundg (q - (k + 1))
            case measure => omega
            case rel => exact ⟨k + 1, c + 1, by go_num, by have := hk.out; omega, by omega, Nat.le_refl _, (show Aside _ from by rw [upA, Hdi.out, ← hk.out]; exact w2S.out)⟩
          · obtain rfl : k = q := by omega
            have hl2 : ¬ (k : Int) < (k : Int) := by omega
            go_wp2_with fail
            refine bodyPost_ret (results_none rfl _ _ _) rfl ?_
            exact ⟨rfl, by rw [Hsym.out, show k - a = c by have := hk.out; omega]; exact S1.out, by rw [size_symA]; exact hs⟩
  · have t1 : ((m : Int) - (a : Int) == 1) = false := by rw [beq_eq_false_iff_ne]; omega
    by_cases c2 : b - m = 1
    · have t2 : ((b : Int) - (m : Int) == 1) = true := by rw [beq_iff_eq]; omega
      have Hsym : Hid (symA (ltOf cf) (F + 1) a m b d = dnA d m (m - bis (fun h => !ltOf cf d[m]! d[h]!) (m - a) a m)) := Lib.hid (by rw [symA, if_neg c1, if_pos c2])
      go_wp2_with fail
      go_loopg [14, 15] (m - a) (fun g1 vi vj wr => ∃ i j f : Nat, vi = .int .i64 (i : Int) ∧ vj = .int .i64 (j : Int) ∧ a ≤ i ∧ i ≤ j ∧ j ≤ m ∧ j - i ≤ f ∧ f ≤ g1 ∧ Aside (SW enc w0 blk off d wr) ∧ Hid (bis (fun h => !ltOf cf d[m]! d[h]!) f i j = bis (fun h => !ltOf cf d[m]! d[h]!) (m - a) a m))
      case atStart => exact ⟨a, m, m - a, rfl, rfl, by omega, by omega, by omega, Nat.le_refl _, Nat.le_refl _, S0, rfl⟩
      case round =>
        clear S0
        obtain ⟨i, j, f, rfl, rfl, hi0, hij, hjb, hf, hg1, S1, HB⟩ := hrel
        by_cases hlt : i < j
        · have hltz : (i : Int) < (j : Int) := by omega
          obtain ⟨f, rfl⟩ : ∃ q, f = q + 1 := ⟨f - 1, by omega⟩
          obtain ⟨h, hh⟩ : ∃ h, (i + j) / 2 = h := ⟨_, rfl⟩
          have em : ((i : Int) + (j : Int)) / 2 = (h : Int) := by omega
          have m1 : i ≤ h := by omega
          have m2 : h < j := by omega
          cases hlv : (ltOf cf) d[m]! d[h]! with
          | true =>
            have HN := Lib.hid (bis_f HB.out hlt hh (by show (!ltOf cf d[m]! d[h]!) = false; rw [hlv]; rfl))
            clear hh
            go_wp2_with fail
            obtain ⟨i8, hi8⟩ : ∃ q, q = m := ⟨_, rfl⟩
            obtain ⟨j8, hj8⟩ : ∃ q, q = h := ⟨_, rfl⟩
            have ea8 : ((m : Int)).toNat = i8 := by omega
            have pa8 : (0 : Int) ≤ (m : Int) := by omega
            have ba8 : (m : Int) < (n : Int) := by omega
            have ra8 : IntKind.i64.wrap ((m : Int)) = (m : Int) := by rw [IntKind.wrap_i64]; omega
            have ec8 : ((h : Int)).toNat = j8 := by omega
            have pc8 : (0 : Int) ≤ (h : Int) := by omega
            have bc8 : (h : Int) < (n : Int) := by omega
            have rc8 : IntKind.i64.wrap ((h : Int)) = (h : Int) := by rw [IntKind.wrap_i64]; omega
            obtain ⟨x8, hx8⟩ : ∃ x, x = d[m]! := ⟨_, rfl⟩
            obtain ⟨y8, hy8⟩ : ∃ x, x = d[h]! := ⟨_, rfl⟩
            have la8 := S1.out.cl R.out (by omega) (m) (by omega)
            have lb8 := S1.out.cl R.out (by omega) (h) (by omega)
            rw [← hx8, ← hi8] at la8
            rw [← hy8, ← hj8] at lb8
            have hc8 := S1.out.cmp HC.out (by omega) x8 y8
            have hv8 : cf x8 y8 < 0 := by rw [hx8, hy8]; exact of_decide_eq_true hlv
            have hd8 : decide (cf x8 y8 < 0) = true := decide_eq_true hv8
            clear hx8 hy8 hi8 hj8
            go_wp2_with fail
            go_quiet_grown (first | (go_at_fn g; refine Calls.grown_of (hc8 _ _)))
            have w2S : Aside (SW enc w0 blk off d (grow (wr.drewN nq) osq)) := S1.out.grown nq osq
            clear la8 lb8 hc8 S1
            generalize grow (wr.drewN nq) osq = w2 at w2S ⊢
            clear nq osq ea8 ec8 pa8 ba8 ra8 pc8 bc8 rc8
            go_wp2_with fail
            go_roundg f
            case measure => omega
            case rel => exact ⟨i, h, f, rfl, rfl, by omega, by omega, by omega, by omega, Nat.le_refl _, w2S, HN⟩
          | false =>
            have HN := Lib.hid (bis_t HB.out hlt hh (by show (!ltOf cf d[m]! d[h]!) = true; rw [hlv]; rfl))
            clear hh
            go_wp2_with fail
            obtain ⟨i9, hi9⟩ : ∃ q, q = m := ⟨_, rfl⟩
            obtain ⟨j9, hj9⟩ : ∃ q, q = h := ⟨_, rfl⟩
            have ea9 : ((m : Int)).toNat = i9 := by omega
            have pa9 : (0 : Int) ≤ (m : Int) := by omega
            have ba9 : (m : Int) < (n : Int) := by omega
            have ra9 : IntKind.i64.wrap ((m : Int)) = (m : Int) := by rw [IntKind.wrap_i64]; omega
            have ec9 : ((h : Int)).toNat = j9 := by omega
            have pc9 : (0 : Int) ≤ (h : Int) := by omega
            have bc9 : (h : Int) < (n : Int) := by omega
            have rc9 : IntKind.i64.wrap ((h : Int)) = (h : Int) := by rw [IntKind.wrap_i64]; omega
            obtain ⟨x9, hx9⟩ : ∃ x, x = d[m]! := ⟨_, rfl⟩
            obtain ⟨y9, hy9⟩ : ∃ x, x = d[h]! := ⟨_, rfl⟩
            have la9 := S1.out.cl R.out (by omega) (m) (by omega)
            have lb9 := S1.out.cl R.out (by omega) (h) (by omega)
            rw [← hx9, ← hi9] at la9
            rw [← hy9, ← hj9] at lb9
            have hc9 := S1.out.cmp HC.out (by omega) x9 y9
            have hv9 : ¬ cf x9 y9 < 0 := by rw [hx9, hy9]; exact of_decide_eq_false hlv
            have hd9 : decide (cf x9 y9 < 0) = false := decide_eq_false hv9
            clear hx9 hy9 hi9 hj9
            go_wp2_with fail
            go_quiet_grown (first | (go_at_fn g; refine Calls.grown_of (hc9 _ _)))
            have w2S : Aside (SW enc w0 blk off d (grow (wr.drewN nq) osq)) := S1.out.grown nq osq
            clear la9 lb9 hc9 S1
            generalize grow (wr.drewN nq) osq = w2 at w2S ⊢
            clear nq osq ea9 ec9 pa9 ba9 ra9 pc9 bc9 rc9
            go_wp2_with fail
            go_roundg f
            case measure => omega
            case rel => exact ⟨h + 1, j, f, by go_num, rfl, by omega, by omega, by omega, by omega, Nat.le_refl _, w2S, HN⟩
        · obtain rfl : j = i := by omega
          have hltz : ¬ (j : Int) < (j : Int) := by omega
          have HB := Lib.hid (HB.out.symm.trans (bis_end _ _ _))
          rw [HB.out] at Hsym
          clear HB
          go_wp2_with fail
          go_loopg [17] (m - j) (fun g1 vk wr => ∃ k c : Nat, vk = .int .i64 (k : Int) ∧ k + c = m ∧ j ≤ k ∧ k - j ≤ g1 ∧ Aside (SW enc w0 blk off (dnA d m c) wr))
          case atStart => exact ⟨m, 0, rfl, rfl, by omega, Nat.le_refl _, S1⟩
          case round =>
            clear S1
            obtain ⟨k, c, rfl, hk9, hkq, hg1, S1⟩ := hrel
            have hk := Lib.hid hk9
            have hsi : (dnA d m c).size = n := by rw [size_dnA]; exact hs
            have hkm : k ≤ m := by omega
            clear hk9
            by_cases hlt2 : j < k
            · have hl2 : (j : Int) < (k : Int) := by omega
              obtain ⟨k, rfl⟩ : ∃ q, k = q + 1 := ⟨k - 1, by omega⟩
              have zk : ((k + 1 : Nat) : Int) = (k : Int) + 1 := by omega
              have hl3 : (j : Int) < (k : Int) + 1 := by omega
              obtain ⟨di, hdi⟩ : ∃ x, dnA d m c = x := ⟨_, rfl⟩
              rw [hdi] at S1 hsi
              have Hdi := Lib.hid hdi
              clear hdi
              go_wp2_with fail
              obtain ⟨i10, hi10⟩ : ∃ q, q = k + 1 := ⟨_, rfl⟩
              obtain ⟨j10, hj10⟩ : ∃ q, q = k := ⟨_, rfl⟩
              have ea10 : ((k : Int) + 1).toNat = i10 := by omega
              have pa10 : (0 : Int) ≤ (k : Int) + 1 := by omega
              have ba10 : (k : Int) + 1 < (n : Int) := by omega
              have ra10 : IntKind.i64.wrap ((k : Int) + 1) = (k : Int) + 1 := by rw [IntKind.wrap_i64]; omega
              have ec10 : ((k : Int)).toNat = j10 := by omega
              have pc10 : (0 : Int) ≤ (k : Int) := by omega
              have bc10 : (k : Int) < (n : Int) := by omega
              have rc10 : IntKind.i64.wrap ((k : Int)) = (k : Int) := by rw [IntKind.wrap_i64]; omega
              obtain ⟨x10, hx10⟩ : ∃ x, x = di[k + 1]! := ⟨_, rfl⟩
              obtain ⟨y10, hy10⟩ : ∃ x, x = di[k]! := ⟨_, rfl⟩
              have w2S : Aside (SW enc w0 blk off (swp di (k + 1) (k)) ((wr.setCell ⟨blk, off + i10, none⟩ (enc y10)).setCell ⟨blk, off + j10, none⟩ (enc x10)).drew) := by rw [hi10, hj10, hx10, hy10]; exact S1.out.swapped R.out (k + 1) (k) (by omega) (by omega)
              have ca10 := S1.out.c1 R.out (by omega) (k + 1) (by omega)
              have cb10 := S1.out.c1 R.out (by omega) (k) (by omega)
              have fa10 := S1.out.f1 R.out (by omega) (k + 1) (by omega)
              have fb10 := S1.out.f1 R.out (by omega) (k) (by omega)
              obtain ⟨u10, cc10⟩ := S1.out.c2 R.out (by omega) (k + 1) (k) (by omega) (by omega) (enc y10)
              rw [← hi10, ← hj10] at cc10
              rw [← hx10, ← hi10] at ca10
              rw [← hy10, ← hj10] at cb10
              rw [← hi10] at fa10
              rw [← hj10] at fb10
              clear S1 hx10 hy10 hi10 hj10
              go_wp2_with fail
              go_big_region_o
              clear ca10 cb10 cc10 fa10 fb10
              generalize ((wr.setCell ⟨blk, off + i10, none⟩ (enc y10)).setCell ⟨blk, off + j10, none⟩ (enc x10)).drew = w2 at w2S ⊢
              clear ea10 ec10 pa10 ba10 ra10 pc10 bc10 rc10
              go_wp2_with fail
              go_roundg (k - j)
              case measure => omega
              case rel => exact ⟨k, c + 1, by first | rfl | go_num, by have := hk.out; omega, by omega, Nat.le_refl _, (show Aside _ from by rw [dnA, Hdi.out, show m - c = k + 1 by have := hk.out; omega, show k + 1 - 1 = k by omega]; exact w2S.out)⟩
            · obtain rfl : k = j := by omega
              have hl2 : ¬ (k : Int) < (k : Int) := by omega
              go_wp2_with fail
              refine bodyPost_ret (results_none rfl _ _ _) rfl ?_
              exact ⟨rfl, by rw [Hsym.out, show m - k = c by have := hk.out; omega]; exact S1.out, by rw [size_symA]; exact hs⟩
    · have t2 : ((b : Int) - (m : Int) == 1) = false := by rw [beq_eq_false_iff_ne]; omega
      obtain ⟨mid, hmid⟩ : ∃ x, (a + b) / 2 = x := ⟨_, rfl⟩
      have emid : ((a : Int) + (b : Int)) / 2 = (mid : Int) := by omega
      obtain ⟨N, hN⟩ : ∃ x, mid + m = x := ⟨_, rfl⟩
      have eN : (mid : Int) + (m : Int) = (N : Int) := by omega
      obtain ⟨q0, hq0⟩ : ∃ x, N - 1 = x := ⟨_, rfl⟩
      have eq0 : (N : Int) - 1 = (q0 : Int) := by omega
      by_cases hbr : mid < m
      · have t3 : (mid : Int) < (m : Int) := by omega
        obtain ⟨s0, hs0⟩ : ∃ x, N - b = x := ⟨_, rfl⟩
        have es0 : (N : Int) - (b : Int) = (s0 : Int) := by omega
        go_wp2_with fail
        go_loopg [20, 21] (mid - s0) (fun g1 vi vj wr => ∃ i j f : Nat, vi = .int .i64 (i : Int) ∧ vj = .int .i64 (j : Int) ∧ s0 ≤ i ∧ i ≤ j ∧ j ≤ mid ∧ j - i ≤ f ∧ f ≤ g1 ∧ Aside (SW enc w0 blk off d wr) ∧ Hid (bis (fun h => !ltOf cf d[q0 - h]! d[h]!) f i j = bis (fun h => !ltOf cf d[q0 - h]! d[h]!) (mid - s0) s0 mid))
        case atStart => exact ⟨s0, mid, mid - s0, rfl, rfl, by omega, by omega, by omega, Nat.le_refl _, Nat.le_refl _, S0, rfl⟩
        case round =>
          clear S0
          obtain ⟨i, j, f, rfl, rfl, hi0, hij, hjb, hf, hg1, S1, HB⟩ := hrel
          by_cases hlt : i < j
          · have hltz : (i : Int) < (j : Int) := by omega
            obtain ⟨f, rfl⟩ : ∃ q, f = q + 1 := ⟨f - 1, by omega⟩
            obtain ⟨h, hh⟩ : ∃ h, (i + j) / 2 = h := ⟨_, rfl⟩
            have em : ((i : Int) + (j : Int)) / 2 = (h : Int) := by omega
            have m1 : i ≤ h := by omega
            have m2 : h < j := by omega
            obtain ⟨q, hq⟩ : ∃ q, q0 - h = q := ⟨_, rfl⟩
            have eq : (q0 : Int) - (h : Int) = (q : Int) := by omega
            have eqn : q0 - h = q := hq
            clear hq
            cases hlv : (ltOf cf) d[q0 - h]! d[h]! with
            | true =>
              have HN := Lib.hid (bis_f HB.out hlt hh (by show (!ltOf cf d[q0 - h]! d[h]!) = false; rw [hlv]; rfl))
              clear hh
              go_wp2_with fail
              obtain ⟨i11, hi11⟩ : ∃ q, q = q0 - h := ⟨_, rfl⟩
              obtain ⟨j11, hj11⟩ : ∃ q, q = h := ⟨_, rfl⟩
              have ea11 : ((q : Int)).toNat = i11 := by omega
              have pa11 : (0 : Int) ≤ (q : Int) := by omega
              have ba11 : (q : Int) < (n : Int) := by omega
              have ra11 : IntKind.i64.wrap ((q : Int)) = (q : Int) := by rw [IntKind.wrap_i64]; omega
              have ec11 : ((h : Int)).toNat = j11 := by omega
              have pc11 : (0 : Int) ≤ (h : Int) := by omega
              have bc11 : (h : Int) < (n : Int) := by omega
              have rc11 : IntKind.i64.wrap ((h : Int)) = (h : Int) := by rw [IntKind.wrap_i64]; omega
              obtain ⟨x11, hx11⟩ : ∃ x, x = d[q0 - h]! := ⟨_, rfl⟩
              obtain ⟨y11, hy11⟩ : ∃ x, x = d[h]! := ⟨_, rfl⟩
              have la11 := S1.out.cl R.out (by omega) (q0 - h) (by omega)
              have lb11 := S1.out.cl R.out (by omega) (h) (by omega)
              rw [← hx11, ← hi11] at la11
              rw [← hy11, ← hj11] at lb11
              have hc11 := S1.out.cmp HC.out (by omega) x11 y11
              have hv11 : cf x11 y11 < 0 := by rw [hx11, hy11]; exact of_decide_eq_true hlv
              have hd11 : decide (cf x11 y11 < 0) = true := decide_eq_true hv11
              clear hx11 hy11 hi11 hj11
              go_wp2_with fail
              go_quiet_grown (first | (go_at_fn g; refine Calls.grown_of (hc11 _ _)))
              have w2S : Aside (SW enc w0 blk off d (grow (wr.drewN nq) osq)) := S1.out.grown nq osq
              clear la11 lb11 hc11 S1
              generalize grow (wr.drewN nq) osq = w2 at w2S ⊢
              clear nq osq ea11 ec11 pa11 ba11 ra11 pc11 bc11 rc11
              go_wp2_with fail
              go_roundg f
              case measure => omega
              case rel => exact ⟨i, h, f, rfl, rfl, by omega, by omega, by omega, by omega, Nat.le_refl _, w2S, HN⟩
            | false =>
              have HN := Lib.hid (bis_t HB.out hlt hh (by show (!ltOf cf d[q0 - h]! d[h]!) = true; rw [hlv]; rfl))
              clear hh
              go_wp2_with fail
              obtain ⟨i12, hi12⟩ : ∃ q, q = q0 - h := ⟨_, rfl⟩
              obtain ⟨j12, hj12⟩ : ∃ q, q = h := ⟨_, rfl⟩
              have ea12 : ((q : Int)).toNat = i12 := by omega
              have pa12 : (0 : Int) ≤ (q : Int) := by omega
              have ba12 : (q : Int) < (n : Int) := by omega
              have ra12 : IntKind.i64.wrap ((q : Int)) = (q : Int) := by rw [IntKind.wrap_i64]; omega
              have ec12 : ((h : Int)).toNat = j12 := by omega
              have pc12 : (0 : Int) ≤ (h : Int) := by omega
              have bc12 : (h : Int) < (n : Int) := by omega
              have rc12 : IntKind.i64.wrap ((h : Int)) = (h : Int) := by rw [IntKind.wrap_i64]; omega
              obtain ⟨x12, hx12⟩ : ∃ x, x = d[q0 - h]! := ⟨_, rfl⟩
              obtain ⟨y12, hy12⟩ : ∃ x, x = d[h]! := ⟨_, rfl⟩
              have la12 := S1.out.cl R.out (by omega) (q0 - h) (by omega)
              have lb12 := S1.out.cl R.out (by omega) (h) (by omega)
              rw [← hx12, ← hi12] at la12
              rw [← hy12, ← hj12] at lb12
              have hc12 := S1.out.cmp HC.out (by omega) x12 y12
              have hv12 : ¬ cf x12 y12 < 0 := by rw [hx12, hy12]; exact of_decide_eq_false hlv
              have hd12 : decide (cf x12 y12 < 0) = false := decide_eq_false hv12
              clear hx12 hy12 hi12 hj12
              go_wp2_with fail
              go_quiet_grown (first | (go_at_fn g; refine Calls.grown_of (hc12 _ _)))
              have w2S : Aside (SW enc w0 blk off d (grow (wr.drewN nq) osq)) := S1.out.grown nq osq
              clear la12 lb12 hc12 S1
              generalize grow (wr.drewN nq) osq = w2 at w2S ⊢
              clear nq osq ea12 ec12 pa12 ba12 ra12 pc12 bc12 rc12
              go_wp2_with fail
              go_roundg f
              case measure => omega
              case rel => exact ⟨h + 1, j, f, by go_num, rfl, by omega, by omega, by omega, by omega, Nat.le_refl _, w2S, HN⟩
          · obtain rfl : j = i := by omega
            have hltz : ¬ (j : Int) < (j : Int) := by omega
            have HB := Lib.hid (HB.out.symm.trans (bis_end _ _ _))
            obtain ⟨e, he⟩ : ∃ e, N - j = e := ⟨_, rfl⟩
            have ee : (N : Int) - (j : Int) = (e : Int) := by omega
            have Hsym : Hid (symA (ltOf cf) (F + 1) a m b d = (if mid < e ∧ e < b then symA (ltOf cf) F mid e b (if a < j ∧ j < mid then symA (ltOf cf) F a j mid (if j < m ∧ m < e then rotA m (m - j + (e - m)) (m - j) (e - m) d else d) else (if j < m ∧ m < e then rotA m (m - j + (e - m)) (m - j) (e - m) d else d)) else (if a < j ∧ j < mid then symA (ltOf cf) F a j mid (if j < m ∧ m < e then rotA m (m - j + (e - m)) (m - j) (e - m) d else d) else (if j < m ∧ m < e then rotA m (m - j + (e - m)) (m - j) (e - m) d else d)))) := Lib.hid (by
              have hs : symS (ltOf cf) d a m b = j := by
                unfold symS
                rw [hmid]
                dsimp only
                rw [if_pos hbr, if_pos hbr]
                rw [show mid + m - 1 = q0 by omega, show mid + m - b = s0 by omega]
                exact HB.out
              rw [symA, if_neg c1, if_neg c2, hs, hmid, ← he, ← hN])
            clear HB
            have SC := S1
            have hsc := hs
            clear S1
            by_cases P : j < m <;> by_cases Q : j < mid <;> by_cases A : a < j <;> by_cases B : e < b
            all_goals (try (exfalso; omega))
            all_goals (
              have p1 : decide (j < m) = decide (j < m) := rfl
              first | have z1 : (j : Int) < (m : Int) := by omega | have z1 : ¬ (j : Int) < (m : Int) := by omega
              first | have z2 : (m : Int) < (e : Int) := by omega | have z2 : ¬ (m : Int) < (e : Int) := by omega
              first | have z3 : (a : Int) < (j : Int) := by omega | have z3 : ¬ (a : Int) < (j : Int) := by omega
              first | have z4 : (j : Int) < (mid : Int) := by omega | have z4 : ¬ (j : Int) < (mid : Int) := by omega
              first | have z5 : (mid : Int) < (e : Int) := by omega | have z5 : ¬ (mid : Int) < (e : Int) := by omega
              first | have z6 : (e : Int) < (b : Int) := by omega | have z6 : ¬ (e : Int) < (b : Int) := by omega
              clear p1
              go_wp2_with (first | (go_at_call 207; refine (srt_rot R.out h0 hn _ _ hsc SC.out _ _ _ (by omega) (by omega) (by omega) _).mono ?_; rintro e9 w9 ⟨rfl, hS9, hz9⟩; replace hsc := hz9; replace SC : Aside _ := hS9; clear hS9) | (go_at_call 190; refine (IH.out _ _ _ _ _ (by omega) (by omega) (by omega) (by omega) hsc SC.out).mono ?_; rintro e9 w9 ⟨rfl, hS9, hz9⟩; replace hsc := hz9; replace SC : Aside _ := hS9; clear hS9))
              go_end0
              exact ⟨rfl, by
                have h9 := SC.out
                rw [Hsym.out]
                repeat' split
                all_goals first | exact h9 | (exfalso; omega), by rw [size_symA]; exact hs⟩)
      · have t3 : ¬ (mid : Int) < (m : Int) := by omega
        go_wp2_with fail
        go_loopg [20, 21] (m - a) (fun g1 vi vj wr => ∃ i j f : Nat, vi = .int .i64 (i : Int) ∧ vj = .int .i64 (j : Int) ∧ a ≤ i ∧ i ≤ j ∧ j ≤ m ∧ j - i ≤ f ∧ f ≤ g1 ∧ Aside (SW enc w0 blk off d wr) ∧ Hid (bis (fun h => !ltOf cf d[q0 - h]! d[h]!) f i j = bis (fun h => !ltOf cf d[q0 - h]! d[h]!) (m - a) a m))
        case atStart => exact ⟨a, m, m - a, rfl, rfl, by omega, by omega, by omega, Nat.le_refl _, Nat.le_refl _, S0, rfl⟩
        case round =>
          clear S0
          obtain ⟨i, j, f, rfl, rfl, hi0, hij, hjb, hf, hg1, S1, HB⟩ := hrel
          by_cases hlt : i < j
          · have hltz : (i : Int) < (j : Int) := by omega
            obtain ⟨f, rfl⟩ : ∃ q, f = q + 1 := ⟨f - 1, by omega⟩
            obtain ⟨h, hh⟩ : ∃ h, (i + j) / 2 = h := ⟨_, rfl⟩
            have em : ((i : Int) + (j : Int)) / 2 = (h : Int) := by omega
            have m1 : i ≤ h := by omega
            have m2 : h < j := by omega
            obtain ⟨q, hq⟩ : ∃ q, q0 - h = q := ⟨_, rfl⟩
            have eq : (q0 : Int) - (h : Int) = (q : Int) := by omega
            have eqn : q0 - h = q := hq
            clear hq
            cases hlv : (ltOf cf) d[q0 - h]! d[h]! with
            | true =>
              have HN := Lib.hid (bis_f HB.out hlt hh (by show (!ltOf cf d[q0 - h]! d[h]!) = false; rw [hlv]; rfl))
              clear hh
              go_wp2_with fail
              obtain ⟨i13, hi13⟩ : ∃ q, q = q0 - h := ⟨_, rfl⟩
              obtain ⟨j13, hj13⟩ : ∃ q, q = h := ⟨_, rfl⟩
              have ea13 : ((q : Int)).toNat = i13 := by omega
              have pa13 : (0 : Int) ≤ (q : Int) := by omega
              have ba13 : (q : Int) < (n : Int) := by omega
              have ra13 : IntKind.i64.wrap ((q : Int)) = (q : Int) := by rw [IntKind.wrap_i64]; omega
              have ec13 : ((h : Int)).toNat = j13 := by omega
              have pc13 : (0 : Int) ≤ (h : Int) := by omega
              have bc13 : (h : Int) < (n : Int) := by omega
              have rc13 : IntKind.i64.wrap ((h : Int)) = (h : Int) := by rw [IntKind.wrap_i64]; omega
              obtain ⟨x13, hx13⟩ : ∃ x, x = d[q0 - h]! := ⟨_, rfl⟩
              obtain ⟨y13, hy13⟩ : ∃ x, x = d[h]! := ⟨_, rfl⟩
              have la13 := S1.out.cl R.out (by omega) (q0 - h) (by omega)
              have lb13 := S1.out.cl R.out (by omega) (h) (by omega)
              rw [← hx13, ← hi13] at la13
              rw [← hy13, ← hj13] at lb13
              have hc13 := S1.out.cmp HC.out (by omega) x13 y13
              have hv13 : cf x13 y13 < 0 := by rw [hx13, hy13]; exact of_decide_eq_true hlv
              have hd13 : decide (cf x13 y13 < 0) = true := decide_eq_true hv13
              clear hx13 hy13 hi13 hj13
              go_wp2_with fail
              go_quiet_grown (first | (go_at_fn g; refine Calls.grown_of (hc13 _ _)))
              have w2S : Aside (SW enc w0 blk off d (grow (wr.drewN nq) osq)) := S1.out.grown nq osq
              clear la13 lb13 hc13 S1
              generalize grow (wr.drewN nq) osq = w2 at w2S ⊢
              clear nq osq ea13 ec13 pa13 ba13 ra13 pc13 bc13 rc13
              go_wp2_with fail
              go_roundg f
              case measure => omega
              case rel => exact ⟨i, h, f, rfl, rfl, by omega, by omega, by omega, by omega, Nat.le_refl _, w2S, HN⟩
            | false =>
              have HN := Lib.hid (bis_t HB.out hlt hh (by show (!ltOf cf d[q0 - h]! d[h]!) = true; rw [hlv]; rfl))
              clear hh
              go_wp2_with fail
              obtain ⟨i14, hi14⟩ : ∃ q, q = q0 - h := ⟨_, rfl⟩
              obtain ⟨j14, hj14⟩ : ∃ q, q = h := ⟨_, rfl⟩
              have ea14 : ((q : Int)).toNat = i14 := by omega
              have pa14 : (0 : Int) ≤ (q : Int) := by omega
              have ba14 : (q : Int) < (n : Int) := by omega
              have ra14 : IntKind.i64.wrap ((q : Int)) = (q : Int) := by rw [IntKind.wrap_i64]; omega
              have ec14 : ((h : Int)).toNat = j14 := by omega
              have pc14 : (0 : Int) ≤ (h : Int) := by omega
              have bc14 : (h : Int) < (n : Int) := by omega
              have rc14 : IntKind.i64.wrap ((h : Int)) = (h : Int) := by rw [IntKind.wrap_i64]; omega
              obtain ⟨x14, hx14⟩ : ∃ x, x = d[q0 - h]! := ⟨_, rfl⟩
              obtain ⟨y14, hy14⟩ : ∃ x, x = d[h]! := ⟨_, rfl⟩
              have la14 := S1.out.cl R.out (by omega) (q0 - h) (by omega)
              have lb14 := S1.out.cl R.out (by omega) (h) (by omega)
              rw [← hx14, ← hi14] at la14
              rw [← hy14, ← hj14] at lb14
              have hc14 := S1.out.cmp HC.out (by omega) x14 y14
              have hv14 : ¬ cf x14 y14 < 0 := by rw [hx14, hy14]; exact of_decide_eq_false hlv
              have hd14 : decide (cf x14 y14 < 0) = false := decide_eq_false hv14
              clear hx14 hy14 hi14 hj14
              go_wp2_with fail
              go_quiet_grown (first | (go_at_fn g; refine Calls.grown_of (hc14 _ _)))
              have w2S : Aside (SW enc w0 blk off d (grow (wr.drewN nq) osq)) := S1.out.grown nq osq
              clear la14 lb14 hc14 S1
              generalize grow (wr.drewN nq) osq = w2 at w2S ⊢
              clear nq osq ea14 ec14 pa14 ba14 ra14 pc14 bc14 rc14
              go_wp2_with fail
              go_roundg f
              case measure => omega
              case rel => exact ⟨h + 1, j, f, by go_num, rfl, by omega, by omega, by omega, by omega, Nat.le_refl _, w2S, HN⟩
          · obtain rfl : j = i := by omega
            have hltz : ¬ (j : Int) < (j : Int) := by omega
            have HB := Lib.hid (HB.out.symm.trans (bis_end _ _ _))
            obtain ⟨e, he⟩ : ∃ e, N - j = e := ⟨_, rfl⟩
            have ee : (N : Int) - (j : Int) = (e : Int) := by omega
            have Hsym : Hid (symA (ltOf cf) (F + 1) a m b d = (if mid < e ∧ e < b then symA (ltOf cf) F mid e b (if a < j ∧ j < mid then symA (ltOf cf) F a j mid (if j < m ∧ m < e then rotA m (m - j + (e - m)) (m - j) (e - m) d else d) else (if j < m ∧ m < e then rotA m (m - j + (e - m)) (m - j) (e - m) d else d)) else (if a < j ∧ j < mid then symA (ltOf cf) F a j mid (if j < m ∧ m < e then rotA m (m - j + (e - m)) (m - j) (e - m) d else d) else (if j < m ∧ m < e then rotA m (m - j + (e - m)) (m - j) (e - m) d else d)))) := Lib.hid (by
              have hs : symS (ltOf cf) d a m b = j := by
                unfold symS
                rw [hmid]
                dsimp only
                rw [if_neg hbr, if_neg hbr]
                rw [show mid + m - 1 = q0 by omega]
                exact HB.out
              rw [symA, if_neg c1, if_neg c2, hs, hmid, ← he, ← hN])
            clear HB
            have SC := S1
            have hsc := hs
            clear S1
            by_cases P : j < m <;> by_cases Q : j < mid <;> by_cases A : a < j <;> by_cases B : e < b
            all_goals (try (exfalso; omega))
            all_goals (
              have p1 : decide (j < m) = decide (j < m) := rfl
              first | have z1 : (j : Int) < (m : Int) := by omega | have z1 : ¬ (j : Int) < (m : Int) := by omega
              first | have z2 : (m : Int) < (e : Int) := by omega | have z2 : ¬ (m : Int) < (e : Int) := by omega
              first | have z3 : (a : Int) < (j : Int) := by omega | have z3 : ¬ (a : Int) < (j : Int) := by omega
              first | have z4 : (j : Int) < (mid : Int) := by omega | have z4 : ¬ (j : Int) < (mid : Int) := by omega
              first | have z5 : (mid : Int) < (e : Int) := by omega | have z5 : ¬ (mid : Int) < (e : Int) := by omega
              first | have z6 : (e : Int) < (b : Int) := by omega | have z6 : ¬ (e : Int) < (b : Int) := by omega
              clear p1
              go_wp2_with (first | (go_at_call 207; refine (srt_rot R.out h0 hn _ _ hsc SC.out _ _ _ (by omega) (by omega) (by omega) _).mono ?_; rintro e9 w9 ⟨rfl, hS9, hz9⟩; replace hsc := hz9; replace SC : Aside _ := hS9; clear hS9) | (go_at_call 190; refine (IH.out _ _ _ _ _ (by omega) (by omega) (by omega) (by omega) hsc SC.out).mono ?_; rintro e9 w9 ⟨rfl, hS9, hz9⟩; replace hsc := hz9; replace SC : Aside _ := hS9; clear hS9))
              go_end0
              exact ⟨rfl, by
                have h9 := SC.out
                rw [Hsym.out]
                repeat' split
                all_goals first | exact h9 | (exfalso; omega), by rw [size_symA]; exact hs⟩)
end
end Go.Proofs.YtjmkdimbbacnfaaGreatDoor
