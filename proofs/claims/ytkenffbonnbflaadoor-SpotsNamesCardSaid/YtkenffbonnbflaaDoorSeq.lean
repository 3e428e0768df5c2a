/- Walks: guiseref1.second, guiseref1.Sequence: the model's own decode. -/
import Derived.Test.YtkenffbonnbflaaDoorProg
import Derived.Test.YtkenffbonnbflaaDoorPla
import Derived.WalkKit
import Derived.LoopTactic
import Derived.WalkLawsBesides
import Derived.Outline
import Derived.Shelf.Unicode.DecodeSlow
import Derived.Lib.Hide
namespace Go.Proofs.YtkenffbonnbflaaDoor
open Go.RowKit

def secLo (c : Int) : Int := if (194 ≤ c ∧ c ≤ 223) ∨ (225 ≤ c ∧ c ≤ 236) ∨ c = 238 ∨ c = 239 ∨ (241 ≤ c ∧ c ≤ 243) then 128 else if c = 224 then 160 else if c = 237 then 128 else if c = 240 then 144 else if c = 244 then 128 else 0
def secHi (c : Int) : Int := if (194 ≤ c ∧ c ≤ 223) ∨ (225 ≤ c ∧ c ≤ 236) ∨ c = 238 ∨ c = 239 ∨ (241 ≤ c ∧ c ≤ 243) then 191 else if c = 224 then 191 else if c = 237 then 159 else if c = 240 then 191 else if c = 244 then 143 else 0

theorem sec_fin {c a b : Int} (h1 : a = secLo c) (h2 : b = secHi c) : Ending.returned (.tuple #[.int .u8 a, .int .u8 b]) = .returned (.tuple #[.int .u8 (secLo c), .int .u8 (secHi c)]) := by
  rw [h1, h2]

set_option maxHeartbeats 1000000 in
theorem second_any (c : Int) (w : World) (h0 : 0 ≤ c) (h1 : c ≤ 255) :
    Calls Tryd.prog 99 #[.int .u8 c] w fun e w' => e = .returned (.tuple #[.int .u8 (secLo c), .int .u8 (secHi c)]) ∧ w = w' := by
  go_enter Tryd.func99, Tryd.ntmps99
  go_wp2
  all_goals go_ret2
  all_goals (refine ⟨sec_fin ?_ ?_, rfl⟩)
  all_goals (try simp only [beq_iff_eq, beq_eq_false_iff_ne] at *)
  all_goals (try unfold secLo)
  all_goals (try unfold secHi)
  all_goals (repeat' split)
  all_goals first | rfl | omega

/-- what is left of the loop over a sequence's further bytes -/
def seqGo (s : ByteArray) (N : Nat) : Nat → Nat → Nat → Nat × Nat
  | 0, _, R => (N, R)
  | f + 1, k, R => if k < s.size ∧ 128 ≤ (s.get! k).toNat ∧ (s.get! k).toNat ≤ 191 then seqGo s N f (k + 1) (R * 64 + (s.get! k).toNat % 64) else (0, 0)
/-- Sequence, by the class of the first byte -/
def seqC (s : ByteArray) (N m lo hi : Nat) : Nat × Nat :=
  if 1 < s.size ∧ lo ≤ (s.get! 1).toNat ∧ (s.get! 1).toNat ≤ hi then seqGo s N (N - 1) 1 ((s.get! 0).toNat % m) else (0, 0)
/-- how many bytes, and the rune: 0, 0: no sequence -/
def seqD (s : ByteArray) : Nat × Nat := if s.size = 0 ∨ isBad (Utf8.decode s 0) = true then (0, 0) else ((Utf8.decode s 0).2, (Utf8.decode s 0).1)

theorem seq_fin {a b : Nat} {x : Nat × Nat} (h : (a, b) = x) : Ending.returned (.tuple #[.int .i64 (a : Int), .int .i32 (b : Int)]) = .returned (.tuple #[.int .i64 (x.1 : Int), .int .i32 (x.2 : Int)]) := by
  rw [← h]
theorem seq_fin0 {x : Nat × Nat} (h : (0, 0) = x) : Ending.returned (.tuple #[.int .i64 0, .int .i32 0]) = .returned (.tuple #[.int .i64 (x.1 : Int), .int .i32 (x.2 : Int)]) := by
  rw [← h]; rfl
theorem getL (s : ByteArray) (k : Nat) (h : k < s.size) : s.get! k = s[k] := get_at s k h
theorem seqC_no {s : ByteArray} {N m lo hi : Nat} (h : ¬ (1 < s.size ∧ lo ≤ (s.get! 1).toNat ∧ (s.get! 1).toNat ≤ hi)) : (0, 0) = seqC s N m lo hi := by
  unfold seqC; rw [if_neg h]
theorem seqC_yes {s : ByteArray} {N m lo hi : Nat} (h : 1 < s.size ∧ lo ≤ (s.get! 1).toNat ∧ (s.get! 1).toNat ≤ hi) : seqGo s N (N - 1) 1 ((s.get! 0).toNat % m) = seqC s N m lo hi := by
  unfold seqC; rw [if_pos h]
theorem seqGo_no {s : ByteArray} {N f k R : Nat} (h : ¬ (k < s.size ∧ 128 ≤ (s.get! k).toNat ∧ (s.get! k).toNat ≤ 191)) : seqGo s N (f + 1) k R = (0, 0) := by
  show (if _ then _ else _) = _; rw [if_neg h]
theorem seqGo_yes {s : ByteArray} {N f k R : Nat} (h : k < s.size ∧ 128 ≤ (s.get! k).toNat ∧ (s.get! k).toNat ≤ 191) : seqGo s N (f + 1) k R = seqGo s N f (k + 1) (R * 64 + (s.get! k).toNat % 64) := by
  show (if _ then _ else _) = _; rw [if_pos h]

set_option maxRecDepth 100000 in
set_option maxHeartbeats 2000000 in
theorem seq_C2 (s : ByteArray) (w : World) (h0 : 0 < s.size) (hm : s.size ≤ 9223372036854775807) (hc : 194 ≤ (s[0].toNat : Int) ∧ (s[0].toNat : Int) ≤ 223) :
    Calls Tryd.prog 80 #[.string s] w fun e w' => e = .returned (.tuple #[.int .i64 ((seqC s 2 32 128 191).1 : Int), .int .i32 ((seqC s 2 32 128 191).2 : Int)]) ∧ w = w' := by
  obtain ⟨hc1, hc2⟩ := hc
  have hz : ((s.size : Int) == 0) = false := by rw [beq_eq_false_iff_ne]; omega
  have hlo : secLo (s[0].toNat : Int) = 128 := by unfold secLo; repeat' split; all_goals omega
  have hhi : secHi (s[0].toNat : Int) = 191 := by unfold secHi; repeat' split; all_goals omega
  have hb := s[0].toNat_lt
  have hsec : ∀ w : World, Calls Tryd.prog 99 #[.int .u8 (s[0].toNat : Int)] w fun e w' => e = .returned (.tuple #[.int .u8 128, .int .u8 191]) ∧ w = w' := fun w => by
    have h := second_any (s[0].toNat : Int) w (by omega) (by omega)
    rw [hlo, hhi] at h
    exact h
  clear hlo hhi
  have Hsec := Lib.hid hsec
  clear hsec
  have t1 : decide ((s[0].toNat : Int) < 128) = false := by rw [decide_eq_false_iff_not]; omega
  have t2 : decide ((224 : Int) ≤ (s[0].toNat : Int)) = false := by rw [decide_eq_false_iff_not]; omega
  have t3 : decide ((240 : Int) ≤ (s[0].toNat : Int)) = false := by rw [decide_eq_false_iff_not]; omega
  by_cases h1 : s.size < 2
  · have h1' : ¬ 1 < s.size := by omega
    go_enter Tryd.func80, Tryd.ntmps80
    go_wp2_with (go_at_call 99; refine (Hsec.out _).mono ?_; rintro e w' ⟨rfl, rfl⟩)
    all_goals go_ret2
    all_goals refine ⟨seq_fin0 (seqC_no ?_), rfl⟩
    all_goals rintro ⟨a, b, c⟩; omega
  · have h1' : 1 < s.size := by omega
    go_enter Tryd.func80, Tryd.ntmps80
    go_wp2_with (go_at_call 99; refine (Hsec.out _).mono ?_; rintro e w' ⟨rfl, rfl⟩)
    · go_ret2
      refine ⟨seq_fin0 (seqC_no ?_), rfl⟩
      rintro ⟨a, b, c⟩
      rw [getL s 1 a] at b c
      omega
    · have h1 : 1 < s.size := by omega
      have hyes : 1 < s.size ∧ 128 ≤ (s.get! 1).toNat ∧ (s.get! 1).toNat ≤ 191 := by rw [getL s 1 h1]; omega
      have HR := Lib.hid (seqC_yes (N := 2) (m := 32) hyes)
      clear hyes
      go_loop [8, 9] (fun r i => ∃ (k R f : Nat), k + f = 2 ∧ 1 ≤ k ∧ (k ≤ 1 → R < 32) ∧ (k ≤ 2 → R < 2048) ∧ (k ≤ 3 → R < 131072) ∧ R < 8388608 ∧ i = .int .i64 k ∧ r = .int .i32 R ∧ seqGo s 2 f k R = seqC s 2 32 128 191) (fun _ i => 2 - (intOf i).toNat)
      case atStart =>
        refine ⟨1, (s.get! 0).toNat % 32, 2 - 1, by omega, by omega, by omega, by omega, by omega, by omega, rfl, ?_, HR.out⟩
        rw [getL s 0 h0]; rfl
      case round =>
        obtain ⟨k, R, f, hkf, hk1, b1, b2, b3, b4, rfl, rfl, hgo⟩ := hrel
        have Hgo := Lib.hid hgo
        have Hkf := Lib.hid hkf
        have hkn : k ≤ 2 := by omega
        clear hgo hkf
        go_wp2
        all_goals first
          | (go_ret2; refine ⟨seq_fin ?_, rfl⟩; obtain rfl : f = 0 := (by have := Hkf.out; omega); exact Hgo.out)
          | (go_ret2; refine ⟨seq_fin0 ?_, rfl⟩; obtain ⟨f, rfl⟩ : ∃ f', f = f' + 1 := ⟨f - 1, by have := Hkf.out; omega⟩; rw [← Hgo.out, seqGo_no]; rintro ⟨a, b, c⟩; rw [getL s k a] at b c; omega)
          | skip
        obtain ⟨f, rfl⟩ : ∃ f', f = f' + 1 := ⟨f - 1, by have := Hkf.out; omega⟩
        have hks : k < s.size := by omega
        have hsb := s[k].toNat_lt
        go_round
        case rel =>
          refine ⟨k + 1, R * 64 + (s[k].toNat) % 64, f, by have := Hkf.out; omega, by omega, by omega, by omega, by omega, by omega, by go_num, by go_num, ?_⟩
          rw [← Hgo.out, seqGo_yes (by rw [getL s k hks]; omega), getL s k hks]
        case measure => simp [intOf]; omega
    · go_ret2
      refine ⟨seq_fin0 (seqC_no ?_), rfl⟩
      rintro ⟨a, b, c⟩
      rw [getL s 1 a] at b c
      omega

set_option maxRecDepth 100000 in
set_option maxHeartbeats 2000000 in
theorem seq_E0 (s : ByteArray) (w : World) (h0 : 0 < s.size) (hm : s.size ≤ 9223372036854775807) (hc : 224 ≤ (s[0].toNat : Int) ∧ (s[0].toNat : Int) ≤ 224) :
    Calls Tryd.prog 80 #[.string s] w fun e w' => e = .returned (.tuple #[.int .i64 ((seqC s 3 16 160 191).1 : Int), .int .i32 ((seqC s 3 16 160 191).2 : Int)]) ∧ w = w' := by
  obtain ⟨hc1, hc2⟩ := hc
  have hz : ((s.size : Int) == 0) = false := by rw [beq_eq_false_iff_ne]; omega
  have hlo : secLo (s[0].toNat : Int) = 160 := by unfold secLo; repeat' split; all_goals omega
  have hhi : secHi (s[0].toNat : Int) = 191 := by unfold secHi; repeat' split; all_goals omega
  have hb := s[0].toNat_lt
  have hsec : ∀ w : World, Calls Tryd.prog 99 #[.int .u8 (s[0].toNat : Int)] w fun e w' => e = .returned (.tuple #[.int .u8 160, .int .u8 191]) ∧ w = w' := fun w => by
    have h := second_any (s[0].toNat : Int) w (by omega) (by omega)
    rw [hlo, hhi] at h
    exact h
  clear hlo hhi
  have Hsec := Lib.hid hsec
  clear hsec
  have t1 : decide ((s[0].toNat : Int) < 128) = false := by rw [decide_eq_false_iff_not]; omega
  have t2 : decide ((224 : Int) ≤ (s[0].toNat : Int)) = true := by rw [decide_eq_true_eq]; omega
  have t3 : decide ((240 : Int) ≤ (s[0].toNat : Int)) = false := by rw [decide_eq_false_iff_not]; omega
  by_cases h1 : s.size < 2
  · have h1' : ¬ 1 < s.size := by omega
    go_enter Tryd.func80, Tryd.ntmps80
    go_wp2_with (go_at_call 99; refine (Hsec.out _).mono ?_; rintro e w' ⟨rfl, rfl⟩)
    all_goals go_ret2
    all_goals refine ⟨seq_fin0 (seqC_no ?_), rfl⟩
    all_goals rintro ⟨a, b, c⟩; omega
  · have h1' : 1 < s.size := by omega
    go_enter Tryd.func80, Tryd.ntmps80
    go_wp2_with (go_at_call 99; refine (Hsec.out _).mono ?_; rintro e w' ⟨rfl, rfl⟩)
    · go_ret2
      refine ⟨seq_fin0 (seqC_no ?_), rfl⟩
      rintro ⟨a, b, c⟩
      rw [getL s 1 a] at b c
      omega
    · have h1 : 1 < s.size := by omega
      have hyes : 1 < s.size ∧ 160 ≤ (s.get! 1).toNat ∧ (s.get! 1).toNat ≤ 191 := by rw [getL s 1 h1]; omega
      have HR := Lib.hid (seqC_yes (N := 3) (m := 16) hyes)
      clear hyes
      go_loop [8, 9] (fun r i => ∃ (k R f : Nat), k + f = 3 ∧ 1 ≤ k ∧ (k ≤ 1 → R < 32) ∧ (k ≤ 2 → R < 2048) ∧ (k ≤ 3 → R < 131072) ∧ R < 8388608 ∧ i = .int .i64 k ∧ r = .int .i32 R ∧ seqGo s 3 f k R = seqC s 3 16 160 191) (fun _ i => 3 - (intOf i).toNat)
      case atStart =>
        refine ⟨1, (s.get! 0).toNat % 16, 3 - 1, by omega, by omega, by omega, by omega, by omega, by omega, rfl, ?_, HR.out⟩
        rw [getL s 0 h0]; rfl
      case round =>
        obtain ⟨k, R, f, hkf, hk1, b1, b2, b3, b4, rfl, rfl, hgo⟩ := hrel
        have Hgo := Lib.hid hgo
        have Hkf := Lib.hid hkf
        have hkn : k ≤ 3 := by omega
        clear hgo hkf
        go_wp2
        all_goals first
          | (go_ret2; refine ⟨seq_fin ?_, rfl⟩; obtain rfl : f = 0 := (by have := Hkf.out; omega); exact Hgo.out)
          | (go_ret2; refine ⟨seq_fin0 ?_, rfl⟩; obtain ⟨f, rfl⟩ : ∃ f', f = f' + 1 := ⟨f - 1, by have := Hkf.out; omega⟩; rw [← Hgo.out, seqGo_no]; rintro ⟨a, b, c⟩; rw [getL s k a] at b c; omega)
          | skip
        obtain ⟨f, rfl⟩ : ∃ f', f = f' + 1 := ⟨f - 1, by have := Hkf.out; omega⟩
        have hks : k < s.size := by omega
        have hsb := s[k].toNat_lt
        go_round
        case rel =>
          refine ⟨k + 1, R * 64 + (s[k].toNat) % 64, f, by have := Hkf.out; omega, by omega, by omega, by omega, by omega, by omega, by go_num, by go_num, ?_⟩
          rw [← Hgo.out, seqGo_yes (by rw [getL s k hks]; omega), getL s k hks]
        case measure => simp [intOf]; omega
    · go_ret2
      refine ⟨seq_fin0 (seqC_no ?_), rfl⟩
      rintro ⟨a, b, c⟩
      rw [getL s 1 a] at b c
      omega

set_option maxRecDepth 100000 in
set_option maxHeartbeats 2000000 in
theorem seq_E1 (s : ByteArray) (w : World) (h0 : 0 < s.size) (hm : s.size ≤ 9223372036854775807) (hc : 225 ≤ (s[0].toNat : Int) ∧ (s[0].toNat : Int) ≤ 236) :
    Calls Tryd.prog 80 #[.string s] w fun e w' => e = .returned (.tuple #[.int .i64 ((seqC s 3 16 128 191).1 : Int), .int .i32 ((seqC s 3 16 128 191).2 : Int)]) ∧ w = w' := by
  obtain ⟨hc1, hc2⟩ := hc
  have hz : ((s.size : Int) == 0) = false := by rw [beq_eq_false_iff_ne]; omega
  have hlo : secLo (s[0].toNat : Int) = 128 := by unfold secLo; repeat' split; all_goals omega
  have hhi : secHi (s[0].toNat : Int) = 191 := by unfold secHi; repeat' split; all_goals omega
  have hb := s[0].toNat_lt
  have hsec : ∀ w : World, Calls Tryd.prog 99 #[.int .u8 (s[0].toNat : Int)] w fun e w' => e = .returned (.tuple #[.int .u8 128, .int .u8 191]) ∧ w = w' := fun w => by
    have h := second_any (s[0].toNat : Int) w (by omega) (by omega)
    rw [hlo, hhi] at h
    exact h
  clear hlo hhi
  have Hsec := Lib.hid hsec
  clear hsec
  have t1 : decide ((s[0].toNat : Int) < 128) = false := by rw [decide_eq_false_iff_not]; omega
  have t2 : decide ((224 : Int) ≤ (s[0].toNat : Int)) = true := by rw [decide_eq_true_eq]; omega
  have t3 : decide ((240 : Int) ≤ (s[0].toNat : Int)) = false := by rw [decide_eq_false_iff_not]; omega
  by_cases h1 : s.size < 2
  · have h1' : ¬ 1 < s.size := by omega
    go_enter Tryd.func80, Tryd.ntmps80
    go_wp2_with (go_at_call 99; refine (Hsec.out _).mono ?_; rintro e w' ⟨rfl, rfl⟩)
    all_goals go_ret2
    all_goals refine ⟨seq_fin0 (seqC_no ?_), rfl⟩
    all_goals rintro ⟨a, b, c⟩; omega
  · have h1' : 1 < s.size := by omega
    go_enter Tryd.func80, Tryd.ntmps80
    go_wp2_with (go_at_call 99; refine (Hsec.out _).mono ?_; rintro e w' ⟨rfl, rfl⟩)
    · go_ret2
      refine ⟨seq_fin0 (seqC_no ?_), rfl⟩
      rintro ⟨a, b, c⟩
      rw [getL s 1 a] at b c
      omega
    · have h1 : 1 < s.size := by omega
      have hyes : 1 < s.size ∧ 128 ≤ (s.get! 1).toNat ∧ (s.get! 1).toNat ≤ 191 := by rw [getL s 1 h1]; omega
      have HR := Lib.hid (seqC_yes (N := 3) (m := 16) hyes)
      clear hyes
      go_loop [8, 9] (fun r i => ∃ (k R f : Nat), k + f = 3 ∧ 1 ≤ k ∧ (k ≤ 1 → R < 32) ∧ (k ≤ 2 → R < 2048) ∧ (k ≤ 3 → R < 131072) ∧ R < 8388608 ∧ i = .int .i64 k ∧ r = .int .i32 R ∧ seqGo s 3 f k R = seqC s 3 16 128 191) (fun _ i => 3 - (intOf i).toNat)
      case atStart =>
        refine ⟨1, (s.get! 0).toNat % 16, 3 - 1, by omega, by omega, by omega, by omega, by omega, by omega, rfl, ?_, HR.out⟩
        rw [getL s 0 h0]; rfl
      case round =>
        obtain ⟨k, R, f, hkf, hk1, b1, b2, b3, b4, rfl, rfl, hgo⟩ := hrel
        have Hgo := Lib.hid hgo
        have Hkf := Lib.hid hkf
        have hkn : k ≤ 3 := by omega
        clear hgo hkf
        go_wp2
        all_goals first
          | (go_ret2; refine ⟨seq_fin ?_, rfl⟩; obtain rfl : f = 0 := (by have := Hkf.out; omega); exact Hgo.out)
          | (go_ret2; refine ⟨seq_fin0 ?_, rfl⟩; obtain ⟨f, rfl⟩ : ∃ f', f = f' + 1 := ⟨f - 1, by have := Hkf.out; omega⟩; rw [← Hgo.out, seqGo_no]; rintro ⟨a, b, c⟩; rw [getL s k a] at b c; omega)
          | skip
        obtain ⟨f, rfl⟩ : ∃ f', f = f' + 1 := ⟨f - 1, by have := Hkf.out; omega⟩
        have hks : k < s.size := by omega
        have hsb := s[k].toNat_lt
        go_round
        case rel =>
          refine ⟨k + 1, R * 64 + (s[k].toNat) % 64, f, by have := Hkf.out; omega, by omega, by omega, by omega, by omega, by omega, by go_num, by go_num, ?_⟩
          rw [← Hgo.out, seqGo_yes (by rw [getL s k hks]; omega), getL s k hks]
        case measure => simp [intOf]; omega
    · go_ret2
      refine ⟨seq_fin0 (seqC_no ?_), rfl⟩
      rintro ⟨a, b, c⟩
      rw [getL s 1 a] at b c
      omega


end Go.Proofs.YtkenffbonnbflaaDoor
