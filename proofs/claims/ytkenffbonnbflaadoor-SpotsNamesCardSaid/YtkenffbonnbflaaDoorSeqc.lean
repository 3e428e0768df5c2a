/- Walks: guiseref1.second, guiseref1.Sequence: the model's own decode. -/
import Derived.Test.YtkenffbonnbflaaDoorProg
import Derived.Test.YtkenffbonnbflaaDoorPla
import Derived.Test.YtkenffbonnbflaaDoorSeq
import Derived.WalkKit
import Derived.LoopTactic
import Derived.WalkLawsBesides
import Derived.Outline
import Derived.Shelf.Unicode.DecodeSlow
import Derived.Lib.Hide
namespace Go.Proofs.YtkenffbonnbflaaDoor
open Go.RowKit

set_option maxRecDepth 100000 in
set_option maxHeartbeats 2000000 in
theorem seq_F1 (s : ByteArray) (w : World) (h0 : 0 < s.size) (hm : s.size ≤ 9223372036854775807) (hc : 241 ≤ (s[0].toNat : Int) ∧ (s[0].toNat : Int) ≤ 243) :
    Calls Tryd.prog 80 #[.string s] w fun e w' => e = .returned (.tuple #[.int .i64 ((seqC s 4 8 128 191).1 : Int), .int .i32 ((seqC s 4 8 128 191).2 : Int)]) ∧ w = w' := by
  obtain ⟨hc1, hc2⟩ := hc
  have hz : ((s.size : Int) == 0) = false := by rw [beq_eq_false_iff_ne]; omega
  have hlo : secLo (s[0].toNat : Int) = 128 := by unfold secLo; repeat' split; all_goals omega
  have hhi : secHi (s[0].toNat : Int) = 191 := by unfold secHi; repeat' split; all_goals omega
  have hb := s[0].toNat_lt
  have hsec : ∀ w : World, Calls Tryd.prog 99 #[.int .u8 (s[0].toNat : Int)] w fun e w' => e = .returned (.tuple #[.int .u8 128, .int .u8 191]) ∧ w = w' := fun w => by
    have h := second_any (s[0].toNat : Int) w (by omega) (by omega)
    rw [hlo, hhi] at h
    exact h
  clear hlo hhi
  have Hsec := Lib.hid hsec
  clear hsec
  have t1 : decide ((s[0].toNat : Int) < 128) = false := by rw [decide_eq_false_iff_not]; omega
  have t2 : decide ((224 : Int) ≤ (s[0].toNat : Int)) = true := by rw [decide_eq_true_eq]; omega
  have t3 : decide ((240 : Int) ≤ (s[0].toNat : Int)) = true := by rw [decide_eq_true_eq]; omega
  by_cases h1 : s.size < 2
  · have h1' : ¬ 1 < s.size := by omega
    go_enter Tryd.func80, Tryd.ntmps80
    go_wp2_with (go_at_call 99; refine (Hsec.out _).mono ?_; rintro e w' ⟨rfl, rfl⟩)
    all_goals go_ret2
    all_goals refine ⟨seq_fin0 (seqC_no ?_), rfl⟩
    all_goals rintro ⟨a, b, c⟩; omega
  · have h1' : 1 < s.size := by omega
    go_enter Tryd.func80, Tryd.ntmps80
    go_wp2_with (go_at_call 99; refine (Hsec.out _).mono ?_; rintro e w' ⟨rfl, rfl⟩)
    · go_ret2
      refine ⟨seq_fin0 (seqC_no ?_), rfl⟩
      rintro ⟨a, b, c⟩
      rw [getL s 1 a] at b c
      omega
    · have h1 : 1 < s.size := by omega
      have hyes : 1 < s.size ∧ 128 ≤ (s.get! 1).toNat ∧ (s.get! 1).toNat ≤ 191 := by rw [getL s 1 h1]; omega
      have HR := Lib.hid (seqC_yes (N := 4) (m := 8) hyes)
      clear hyes
      go_loop [8, 9] (fun r i => ∃ (k R f : Nat), k + f = 4 ∧ 1 ≤ k ∧ (k ≤ 1 → R < 32) ∧ (k ≤ 2 → R < 2048) ∧ (k ≤ 3 → R < 131072) ∧ R < 8388608 ∧ i = .int .i64 k ∧ r = .int .i32 R ∧ seqGo s 4 f k R = seqC s 4 8 128 191) (fun _ i => 4 - (intOf i).toNat)
      case atStart =>
        refine ⟨1, (s.get! 0).toNat % 8, 4 - 1, by omega, by omega, by omega, by omega, by omega, by omega, rfl, ?_, HR.out⟩
        rw [getL s 0 h0]; rfl
      case round =>
        obtain ⟨k, R, f, hkf, hk1, b1, b2, b3, b4, rfl, rfl, hgo⟩ := hrel
        have Hgo := Lib.hid hgo
        have Hkf := Lib.hid hkf
        have hkn : k ≤ 4 := by omega
        clear hgo hkf
        go_wp2
        all_goals first
          | (go_ret2; refine ⟨seq_fin ?_, rfl⟩; obtain rfl : f = 0 := (by have := Hkf.out; omega); exact Hgo.out)
          | (go_ret2; refine ⟨seq_fin0 ?_, rfl⟩; obtain ⟨f, rfl⟩ : ∃ f', f = f' + 1 := ⟨f - 1, by have := Hkf.out; omega⟩; rw [← Hgo.out, seqGo_no]; rintro ⟨a, b, c⟩; rw [getL s k a] at b c; omega)
          | skip
        obtain ⟨f, rfl⟩ : ∃ f', f = f' + 1 := ⟨f - 1, by have := Hkf.out; omega⟩
        have hks : k < s.size := by omega
        have hsb := s[k].toNat_lt
        go_round
        case rel =>
          refine ⟨k + 1, R * 64 + (s[k].toNat) % 64, f, by have := Hkf.out; omega, by omega, by omega, by omega, by omega, by omega, by go_num, by go_num, ?_⟩
          rw [← Hgo.out, seqGo_yes (by rw [getL s k hks]; omega), getL s k hks]
        case measure => simp [intOf]; omega
    · go_ret2
      refine ⟨seq_fin0 (seqC_no ?_), rfl⟩
      rintro ⟨a, b, c⟩
      rw [getL s 1 a] at b c
      omega

set_option maxRecDepth 100000 in
set_option maxHeartbeats 2000000 in
theorem seq_F4 (s : ByteArray) (w : World) (h0 : 0 < s.size) (hm : s.size ≤ 9223372036854775807) (hc : 244 ≤ (s[0].toNat : Int) ∧ (s[0].toNat : Int) ≤ 244) :
    Calls Tryd.prog 80 #[.string s] w fun e w' => e = .returned (.tuple #[.int .i64 ((seqC s 4 8 128 143).1 : Int), .int .i32 ((seqC s 4 8 128 143).2 : Int)]) ∧ w = w' := by
  obtain ⟨hc1, hc2⟩ := hc
  have hz : ((s.size : Int) == 0) = false := by rw [beq_eq_false_iff_ne]; omega
  have hlo : secLo (s[0].toNat : Int) = 128 := by unfold secLo; repeat' split; all_goals omega
  have hhi : secHi (s[0].toNat : Int) = 143 := by unfold secHi; repeat' split; all_goals omega
  have hb := s[0].toNat_lt
  have hsec : ∀ w : World, Calls Tryd.prog 99 #[.int .u8 (s[0].toNat : Int)] w fun e w' => e = .returned (.tuple #[.int .u8 128, .int .u8 143]) ∧ w = w' := fun w => by
    have h := second_any (s[0].toNat : Int) w (by omega) (by omega)
    rw [hlo, hhi] at h
    exact h
  clear hlo hhi
  have Hsec := Lib.hid hsec
  clear hsec
  have t1 : decide ((s[0].toNat : Int) < 128) = false := by rw [decide_eq_false_iff_not]; omega
  have t2 : decide ((224 : Int) ≤ (s[0].toNat : Int)) = true := by rw [decide_eq_true_eq]; omega
  have t3 : decide ((240 : Int) ≤ (s[0].toNat : Int)) = true := by rw [decide_eq_true_eq]; omega
  by_cases h1 : s.size < 2
  · have h1' : ¬ 1 < s.size := by omega
    go_enter Tryd.func80, Tryd.ntmps80
    go_wp2_with (go_at_call 99; refine (Hsec.out _).mono ?_; rintro e w' ⟨rfl, rfl⟩)
    all_goals go_ret2
    all_goals refine ⟨seq_fin0 (seqC_no ?_), rfl⟩
    all_goals rintro ⟨a, b, c⟩; omega
  · have h1' : 1 < s.size := by omega
    go_enter Tryd.func80, Tryd.ntmps80
    go_wp2_with (go_at_call 99; refine (Hsec.out _).mono ?_; rintro e w' ⟨rfl, rfl⟩)
    · go_ret2
      refine ⟨seq_fin0 (seqC_no ?_), rfl⟩
      rintro ⟨a, b, c⟩
      rw [getL s 1 a] at b c
      omega
    · have h1 : 1 < s.size := by omega
      have hyes : 1 < s.size ∧ 128 ≤ (s.get! 1).toNat ∧ (s.get! 1).toNat ≤ 143 := by rw [getL s 1 h1]; omega
      have HR := Lib.hid (seqC_yes (N := 4) (m := 8) hyes)
      clear hyes
      go_loop [8, 9] (fun r i => ∃ (k R f : Nat), k + f = 4 ∧ 1 ≤ k ∧ (k ≤ 1 → R < 32) ∧ (k ≤ 2 → R < 2048) ∧ (k ≤ 3 → R < 131072) ∧ R < 8388608 ∧ i = .int .i64 k ∧ r = .int .i32 R ∧ seqGo s 4 f k R = seqC s 4 8 128 143) (fun _ i => 4 - (intOf i).toNat)
      case atStart =>
        refine ⟨1, (s.get! 0).toNat % 8, 4 - 1, by omega, by omega, by omega, by omega, by omega, by omega, rfl, ?_, HR.out⟩
        rw [getL s 0 h0]; rfl
      case round =>
        obtain ⟨k, R, f, hkf, hk1, b1, b2, b3, b4, rfl, rfl, hgo⟩ := hrel
        have Hgo := Lib.hid hgo
        have Hkf := Lib.hid hkf
        have hkn : k ≤ 4 := by omega
        clear hgo hkf
        go_wp2
        all_goals first
          | (go_ret2; refine ⟨seq_fin ?_, rfl⟩; obtain rfl : f = 0 := (by have := Hkf.out; omega); exact Hgo.out)
          | (go_ret2; refine ⟨seq_fin0 ?_, rfl⟩; obtain ⟨f, rfl⟩ : ∃ f', f = f' + 1 := ⟨f - 1, by have := Hkf.out; omega⟩; rw [← Hgo.out, seqGo_no]; rintro ⟨a, b, c⟩; rw [getL s k a] at b c; omega)
          | skip
        obtain ⟨f, rfl⟩ : ∃ f', f = f' + 1 := ⟨f - 1, by have := Hkf.out; omega⟩
        have hks : k < s.size := by omega
        have hsb := s[k].toNat_lt
        go_round
        case rel =>
          refine ⟨k + 1, R * 64 + (s[k].toNat) % 64, f, by have := Hkf.out; omega, by omega, by omega, by omega, by omega, by omega, by go_num, by go_num, ?_⟩
          rw [← Hgo.out, seqGo_yes (by rw [getL s k hks]; omega), getL s k hks]
        case measure => simp [intOf]; omega
    · go_ret2
      refine ⟨seq_fin0 (seqC_no ?_), rfl⟩
      rintro ⟨a, b, c⟩
      rw [getL s 1 a] at b c
      omega

set_option maxRecDepth 100000 in
/-- no second byte may follow: no sequence -/
theorem seq_none (s : ByteArray) (w : World) (h0 : 0 < s.size) (hm : s.size ≤ 9223372036854775807) (hc : 128 ≤ (s[0].toNat : Int)) (hc2 : (s[0].toNat : Int) ≤ 193 ∨ 245 ≤ (s[0].toNat : Int)) :
    Calls Tryd.prog 80 #[.string s] w fun e w' => e = .returned (.tuple #[.int .i64 0, .int .i32 0]) ∧ w = w' := by
  have hz : ((s.size : Int) == 0) = false := by rw [beq_eq_false_iff_ne]; omega
  have hlo : secLo (s[0].toNat : Int) = 0 := by unfold secLo; repeat' split; all_goals omega
  have hb := s[0].toNat_lt
  have hsec : ∀ w : World, Calls Tryd.prog 99 #[.int .u8 (s[0].toNat : Int)] w fun e w' => e = .returned (.tuple #[.int .u8 0, .int .u8 (secHi (s[0].toNat : Int))]) ∧ w = w' := fun w => by
    have h := second_any (s[0].toNat : Int) w (by omega) (by omega)
    rw [hlo] at h
    exact h
  clear hlo
  have Hsec := Lib.hid hsec
  clear hsec
  go_enter Tryd.func80, Tryd.ntmps80
  go_wp2_with (go_at_call 99; refine (Hsec.out _).mono ?_; rintro e w' ⟨rfl, rfl⟩)
  all_goals go_ret2
  all_goals exact ⟨rfl, rfl⟩
set_option maxRecDepth 100000 in
theorem seq_ascii (s : ByteArray) (w : World) (h0 : 0 < s.size) (hm : s.size ≤ 9223372036854775807) (hc : (s[0].toNat : Int) ≤ 127) :
    Calls Tryd.prog 80 #[.string s] w fun e w' => e = .returned (.tuple #[.int .i64 1, .int .i32 (s[0].toNat : Int)]) ∧ w = w' := by
  have hz : ((s.size : Int) == 0) = false := by rw [beq_eq_false_iff_ne]; omega
  go_enter Tryd.func80, Tryd.ntmps80
  go_wp2
  all_goals go_ret2
  all_goals exact ⟨rfl, rfl⟩
set_option maxRecDepth 100000 in
theorem seq_empty (w : World) :
    Calls Tryd.prog 80 #[.string ByteArray.empty] w fun e w' => e = .returned (.tuple #[.int .i64 0, .int .i32 0]) ∧ w = w' := by
  go_enter Tryd.func80, Tryd.ntmps80
  go_wp2
  all_goals go_ret2
  all_goals exact ⟨rfl, rfl⟩

end Go.Proofs.YtkenffbonnbflaaDoor
