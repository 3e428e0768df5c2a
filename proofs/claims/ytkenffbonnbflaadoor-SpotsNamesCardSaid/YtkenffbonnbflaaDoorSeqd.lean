/- guiseref1.Sequence at every text: the model's own decode. -/
import Derived.Test.YtkenffbonnbflaaDoorSeqb
import Derived.Test.YtkenffbonnbflaaDoorSeqc
namespace Go.Proofs.YtkenffbonnbflaaDoor
open Go.RowKit

/-- what Sequence tells of a decoder's answer -/
def conv (d : Nat × Nat) : Nat × Nat := if isBad d = true then (0, 0) else (d.2, d.1)
theorem conv_bad : conv (65533, 1) = (0, 0) := rfl
theorem conv_ok (r n : Nat) (h : 2 ≤ n) : conv (r, n) = (n, r) := by
  unfold conv isBad
  rw [if_neg]
  simp
  omega

set_option maxHeartbeats 2000000 in
theorem seqC_slow (s : ByteArray) (N m lo hi : Nat) (hN : (N = 2 ∧ m = 32) ∨ (N = 3 ∧ m = 16) ∨ (N = 4 ∧ m = 8)) (hlo : 128 ≤ lo) (hhi : hi ≤ 191) :
    seqC s N m lo hi = conv (Lib.slowN s.size (s.get! 0).toNat (s.get! 1).toNat (s.get! 2).toNat (s.get! 3).toNat N lo hi) := by
  rcases hN with ⟨rfl, rfl⟩ | ⟨rfl, rfl⟩ | ⟨rfl, rfl⟩
  all_goals simp only [seqC, seqGo, Lib.slowN, Nat.reduceAdd, Nat.reduceSub, Nat.reduceLeDiff, if_true, if_false]
  all_goals repeat' split
  all_goals first
    | (exfalso; omega)
    | (rw [conv_bad])
    | (rw [conv_ok] <;> first | omega | (apply Prod.ext <;> simp only <;> omega))

theorem decode0 (s : ByteArray) : Utf8.decode s 0 = Lib.decodeN s.size (s.get! 0).toNat (s.get! 1).toNat (s.get! 2).toNat (s.get! 3).toNat := by
  have := Lib.decode_at s 0
  simpa using this

set_option maxHeartbeats 2000000 in
theorem decN_bad (n b0 b1 b2 b3 : Nat) (hb : (128 ≤ b0 ∧ b0 < 194) ∨ (245 ≤ b0 ∧ b0 < 256)) : Lib.decodeN n b0 b1 b2 b3 = (65533, 1) := by
  unfold Lib.decodeN
  repeat' split
  all_goals first | rfl | (exfalso; omega)

theorem seqD_conv (s : ByteArray) (h : 0 < s.size) : seqD s = conv (Lib.decodeN s.size (s.get! 0).toNat (s.get! 1).toNat (s.get! 2).toNat (s.get! 3).toNat) := by
  unfold seqD conv
  rw [decode0]
  by_cases hb : isBad (Lib.decodeN s.size (s.get! 0).toNat (s.get! 1).toNat (s.get! 2).toNat (s.get! 3).toNat) = true
  · rw [if_pos (Or.inr hb), if_pos hb]
  · rw [if_neg (by rintro (h1 | h1); omega; exact hb h1), if_neg hb]

/-- guiselref1.Sequence, whatever the text -/
theorem seq_any (s : ByteArray) (w : World) (hm : s.size ≤ 9223372036854775807) :
    Calls Tryd.prog 80 #[.string s] w fun e w' => e = .returned (.tuple #[.int .i64 ((seqD s).1 : Int), .int .i32 ((seqD s).2 : Int)]) ∧ w = w' := by
  by_cases h0 : s.size = 0
  · have hs : s = ByteArray.empty := ByteArray.size_eq_zero_iff.1 h0
    subst hs
    have e : seqD ByteArray.empty = (0, 0) := rfl
    rw [e]
    exact seq_empty w
  have h0 : 0 < s.size := by omega
  have hb0 := (s.get! 0).toNat_lt
  have hb1 := (s.get! 1).toNat_lt
  have hb2 := (s.get! 2).toNat_lt
  have hb3 := (s.get! 3).toNat_lt
  have g0 := getL s 0 h0
  have hc := seqD_conv s h0
  by_cases c0 : s[0].toNat ≤ 127
  · have h := seq_ascii s w h0 hm (by omega)
    rw [hc, g0, show Lib.decodeN s.size s[0].toNat (s.get! 1).toNat (s.get! 2).toNat (s.get! 3).toNat = (s[0].toNat, 1) by unfold Lib.decodeN; rw [if_pos (by omega)]]
    rw [show conv (s[0].toNat, 1) = (1, s[0].toNat) by unfold conv isBad; rw [if_neg]; simp; omega]
    exact h
  by_cases c1 : s[0].toNat ≤ 193 ∨ 245 ≤ s[0].toNat
  · have h := seq_none s w h0 hm (by omega) (by omega)
    rw [hc, g0, decN_bad _ _ _ _ _ (by rw [← g0] at c0 c1 ⊢; omega), conv_bad]
    exact h
  have hn : 1 ≤ s.size := h0
  have hcl : (194 ≤ s[0].toNat ∧ s[0].toNat < 224) ∨ s[0].toNat = 224 ∨ (225 ≤ s[0].toNat ∧ s[0].toNat < 237) ∨ (238 ≤ s[0].toNat ∧ s[0].toNat < 240) ∨ s[0].toNat = 237 ∨ s[0].toNat = 240 ∨ (241 ≤ s[0].toNat ∧ s[0].toNat < 244) ∨ s[0].toNat = 244 := by omega
  rcases hcl with c | c | c | c | c | c | c | c
  · rw [hc, ← Lib.slow_C2 _ _ _ _ _ hn hb1 hb2 hb3 (by rw [g0]; exact c), ← seqC_slow s 2 32 128 191 (by simp) (by simp) (by simp)]
    exact seq_C2 s w h0 hm (by omega)
  · rw [hc, ← Lib.slow_E0 _ _ _ _ _ hn hb1 hb2 hb3 (by rw [g0]; exact c), ← seqC_slow s 3 16 160 191 (by simp) (by simp) (by simp)]
    exact seq_E0 s w h0 hm (by omega)
  · rw [hc, ← Lib.slow_E1 _ _ _ _ _ hn hb1 hb2 hb3 (by rw [g0]; exact .inl c), ← seqC_slow s 3 16 128 191 (by simp) (by simp) (by simp)]
    exact seq_E1 s w h0 hm (by omega)
  · rw [hc, ← Lib.slow_E1 _ _ _ _ _ hn hb1 hb2 hb3 (by rw [g0]; exact .inr c), ← seqC_slow s 3 16 128 191 (by simp) (by simp) (by simp)]
    exact seq_EE s w h0 hm (by omega)
  · rw [hc, ← Lib.slow_ED _ _ _ _ _ hn hb1 hb2 hb3 (by rw [g0]; exact c), ← seqC_slow s 3 16 128 159 (by simp) (by simp) (by simp)]
    exact seq_ED s w h0 hm (by omega)
  · rw [hc, ← Lib.slow_F0 _ _ _ _ _ hn hb1 hb2 hb3 (by rw [g0]; exact c), ← seqC_slow s 4 8 144 191 (by simp) (by simp) (by simp)]
    exact seq_F0 s w h0 hm (by omega)
  · rw [hc, ← Lib.slow_F1 _ _ _ _ _ hn hb1 hb2 hb3 (by rw [g0]; exact c), ← seqC_slow s 4 8 128 191 (by simp) (by simp) (by simp)]
    exact seq_F1 s w h0 hm (by omega)
  · rw [hc, ← Lib.slow_F4 _ _ _ _ _ hn hb1 hb2 hb3 (by rw [g0]; exact c), ← seqC_slow s 4 8 128 143 (by simp) (by simp) (by simp)]
    exact seq_F4 s w h0 hm (by omega)

end Go.Proofs.YtkenffbonnbflaaDoor
