/- Walk: guiselaw2.SpotsLong. -/
import Derived.Test.YtkenffbonnbflaaText2
import Derived.Deep.RegionWith
import Derived.Deep.RegionHeld3
namespace Go.Proofs.Ytkenffbonnbflaa
open Go.RowKit
set_option linter.unusedVariables false
theorem infoByte : (Try.prog.info? 5).map (fun i => (i.zero, i.size, i.bytes)) = some (some (.int .u8 0), 1, 1) := by kernel_rfl
/-- k places filled, the others nought -/
def fillL (x : UInt8) (N k : Nat) : List Value := List.replicate k (.int .u8 (x.toNat : Int)) ++ List.replicate (N - k) (.int .u8 0)
theorem fillL_length (x : UInt8) (N k : Nat) (h : k ≤ N) : (fillL x N k).length = N := by simp [fillL]; omega
theorem fillL_set (x : UInt8) (N k : Nat) (h : k < N) : (fillL x N k).set k (.int .u8 (x.toNat : Int)) = fillL x N (k + 1) := by
  unfold fillL
  rw [List.set_append_right _ _ (by simp), List.length_replicate, Nat.sub_self]
  obtain ⟨m, hm⟩ : ∃ m, N - k = m + 1 := ⟨N - k - 1, by omega⟩
  have hm2 : N - (k + 1) = m := by omega
  rw [hm, hm2, List.replicate_succ, List.set_cons_zero, List.replicate_succ', List.append_assoc]
  rfl
theorem fillL_at (x : UInt8) (N k : Nat) (h : k < N) : (fillL x N k)[k]? = some (.int .u8 0) := by
  unfold fillL
  rw [List.getElem?_append_right (by simp), List.length_replicate, Nat.sub_self, List.getElem?_replicate, if_pos (by omega)]
def fillS (x : UInt8) (N : Nat) : ByteArray := ⟨(List.replicate N x).toArray⟩
theorem fillS_size (x : UInt8) (N : Nat) : (fillS x N).size = N := by show (List.replicate N x).toArray.size = N; simp

def LongRel (x : UInt8) (N : Nat) (w : World) (k : Nat) (wr : World) : Prop := wr.ownsRow w.heap.size 5 1 (.slice (some ⟨w.heap.size, 0, none⟩) N N) N (fillL x N k) ∧ Below w.heap.size w wr
theorem made_fill (x : UInt8) (N : Nat) : (madeCells (Value.cells (.int .u8 0)) (N * 1)).toList = fillL x N 0 := by
  rw [Nat.mul_one]
  show (madeCells #[.int .u8 0] N).toList = _
  rw [toList_madeCells_one]
  unfold fillL
  rw [List.replicate_zero, List.nil_append, Nat.sub_zero]
theorem LongRel.conv {x : UInt8} {N : Nat} {w wr W : World} (h : LongRel x N w N wr) (hb : Below wr.heap.size wr W) :
    (convert 22 9 (.slice (some ⟨w.heap.size, 0, none⟩) N N)).run Try.prog W = .ok (.string (fillS x N)) W := by
  have h1 := own_below h.1 hb
  have h2 := conv_bytes (w := W) (g := w.heap.size) (c := N) (l := List.replicate N x) (fun j hj => by
    have hj2 : j < N := by simpa using hj
    rw [h1.cellAt j (by omega)]
    simp [fillL, hj2])
  rw [List.length_replicate] at h2
  exact h2

set_option maxRecDepth 100000 in
set_option maxHeartbeats 2000000 in
theorem long_walk (x : UInt8) (n : Int) (w : World) (hn1 : -9223372036854775808 ≤ n) (hn2 : n ≤ 9223372036854775807) :
    Calls Try.prog 3 #[.int .u8 (x.toNat : Int), .int .i64 n] w fun e w' => e = .returned (.bool true) ∧ Below w.heap.size w w' := by
  obtain ⟨i0, hi, hz0, hz1, hz2⟩ := info_parts infoByte
  have hx := x.toNat_lt
  go_enter Try.func3, Try.ntmps3
  go_wp2_with fail
  refine (Within_any n (-1) 1 w (by omega) (by omega) (by omega) hn1 hn2).mono ?_
  rintro e w' ⟨r, hr1, hr2, rfl, rfl⟩
  obtain ⟨N, hN⟩ : ∃ N : Nat, 65536 + r = (N : Int) := ⟨(65536 + r).toNat, by omega⟩
  have hN1 : N ≤ 65537 := by omega
  have hN2 : 65535 ≤ N := by omega
  have HN := Lib.hid hN
  obtain rfl : r = (N : Int) - 65536 := by omega
  clear hN hr1 hr2
  go_wp2_with (at_make; go_must (refine wpList_make_full _ rfl _ _ 22 rfl w.heap.size 5 i0 (.int .u8 0) 1 Try.underlying22 hi hz0 hz1 .i64 .i64 _ _ N rfl rfl (by omega) (by omega) (by rw [hz2]; omega) (by unfold maxLen; omega) (Nat.le_refl _) ?_); intro w1 hown hgrow)
  go_loopw [6] (fun i wr => ∃ k : Nat, k ≤ N ∧ i = .int .i64 k ∧ LongRel x N w k wr) (fun i _ => N - (intOf i).toNat)
  case atStart =>
    refine ⟨0, Nat.zero_le _, rfl, ?_, (Below.refl _ _).grown hgrow (Nat.le_refl _) (fun k e => by cases e)⟩
    rw [made_fill x N] at hown
    exact hown
  case round =>
    obtain ⟨k, hk, rfl, hr⟩ := hrel
    have hsz := hr.2.size
    by_cases hlt : k < N
    · have hc : wr.cell? ⟨w.heap.size, k, none⟩ = some (.int .u8 0) := by
        rw [hr.1.cellAt k (by omega)]
        exact fillL_at x N k hlt
      have hf := hr.1.frozenAt k
      have HR := Lib.hid hr
      clear hr
      go_wp2
      go_roundw
      case rel =>
        refine ⟨k + 1, by omega, by go_num, ?_, HR.out.2.setCell (Nat.le_refl _) _⟩
        have h := (HR.out.1.stored k (.int .u8 (x.toNat : Int))).1
        rw [fillL_set x N k hlt] at h
        exact h
      case measure => simp [intOf]; omega
    · obtain rfl : k = N := by omega
      have hcv := hr.conv (Below.refl _ _)
      have HR := Lib.hid hr
      clear hr
      by_cases h65 : k ≤ 65536
      · go_wp2_with fail
        refine (begun_ok (fillS x k) _ (by rw [fillS_size]; exact h65)).mono ?_
        rintro e w2 ⟨⟨T, gb, cb, gl, cl, rfl, ht⟩, hb2⟩
        have hs2 := hb2.size
        have HC := Lib.hid (Count_any ht)
        have HP := Lib.hid (Place_end ht)
        rw [fillS_size] at HP
        have HT := Lib.hid ht
        have hcv2 := HR.out.conv hb2
        clear ht hcv
        go_wp2_with (first
          | (go_at_call 11; refine HC.out.mono ?_; rintro e w' ⟨rfl, rfl⟩)
          | (go_at_call 10; refine HP.out.mono ?_; rintro e w3 ⟨rfl, hb3⟩))
        have hs3 := hb3.size
        have hk1 : (w3.alloc (.cells #[.int .i64 (k : Int), .int .i64 (nS (fillS x k) : Int)] 28)).cell? ⟨w3.heap.size, 0, none⟩ = some (.int .i64 (k : Int)) := (Blk.new w3 _ _).cell 0
        have hk2 : (w3.alloc (.cells #[.int .i64 (k : Int), .int .i64 (nS (fillS x k) : Int)] 28)).cell? ⟨w3.heap.size, 1, none⟩ = some (.int .i64 (nS (fillS x k) : Int)) := (Blk.new w3 _ _).cell 1
        have hb4 : Below w2.heap.size w2 (w3.alloc (.cells #[.int .i64 (k : Int), .int .i64 (nS (fillS x k) : Int)] 28)) := hb3.alloc hs3 _
        generalize w3.alloc (.cells #[.int .i64 (k : Int), .int .i64 (nS (fillS x k) : Int)] 28) = W4 at *
        have hs4 := hb4.size
        have hw3 := lt_of_cell hk1
        have h4 := HT.out.below hb4
        have hcv4 := HR.out.conv (hb2.trans (hb4.mono hs2))
        have hcv5 : (convert 22 9 (.slice (some ⟨w.heap.size, 0, none⟩) k k)).run Try.prog W4.drew = .ok (.string (fillS x k)) W4.drew := HR.out.conv (hb2.trans (hb4.mono hs2)).drew
        have H4 := Lib.hid h4
        clear h4 hcv2
        go_region_held3 (fun w' => w'.cell? ⟨w3.heap.size, 0, none⟩ = some (.int .i64 (k : Int)) ∧ w'.cell? ⟨w3.heap.size, 1, none⟩ = some (.int .i64 (nS (fillS x k) : Int)) ∧ (convert 22 9 (.slice (some ⟨w.heap.size, 0, none⟩) k k)).run Try.prog w' = .ok (.string (fillS x k)) w')
          (first
            | go_keep
            | (go_split_ands
               refine ⟨?_, ?_, ?_⟩
               · (rw [hb5.cell (p := ⟨w3.heap.size, 0, none⟩) (by simp; omega)]; assumption)
               · (rw [hb5.cell (p := ⟨w3.heap.size, 1, none⟩) (by simp; omega)]; assumption)
               · exact HR.out.conv ((hb2.trans (hb4.mono hs2)).drew.trans (hb5.mono (by simp; omega)))))
          (first
          | (go_at_call 11; refine (Count_any (by first | exact H4.out | exact H4.out.drew)).mono ?_; rintro e w' ⟨rfl, rfl⟩)
          | (go_at_call 12; refine (Spots_is (fillS x k) _ (by rw [fillS_size]; omega)).mono ?_; rintro e w5 ⟨⟨A5, c5, rfl, _⟩, hb5⟩))
        go_wp2
        go_ret
        exact ⟨rfl, HR.out.2.trans (((hb2.trans (hb4.mono hs2)).drew.trans (hb5.mono (by simp; omega))).mono hsz)⟩
      · go_wp2_with fail
        refine (begun_long (fillS x k) _ (by rw [fillS_size]; omega) (by rw [fillS_size]; omega)).mono ?_
        rintro e w2 ⟨rfl, hb2⟩
        go_wp2
        go_ret
        exact ⟨by simp; omega, HR.out.2.trans (hb2.mono hsz)⟩
end Go.Proofs.Ytkenffbonnbflaa
