/- Plain laws: runes to bytes and back; the text without bad bytes; the model's conversions. -/
import Derived.Test.YtkenffbonnbflaaDoorPlf
import Derived.Lib.RuneBytes
import Derived.Lib.QuoteLoop
import Derived.Laws.Cover4
import Derived.Laws.IdiomStrings
namespace Go.Proofs.YtkenffbonnbflaaDoor
open Go.Lib
set_option linter.unusedVariables false

/-- a rune that may be encoded -/
def IsRune (r : Int) : Prop := (0 ≤ r ∧ r < 55296) ∨ (57343 < r ∧ r ≤ 1114111)
instance (r : Int) : Decidable (IsRune r) := by unfold IsRune; exact inferInstance
theorem byteZ (z : Int) (h0 : 0 ≤ z) (h : z < 256) : (z.toNat.toUInt8).toNat = z.toNat := by
  show (UInt8.ofNat z.toNat).toNat = _
  rw [UInt8.toNat_ofNat']
  exact Nat.mod_eq_of_lt (by omega)
/-- runes, one behind the other -/
def encL (ns : List Int) : List UInt8 := ns.flatMap encodeRune
theorem encL_cons (n : Int) (ns : List Int) : encL (n :: ns) = encodeRune n ++ encL ns := by simp [encL]
theorem encL_append (a b : List Int) : encL (a ++ b) = encL a ++ encL b := by simp [encL]

theorem dN1 (n b0 b1 b2 b3 : Nat) (h : b0 < 128) : decodeN n b0 b1 b2 b3 = (b0, 1) := by unfold decodeN; rw [if_pos h]
theorem dN2 (n b0 b1 b2 b3 r : Nat) (hn : 1 < n) (h0 : b0 = 192 + r / 64) (h1 : b1 = 128 + r % 64) (hr : 128 ≤ r ∧ r ≤ 2047) : decodeN n b0 b1 b2 b3 = (r, 2) := by
  unfold decodeN
  rw [if_neg (by omega), if_pos ⟨by omega, by omega, by omega⟩, if_pos (by omega)]
  exact Prod.ext (by dsimp only; omega) rfl
theorem dN3 (n b0 b1 b2 b3 r : Nat) (hn : 2 < n) (h0 : b0 = 224 + r / 4096) (h1 : b1 = 128 + r / 64 % 64) (h2 : b2 = 128 + r % 64) (hr : (2048 ≤ r ∧ r < 55296) ∨ (57343 < r ∧ r ≤ 65535)) : decodeN n b0 b1 b2 b3 = (r, 3) := by
  unfold decodeN
  rw [if_neg (by omega), if_neg (by omega), if_pos ⟨by omega, ⟨by omega, by omega⟩, by omega, by omega⟩, if_pos (by omega)]
  exact Prod.ext (by dsimp only; omega) rfl
theorem dN4 (n b0 b1 b2 b3 r : Nat) (hn : 3 < n) (h0 : b0 = 240 + r / 262144) (h1 : b1 = 128 + r / 4096 % 64) (h2 : b2 = 128 + r / 64 % 64) (h3 : b3 = 128 + r % 64) (hr : 65536 ≤ r ∧ r ≤ 1114111) : decodeN n b0 b1 b2 b3 = (r, 4) := by
  unfold decodeN
  rw [if_neg (by omega), if_neg (by omega), if_neg (by omega), if_pos ⟨by omega, ⟨by omega, by omega⟩, ⟨by omega, by omega⟩, by omega, by omega⟩, if_pos (by omega)]
  exact Prod.ext (by dsimp only; omega) rfl
/-- a rune's bytes are decoded as the rune -/
theorem dec_enc (r : Nat) (hv : r < 55296 ∨ 57343 < r ∧ r ≤ 1114111) (t : List UInt8) : decodeL (encodeRune (r : Int) ++ t) = (r, (encodeRune (r : Int)).length) := by
  rw [decodeL_N]
  unfold encodeRune
  by_cases c1 : r ≤ 127
  · rw [encodeRuneZ_one (by omega) (by omega)]
    simp only [List.map_cons, List.map_nil, List.cons_append, List.nil_append, List.getD_cons_zero, List.length_cons, List.length_nil]
    rw [byteZ _ (by omega) (by omega), dN1 _ _ _ _ _ (by omega)]
    rfl
  · by_cases c2 : r ≤ 2047
    · rw [encodeRuneZ_two (by omega) (by omega)]
      simp only [List.map_cons, List.map_nil, List.cons_append, List.nil_append, List.getD_cons_zero, List.getD_cons_succ, List.length_cons, List.length_nil]
      rw [byteZ _ (by omega) (by omega), byteZ _ (by omega) (by omega)]
      exact dN2 _ _ _ _ _ _ (by omega) (by omega) (by omega) (by omega)
    · by_cases c3 : r ≤ 65535
      · rw [encodeRuneZ_three (by omega)]
        simp only [List.map_cons, List.map_nil, List.cons_append, List.nil_append, List.getD_cons_zero, List.getD_cons_succ, List.length_cons, List.length_nil]
        rw [byteZ _ (by omega) (by omega), byteZ _ (by omega) (by omega), byteZ _ (by omega) (by omega)]
        exact dN3 _ _ _ _ _ _ (by omega) (by omega) (by omega) (by omega) (by omega)
      · rw [encodeRuneZ_four (by omega) (by omega)]
        simp only [List.map_cons, List.map_nil, List.cons_append, List.nil_append, List.getD_cons_zero, List.getD_cons_succ, List.length_cons, List.length_nil]
        rw [byteZ _ (by omega) (by omega), byteZ _ (by omega) (by omega), byteZ _ (by omega) (by omega), byteZ _ (by omega) (by omega)]
        exact dN4 _ _ _ _ _ _ (by omega) (by omega) (by omega) (by omega) (by omega) (by omega)
theorem encodeRune_pos (r : Int) : 1 ≤ (encodeRune r).length ∧ (encodeRune r).length ≤ 4 := by
  have := encodeRuneZ_length r
  simpa [encodeRune] using this
theorem encodeRune_fffd : (encodeRune 65533).length = 3 := by decide

/-- the runes of a text -/
def runesN (l : List UInt8) : List Nat := (spots l).map (·.r)
def runesI (l : List UInt8) : List Int := (runesN l).map Int.ofNat
/-- no spot is bad -/
def AllGood (l : List UInt8) : Prop := ∀ x ∈ spots l, x.bad = false
/-- the text without bad spots -/
def cleanL (l : List UInt8) : List UInt8 := encL (runesI l)

theorem decode_rune_valid (l : List UInt8) : (decodeL l).1 < 55296 ∨ 57343 < (decodeL l).1 ∧ (decodeL l).1 ≤ 1114111 := by
  rw [decodeL_N]
  have k0 := (l.getD 0 0).toNat_lt
  have k1 := (l.getD 1 0).toNat_lt
  rcases decodeN_shape l.length (l.getD 0 0).toNat (l.getD 1 0).toNat (l.getD 2 0).toNat (l.getD 3 0).toNat with ⟨c, e⟩ | ⟨q1, q2, q3, cv, e⟩ | ⟨q1, q2, q3, q4, cv, cs, e⟩ | ⟨q1, q2, q3, q4, q5, cv, cw, e⟩ | e
  all_goals (rw [e]; dsimp only; omega)
theorem spotsAt_rune_valid (l : List UInt8) : ∀ p x, x ∈ spotsAt p l → x.r < 55296 ∨ 57343 < x.r ∧ x.r ≤ 1114111 := by
  induction l using spots_ind with
  | h0 => intro p x hx; simp [spotsAt_nil] at hx
  | h1 l hl ih =>
    intro p x hx
    rw [spotsAt_cons p l hl] at hx
    rcases List.mem_cons.1 hx with rfl | hx
    · exact decode_rune_valid l
    · exact ih _ x hx
/-- the spots of encoded runes -/
theorem spotsAt_enc : ∀ (ns : List Nat) (p : Nat), (∀ n ∈ ns, n < 55296 ∨ 57343 < n ∧ n ≤ 1114111) → (spotsAt p (encL (ns.map Int.ofNat))).map (·.r) = ns ∧ ∀ x ∈ spotsAt p (encL (ns.map Int.ofNat)), x.bad = false
  | [], p, h => by simp [encL, spotsAt_nil]
  | n :: ns, p, h => by
    have hn := h n (by simp)
    have hp := encodeRune_pos (n : Int)
    have e : encL ((n :: ns).map Int.ofNat) = encodeRune (n : Int) ++ encL (ns.map Int.ofNat) := by rw [List.map_cons, encL_cons]; rfl
    have hne : encodeRune (n : Int) ++ encL (ns.map Int.ofNat) ≠ [] := by
      intro h0
      have := congrArg List.length h0
      simp only [List.length_append, List.length_nil] at this
      omega
    have hd := dec_enc n hn (encL (ns.map Int.ofNat))
    have ih := spotsAt_enc ns (p + (encodeRune (n : Int)).length) (fun m hm => h m (by simp [hm]))
    rw [e, spotsAt_cons p _ hne]
    unfold sptOf
    rw [hd]
    dsimp only
    rw [List.drop_left]
    refine ⟨by rw [List.map_cons, ih.1], fun x hx => ?_⟩
    rcases List.mem_cons.1 hx with rfl | hx
    · dsimp only
      unfold isBad
      rw [Bool.and_eq_false_iff, beq_eq_false_iff_ne, beq_eq_false_iff_ne]
      dsimp only
      by_cases hf : n = 65533
      · right; subst hf; rw [show ((65533 : Nat) : Int) = 65533 from rfl, encodeRune_fffd]; omega
      · exact .inl hf
    · exact ih.2 x hx
theorem runes_clean (l : List UInt8) : runesN (cleanL l) = runesN l ∧ AllGood (cleanL l) :=
  spotsAt_enc (runesN l) 0 (fun n hn => by
    obtain ⟨x, hx, rfl⟩ := List.mem_map.1 hn
    exact spotsAt_rune_valid l 0 x hx)
/-- what has no bad spot is its runes' bytes -/
theorem clean_good_at (l : List UInt8) : ∀ p, (∀ x ∈ spotsAt p l, x.bad = false) → encL (((spotsAt p l).map (·.r)).map Int.ofNat) = l := by
  induction l using spots_ind with
  | h0 => intro p _; rw [spotsAt_nil]; rfl
  | h1 l hl ih =>
    intro p h
    rw [spotsAt_cons p l hl] at h ⊢
    rw [List.map_cons, List.map_cons, encL_cons, ih _ (fun x hx => h x (by simp [hx]))]
    have hb := h (sptOf p l) (by simp)
    have e := encode_decode l hl (fun hc => by
      have : (sptOf p l).bad = true := by show isBad (decodeL l) = true; unfold isBad; rw [hc.1, hc.2]; rfl
      rw [this] at hb
      cases hb)
    show encodeRune ((decodeL l).1 : Int) ++ _ = l
    rw [e, List.take_append_drop]
theorem clean_good (l : List UInt8) (h : AllGood l) : cleanL l = l := clean_good_at l 0 h
theorem good_iff (l : List UInt8) : AllGood l ↔ cleanL l = l := ⟨clean_good l, fun h => by rw [← h]; exact (runes_clean l).2⟩
theorem clean_clean (l : List UInt8) : cleanL (cleanL l) = cleanL l := clean_good _ (runes_clean l).2
theorem runesN_length (l : List UInt8) : (runesN l).length = (spots l).length := by simp [runesN]
theorem runesI_length (l : List UInt8) : (runesI l).length = (spots l).length := by simp [runesI, runesN]
theorem encL_length (ns : List Int) : (encL ns).length ≤ 4 * ns.length := by
  induction ns with
  | nil => simp [encL]
  | cons n ns ih => rw [encL_cons, List.length_append, List.length_cons]; have := encodeRune_pos n; omega

/-! ### the model's conversions -/
theorem encode_list (r : Int) : (Utf8.encode r).data.toList = encodeRune r := by
  unfold Utf8.encode
  by_cases hv : Utf8.valid r = true
  · have h2 : (0 ≤ r ∧ r < 55296) ∨ (57344 ≤ r ∧ r ≤ 1114111) := by simpa [Utf8.valid] using hv
    simp only [hv, if_true]
    obtain ⟨n, rfl⟩ : ∃ n : Nat, r = n := ⟨r.toNat, by omega⟩
    simp only [Int.toNat_natCast]
    unfold encodeRune
    by_cases h1 : n < 128
    · rw [if_pos h1, encodeRuneZ_one (by omega) (by omega)]; rfl
    · by_cases h3 : n < 2048
      · rw [if_neg h1, if_pos h3, encodeRuneZ_two (by omega) (by omega)]
        simp only [List.map_cons, List.map_nil]
        rw [show (192 + (n : Int) / 64).toNat = 192 + n / 64 by omega, show (128 + (n : Int) % 64).toNat = 128 + n % 64 by omega]
      · by_cases h4 : n < 65536
        · rw [if_neg h1, if_neg h3, if_pos h4, encodeRuneZ_three (by omega)]
          simp only [List.map_cons, List.map_nil]
          rw [show (224 + (n : Int) / 4096).toNat = 224 + n / 4096 by omega, show (128 + (n : Int) / 64 % 64).toNat = 128 + n / 64 % 64 by omega, show (128 + (n : Int) % 64).toNat = 128 + n % 64 by omega]
        · rw [if_neg h1, if_neg h3, if_neg h4, encodeRuneZ_four (by omega) (by omega)]
          simp only [List.map_cons, List.map_nil]
          rw [show (240 + (n : Int) / 262144).toNat = 240 + n / 262144 by omega, show (128 + (n : Int) / 4096 % 64).toNat = 128 + n / 4096 % 64 by omega, show (128 + (n : Int) / 64 % 64).toNat = 128 + n / 64 % 64 by omega, show (128 + (n : Int) % 64).toNat = 128 + n % 64 by omega]
  · have h2 : ¬ ((0 ≤ r ∧ r < 55296) ∨ (57344 ≤ r ∧ r ≤ 1114111)) := by simpa [Utf8.valid] using hv
    have hf : Utf8.valid r = false := by simpa using hv
    simp only [hf, Bool.false_eq_true, if_false]
    unfold encodeRune
    rw [encodeRuneZ_bad (by omega)]
    decide
theorem runesBytes_list (ns : List Int) : (runesBytes ns).data.toList = encL ns := by
  have key : ∀ (ns : List Int) (s : ByteArray), (ns.foldl (fun r n => r ++ Utf8.encode n) s).data.toList = s.data.toList ++ encL ns := by
    intro ns
    induction ns with
    | nil => intro s; simp [encL]
    | cons n ns ih =>
      intro s
      rw [List.foldl_cons, ih, encL_cons, ByteArray.data_append, Array.toList_append, encode_list, List.append_assoc]
  unfold runesBytes
  rw [key]
  rfl
theorem runesBytes_eq (ns : List Int) : runesBytes ns = ⟨(encL ns).toArray⟩ := by
  rw [← runesBytes_list]
theorem drop_ne (s : ByteArray) (p : Nat) (h : p < s.size) : s.data.toList.drop p ≠ [] := by
  intro e
  have h1 := congrArg List.length e
  rw [List.length_drop, Array.length_toList] at h1
  have h2 : s.data.size = s.size := rfl
  simp only [List.length_nil] at h1
  omega
theorem runesFrom_spots (s : ByteArray) : ∀ (f p : Nat) (acc : Array Value), s.size - p ≤ f → Conv.runesFrom s f p acc = acc ++ ((spotsAt p (s.data.toList.drop p)).map fun x => Value.int .i32 (x.r : Int)).toArray
  | 0, p, acc, h => by
    rw [List.drop_eq_nil_of_le (by rw [Array.length_toList]; show s.size ≤ p; omega), spotsAt_nil]
    simp [Conv.runesFrom]
  | f + 1, p, acc, h => by
    unfold Conv.runesFrom
    by_cases hp : p < s.size
    · rw [if_pos hp, spotsAt_cons p _ (drop_ne s p hp)]
      have hw := decodeL_width (s.data.toList.drop p)
      have hd := decodeL_drop s p
      have ih := runesFrom_spots s f (p + (Utf8.decode s p).2) (acc.push (.int .i32 (Int.ofNat (Utf8.decode s p).1))) (by rw [← hd]; omega)
      dsimp only
      rw [ih, List.drop_drop, hd]
      apply Array.ext'
      simp [sptOf, hd]
    · rw [if_neg hp, List.drop_eq_nil_of_le (by rw [Array.length_toList]; show s.size ≤ p; omega), spotsAt_nil]
      simp
theorem runesFrom_all (s : ByteArray) : Conv.runesFrom s s.size 0 #[] = ((runesI s.data.toList).map (Value.int .i32)).toArray := by
  rw [runesFrom_spots s s.size 0 #[] (by omega)]
  simp [runesI, runesN, spots, Function.comp_def]
end Go.Proofs.YtkenffbonnbflaaDoor
