/- Walk: guiselaw2.begun. -/
import Derived.Test.YtkenffbonnbflaaDoorText
namespace Go.Proofs.YtkenffbonnbflaaDoor
open Go.RowKit
set_option linter.unusedVariables false

/-- the spots by a count of rounds: to reckon with -/
def spotsF : Nat → Nat → List UInt8 → List Spt
  | 0, _, _ => []
  | f + 1, p, l => if l = [] then [] else sptOf p l :: spotsF f (p + (Lib.decodeL l).2) (l.drop (Lib.decodeL l).2)
theorem spotsF_eq : ∀ (f p : Nat) (l : List UInt8), l.length ≤ f → spotsF f p l = spotsAt p l
  | 0, p, l, h => by
    have : l = [] := List.eq_nil_of_length_eq_zero (by omega)
    subst this
    rw [spotsAt_nil]; rfl
  | f + 1, p, l, h => by
    by_cases hl : l = []
    · subst hl; rw [spotsAt_nil]; rfl
    · have h1 := decodeL_drop_lt l hl
      rw [spotsAt_cons p l hl, ← spotsF_eq f _ _ (by omega)]
      simp [spotsF, hl]
def runText : ByteArray := ⟨#[97, 195, 169, 10, 226, 130, 122]⟩
theorem run_spots : sp runText = [⟨97, 0, 1, false⟩, ⟨233, 1, 2, false⟩, ⟨10, 3, 1, false⟩, ⟨65533, 4, 1, true⟩, ⟨65533, 5, 1, true⟩, ⟨122, 6, 1, false⟩] := by
  unfold sp spots
  rw [← spotsF_eq 7 0 runText.data.toList (by decide)]
  rfl
theorem run_nS : nS runText = 6 := by unfold nS; rw [run_spots]; rfl
theorem run_nL : nL runText = 2 := by unfold nL; rw [run_spots]; rfl
theorem run_b2 : bAt runText 2 = 3 := by unfold bAt; rw [run_spots]; rfl

theorem New_long (s : ByteArray) (w : World) (hm : 65536 < s.size) (hx : s.size ≤ 9223372036854775807) :
    Calls Tryd.prog 90 #[.string s] w fun e w' => e = .returned (.tuple #[.pointer none, .int .i64 3]) ∧ w = w' := by
  go_enter Tryd.func90, Tryd.ntmps90
  go_wp2
  go_ret2
  exact ⟨rfl, rfl⟩
/-- New of a text that is not too long -/
theorem New_is (s : ByteArray) (w : World) (hm : s.size ≤ 65536) :
    Calls Tryd.prog 90 #[.string s] w fun e w' => e = .returned (.tuple #[.pointer (some ⟨w.heap.size + 1, 0, none⟩), .int .i64 0]) ∧ (∃ gb cb gl cl, TextIs w' (w.heap.size + 1) s gb cb gl cl) ∧ Below w.heap.size w w' :=
  (New_ok s w hm).mono fun e w' ⟨he, ⟨vb, vl, ht⟩, hb⟩ => by
    obtain ⟨gb, cb, gl, cl, h, _⟩ := ht.is hm
    exact ⟨he, ⟨gb, cb, gl, cl, h⟩, hb⟩
theorem New_run (w : World) :
    Calls Tryd.prog 90 #[.string ⟨#[97, 195, 169, 10, 226, 130, 122]⟩] w fun e w' => e = .returned (.tuple #[.pointer (some ⟨w.heap.size + 1, 0, none⟩), .int .i64 0]) ∧ (∃ gb cb gl cl, TextIs w' (w.heap.size + 1) runText gb cb gl cl) ∧ Below w.heap.size w w' :=
  New_is runText w (by decide)

set_option maxRecDepth 100000 in
set_option maxHeartbeats 2000000 in
theorem begun_ok (s : ByteArray) (w : World) (hm : s.size ≤ 65536) :
    Calls Tryd.prog 53 #[.string s] w fun e w' => (∃ T gb cb gl cl, e = .returned (.tuple #[.pointer (some ⟨T, 0, none⟩), .bool false, .bool true]) ∧ TextIs w' T s gb cb gl cl) ∧ Below w.heap.size w w' := by
  go_enter Tryd.func53, Tryd.ntmps53
  go_wp2_with fail
  refine (New_run _).mono ?_
  rintro e w1 ⟨rfl, ⟨gb, cb, gl, cl, hr⟩, hb1⟩
  have hP := Place_yes hr 2 (by rw [run_nS]; decide)
  rw [run_b2] at hP
  have HP := Lib.hid hP
  have hs1 := hb1.size
  have HR := Lib.hid hr
  clear hP hr
  go_wp2_with fail
  refine HP.out.mono ?_
  rintro e w2 ⟨rfl, hb2⟩
  have hs2 := hb2.size
  have hr2 := HR.out.below hb2
  have hr3 := fun o => hr2.below ((Below.refl _ w2).alloc (Nat.le_refl _) o)
  have HC : Hid (∀ o, Calls Tryd.prog 56 #[.pointer (some ⟨w.heap.size + 1, 0, none⟩)] (w2.alloc o) fun e w' => e = .returned (.int .i64 6) ∧ w2.alloc o = w') := Lib.hid (fun o => by have h := Count_any (hr3 o); rw [run_nS] at h; exact h)
  have HL : Hid (∀ o, Calls Tryd.prog 91 #[.pointer (some ⟨w.heap.size + 1, 0, none⟩)] (w2.alloc o) fun e w' => e = .returned (.int .i64 2) ∧ w2.alloc o = w') := Lib.hid (fun o => by have h := Lines_any (hr3 o); rw [run_nL] at h; exact h)
  clear hr2 hr3
  go_wp2_with (first
    | (go_at_call 56; refine (HC.out _).mono ?_; rintro e w' ⟨rfl, rfl⟩)
    | (go_at_call 91; refine (HL.out _).mono ?_; rintro e w' ⟨rfl, rfl⟩)
    | (go_at_call 90; refine (New_is s _ hm).mono ?_; rintro e w' ⟨rfl, ⟨gb, cb, gl, cl, hr⟩, hb3⟩))
  rw [World.size_alloc] at hr
  go_ret3
  exact ⟨⟨_, gb, cb, gl, cl, rfl, hr⟩, ((hb1.trans (hb2.mono hs1)).alloc (by omega) _).trans (hb3.mono (by simp; omega))⟩

set_option maxRecDepth 100000 in
set_option maxHeartbeats 2000000 in
theorem begun_long (s : ByteArray) (w : World) (hm : 65536 < s.size) (hx : s.size ≤ 9223372036854775807) :
    Calls Tryd.prog 53 #[.string s] w fun e w' => e = .returned (.tuple #[.pointer none, .bool true, .bool true]) ∧ Below w.heap.size w w' := by
  go_enter Tryd.func53, Tryd.ntmps53
  go_wp2_with fail
  refine (New_run _).mono ?_
  rintro e w1 ⟨rfl, ⟨gb, cb, gl, cl, hr⟩, hb1⟩
  have hP := Place_yes hr 2 (by rw [run_nS]; decide)
  rw [run_b2] at hP
  have HP := Lib.hid hP
  have hs1 := hb1.size
  have HR := Lib.hid hr
  clear hP hr
  go_wp2_with fail
  refine HP.out.mono ?_
  rintro e w2 ⟨rfl, hb2⟩
  have hs2 := hb2.size
  have hr2 := HR.out.below hb2
  have hr3 := fun o => hr2.below ((Below.refl _ w2).alloc (Nat.le_refl _) o)
  have HC : Hid (∀ o, Calls Tryd.prog 56 #[.pointer (some ⟨w.heap.size + 1, 0, none⟩)] (w2.alloc o) fun e w' => e = .returned (.int .i64 6) ∧ w2.alloc o = w') := Lib.hid (fun o => by have h := Count_any (hr3 o); rw [run_nS] at h; exact h)
  have HL : Hid (∀ o, Calls Tryd.prog 91 #[.pointer (some ⟨w.heap.size + 1, 0, none⟩)] (w2.alloc o) fun e w' => e = .returned (.int .i64 2) ∧ w2.alloc o = w') := Lib.hid (fun o => by have h := Lines_any (hr3 o); rw [run_nL] at h; exact h)
  clear hr2 hr3
  go_wp2_with (first
    | (go_at_call 56; refine (HC.out _).mono ?_; rintro e w' ⟨rfl, rfl⟩)
    | (go_at_call 91; refine (HL.out _).mono ?_; rintro e w' ⟨rfl, rfl⟩)
    | (go_at_call 90; refine (New_long s _ hm hx).mono ?_; rintro e w' ⟨rfl, rfl⟩))
  go_ret3
  exact ⟨rfl, (hb1.trans (hb2.mono hs1)).alloc (by omega) _⟩
end Go.Proofs.YtkenffbonnbflaaDoor
