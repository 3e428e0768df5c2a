/- Walk: guiselaw2.SpotsAll. -/
import Derived.Test.YtkenffbonnbflaaDoorBadsI
import Derived.Test.YtkenffbonnbflaaDoorAllB
namespace Go.Proofs.YtkenffbonnbflaaDoor
open Go.RowKit Go.Shelf
set_option linter.unusedVariables false
attribute [local go_sem] Oper.semAt_some
attribute [local simp] wide_fn wide_round_fn

/-- the activation at the head of a round -/
def RInvA (s : ByteArray) (stop : Int) (w : World) (T gb cb L : Nat) (A : Option Addr) (c : Nat) (st : Int) (j : Nat) (a : Act) (W : World) : Prop :=
  ∃ (R8 : Nat) (Ds : List Nat) (u : Nat → Value), a = { tmps := #[Value.string s, Value.int .i64 stop, undef, Value.pointer (some ⟨w.heap.size, 0, none⟩), Value.pointer (some ⟨w.heap.size + 1, 0, none⟩), Value.pointer (some ⟨T, 0, none⟩), Value.bool false, Value.bool true, Value.pointer (some ⟨L, 0, none⟩), Value.func (.func 96) #[] #[.pointer (some ⟨L + 1, 0, none⟩)], Value.func (.func 97) #[] #[.pointer (some ⟨L + 1 + 1, 0, none⟩)], Value.func (.func 98) #[] #[.pointer (some ⟨L + 1 + 1 + 1, 0, none⟩)], Value.pointer (some ⟨R8, 0, none⟩), u 13, u 14, u 15, u 16, u 17, u 18, u 19, u 20, u 21, u 22, u 23, u 24, u 25, u 26, u 27, u 28, u 29, u 30, u 31, u 32, u 33, u 34, u 35, u 36, u 37, u 38, u 39, u 40, u 41, u 42, u 43, u 44, u 45, u 46, u 47, u 48, u 49, u 50, u 51, u 52, u 53, u 54, u 55, u 56, u 57, u 58, u 59, u 60, u 61, u 62, u 63, u 64, u 65, u 66, u 67, u 68, u 69, u 70, u 71, u 72, u 73, u 74, u 75, u 76, u 77, u 78, u 79, u 80, u 81, u 82, u 83, u 84, u 85, u 86, u 87, u 88, u 89, u 90, u 91, u 92, u 93, u 94, u 95, u 96, u 97, u 98, u 99, u 100, u 101, u 102, u 103, u 104, u 105, u 106, u 107, u 108, u 109, u 110, u 111, u 112, u 113, u 114, u 115, u 116, u 117, u 118, u 119, u 120, u 121, u 122, u 123, u 124, u 125, u 126, u 127, u 128, u 129, u 130, u 131, u 132, u 133, u 134, u 135, u 136, u 137, u 138, u 139, u 140, u 141, u 142, u 143, u 144, u 145, u 146, u 147, u 148, u 149, u 150, u 151, u 152, u 153, u 154, u 155, u 156, u 157, u 158, u 159, u 160, u 161, u 162, u 163, u 164, u 165, u 166, u 167, u 168, u 169, u 170, u 171, u 172, u 173, u 174, u 175, u 176, u 177, u 178, u 179, u 180, u 181, u 182, u 183, u 184, u 185, u 186, u 187, u 188, u 189, u 190, u 191, u 192, u 193, u 194, u 195, u 196, u 197, u 198, u 199, u 200, u 201, u 202, u 203, u 204, u 205, u 206, u 207, u 208, u 209, u 210, u 211, u 212, u 213, u 214, u 215, u 216, u 217, u 218, u 219, u 220], defers := marks Ds } ∧ RUA s w T gb cb L A c st R8 (j : Int) Ds W

def LInvC0 (s : ByteArray) (stop : Int) (w W1 W : World) (T R8 : Nat) (A : Option Addr) (c Bp D D2 base : Nat) (x : Fin (nS s)) (V : World) (k : Nat) (a : Act) (V2 : World) : Prop :=
  ∃ u : Nat → Value, a = { tmps := #[Value.string s, Value.int .i64 stop, undef, Value.pointer (some ⟨w.heap.size, 0, none⟩), Value.pointer (some ⟨w.heap.size + 1, 0, none⟩), Value.pointer (some ⟨T, 0, none⟩), Value.bool false, Value.bool true, Value.pointer (some ⟨W1.heap.size, 0, none⟩), Value.func (.func 96) #[] #[.pointer (some ⟨W1.heap.size + 1, 0, none⟩)], Value.func (.func 97) #[] #[.pointer (some ⟨W1.heap.size + 1 + 1, 0, none⟩)], Value.func (.func 98) #[] #[.pointer (some ⟨W1.heap.size + 1 + 1 + 1, 0, none⟩)], Value.pointer (some ⟨R8, 0, none⟩), Value.pointer (some ⟨W.heap.size, 0, none⟩), u 14, u 15, u 16, u 17, Value.pointer (some ⟨Bp, 0, none⟩), u 19, u 20, u 21, u 22, u 23, u 24, u 25, u 26, u 27, u 28, u 29, u 30, u 31, u 32, u 33, u 34, u 35, u 36, u 37, u 38, u 39, u 40, u 41, u 42, u 43, u 44, u 45, u 46, u 47, u 48, u 49, u 50, u 51, u 52, Value.int .i64 0, Value.bool true, u 55, u 56, Value.func (.func 96) #[] #[.pointer (some ⟨W1.heap.size + 1, 0, none⟩)], u 58, u 59, u 60, u 61, u 62, u 63, u 64, u 65, u 66, u 67, u 68, u 69, u 70, u 71, u 72, u 73, u 74, u 75, u 76, u 77, u 78, u 79, u 80, u 81, u 82, u 83, u 84, u 85, u 86, u 87, u 88, u 89, u 90, u 91, u 92, u 93, u 94, u 95, u 96, u 97, u 98, u 99, u 100, u 101, u 102, u 103, Value.int .i64 0, Value.bool false, Value.bool false, undef, undef, undef, undef, Value.bool false, Value.slice A (nS s) c, Value.int .i64 (nS s : Int), Value.func (.func 97) #[] #[.pointer (some ⟨W1.heap.size + 1 + 1, 0, none⟩)], u 115, u 116, u 117, u 118, u 119, u 120, u 121, u 122, u 123, u 124, u 125, u 126, u 127, u 128, u 129, u 130, u 131, u 132, u 133, u 134, u 135, u 136, u 137, u 138, u 139, u 140, u 141, u 142, u 143, u 144, u 145, u 146, u 147, u 148, u 149, u 150, u 151, u 152, u 153, u 154, u 155, u 156, u 157, u 158, Value.int .i64 0, Value.bool false, Value.bool false, undef, undef, Value.bool false, Value.func (.func 98) #[] #[.pointer (some ⟨W1.heap.size + 1 + 1 + 1, 0, none⟩)], Value.agg #[.int .i64 (bAt s x.val : Int), .int .i64 (x.val : Int)], u 167, u 168, u 169, u 170, u 171, u 172, u 173, u 174, u 175, u 176, u 177, u 178, u 179, u 180, u 181, u 182, u 183, u 184, u 185, u 186, u 187, u 188, u 189, u 190, u 191, u 192, u 193, u 194, u 195, u 196, u 197, u 198, u 199, u 200, u 201, u 202, u 203, u 204, u 205, u 206, u 207, u 208, u 209, u 210, u 211, u 212, u 213, u 214, u 215, u 216, u 217, u 218, u 219, u 220], defers := [] } ∧ Only (fun k => k = W.heap.size) V V2 ∧ Below W.heap.size W V2 ∧ Blk V2 W.heap.size 3 #[.int .i64 ((base + k : Nat) : Int)] ∧ V2.heap[D]? = some (.deferred (some [])) ∧ V2.heap[D2]? = some (.deferred (some [])) ∧ Blk V2 Bp 82 #[.int .i64 (bAt s x.val : Int), .int .i64 (x.val : Int)]
def LInvD0 (s : ByteArray) (stop : Int) (w W1 W : World) (T R8 : Nat) (A : Option Addr) (c D D2 D3 : Nat) (Ds : List Nat) (base : Nat) (k : Nat) (a : Act) (V2 : World) : Prop :=
  ∃ u : Nat → Value, a = { tmps := #[Value.string s, Value.int .i64 stop, undef, Value.pointer (some ⟨w.heap.size, 0, none⟩), Value.pointer (some ⟨w.heap.size + 1, 0, none⟩), Value.pointer (some ⟨T, 0, none⟩), Value.bool false, Value.bool true, Value.pointer (some ⟨W1.heap.size, 0, none⟩), Value.func (.func 96) #[] #[.pointer (some ⟨W1.heap.size + 1, 0, none⟩)], Value.func (.func 97) #[] #[.pointer (some ⟨W1.heap.size + 1 + 1, 0, none⟩)], Value.func (.func 98) #[] #[.pointer (some ⟨W1.heap.size + 1 + 1 + 1, 0, none⟩)], Value.pointer (some ⟨R8, 0, none⟩), Value.pointer (some ⟨W.heap.size, 0, none⟩), u 14, u 15, u 16, u 17, u 18, u 19, u 20, u 21, u 22, u 23, u 24, u 25, u 26, u 27, u 28, u 29, u 30, u 31, u 32, u 33, u 34, u 35, u 36, u 37, u 38, u 39, u 40, u 41, u 42, u 43, u 44, u 45, u 46, u 47, u 48, u 49, u 50, u 51, u 52, Value.int .i64 0, Value.bool true, u 55, u 56, Value.func (.func 96) #[] #[.pointer (some ⟨W1.heap.size + 1, 0, none⟩)], u 58, u 59, u 60, u 61, u 62, u 63, u 64, u 65, u 66, u 67, u 68, u 69, u 70, u 71, u 72, u 73, u 74, u 75, u 76, u 77, u 78, u 79, u 80, u 81, u 82, u 83, u 84, u 85, u 86, u 87, u 88, u 89, u 90, u 91, u 92, u 93, u 94, u 95, u 96, u 97, u 98, u 99, u 100, u 101, u 102, u 103, Value.int .i64 0, Value.bool false, Value.bool false, undef, undef, undef, undef, Value.bool false, Value.slice A (nS s) c, Value.int .i64 (nS s : Int), Value.func (.func 97) #[] #[.pointer (some ⟨W1.heap.size + 1 + 1, 0, none⟩)], u 115, u 116, u 117, u 118, u 119, u 120, u 121, u 122, u 123, u 124, u 125, u 126, u 127, u 128, u 129, u 130, u 131, u 132, u 133, u 134, u 135, u 136, u 137, u 138, u 139, u 140, u 141, u 142, u 143, u 144, u 145, u 146, u 147, u 148, u 149, u 150, u 151, u 152, u 153, u 154, u 155, u 156, u 157, u 158, Value.int .i64 0, Value.bool false, Value.bool false, undef, undef, Value.bool false, Value.func (.func 98) #[] #[.pointer (some ⟨W1.heap.size + 1 + 1 + 1, 0, none⟩)], u 166, u 167, u 168, u 169, u 170, u 171, u 172, u 173, u 174, u 175, u 176, u 177, u 178, u 179, u 180, u 181, u 182, u 183, u 184, u 185, u 186, u 187, u 188, u 189, u 190, u 191, u 192, u 193, u 194, u 195, u 196, u 197, u 198, u 199, u 200, u 201, u 202, u 203, u 204, u 205, u 206, u 207, u 208, u 209, u 210, u 211, u 212, u 213, u 214, u 215, u 216, u 217, u 218, u 219, u 220], defers := { target := .collected D3, args := #[] } :: { target := .collected D2, args := #[] } :: { target := .collected D, args := #[] } :: marks Ds } ∧ Below W.heap.size W V2 ∧ Blk V2 W.heap.size 3 #[.int .i64 ((base + k : Nat) : Int)] ∧ V2.heap[D]? = some (.deferred (some [])) ∧ V2.heap[D2]? = some (.deferred (some [])) ∧ V2.heap[D3]? = some (.deferred (some []))
def LInvC1 (s : ByteArray) (stop : Int) (w W1 W : World) (T R8 : Nat) (A : Option Addr) (c Bp D D2 base : Nat) (x : Fin (nS s)) (V : World) (k : Nat) (a : Act) (V2 : World) : Prop :=
  ∃ u : Nat → Value, a = { tmps := #[Value.string s, Value.int .i64 stop, undef, Value.pointer (some ⟨w.heap.size, 0, none⟩), Value.pointer (some ⟨w.heap.size + 1, 0, none⟩), Value.pointer (some ⟨T, 0, none⟩), Value.bool false, Value.bool true, Value.pointer (some ⟨W1.heap.size, 0, none⟩), Value.func (.func 96) #[] #[.pointer (some ⟨W1.heap.size + 1, 0, none⟩)], Value.func (.func 97) #[] #[.pointer (some ⟨W1.heap.size + 1 + 1, 0, none⟩)], Value.func (.func 98) #[] #[.pointer (some ⟨W1.heap.size + 1 + 1 + 1, 0, none⟩)], Value.pointer (some ⟨R8, 0, none⟩), Value.pointer (some ⟨W.heap.size, 0, none⟩), u 14, u 15, u 16, u 17, Value.pointer (some ⟨Bp, 0, none⟩), u 19, u 20, u 21, u 22, u 23, u 24, u 25, u 26, u 27, u 28, u 29, u 30, u 31, u 32, u 33, u 34, u 35, u 36, u 37, u 38, u 39, u 40, u 41, u 42, u 43, u 44, u 45, u 46, u 47, u 48, u 49, u 50, u 51, u 52, Value.int .i64 1, Value.bool true, u 55, u 56, Value.func (.func 96) #[] #[.pointer (some ⟨W1.heap.size + 1, 0, none⟩)], u 58, u 59, u 60, u 61, u 62, u 63, u 64, u 65, u 66, u 67, u 68, u 69, u 70, u 71, u 72, u 73, u 74, u 75, u 76, u 77, u 78, u 79, u 80, u 81, u 82, u 83, u 84, u 85, u 86, u 87, u 88, u 89, u 90, u 91, u 92, u 93, u 94, u 95, u 96, u 97, u 98, u 99, u 100, u 101, u 102, u 103, Value.int .i64 1, Value.bool true, Value.bool true, Value.int .i64 (nS s : Int), Value.slice A (nS s) c, Value.int .i64 (nS s : Int), Value.bool false, Value.bool false, Value.slice A (nS s) c, Value.int .i64 (nS s : Int), Value.func (.func 97) #[] #[.pointer (some ⟨W1.heap.size + 1 + 1, 0, none⟩)], u 115, u 116, u 117, u 118, u 119, u 120, u 121, u 122, u 123, u 124, u 125, u 126, u 127, u 128, u 129, u 130, u 131, u 132, u 133, u 134, u 135, u 136, u 137, u 138, u 139, u 140, u 141, u 142, u 143, u 144, u 145, u 146, u 147, u 148, u 149, u 150, u 151, u 152, u 153, u 154, u 155, u 156, u 157, u 158, Value.int .i64 1, Value.bool true, Value.bool true, Value.int .i64 0, Value.bool false, Value.bool false, Value.func (.func 98) #[] #[.pointer (some ⟨W1.heap.size + 1 + 1 + 1, 0, none⟩)], Value.agg #[.int .i64 (bAt s x.val : Int), .int .i64 (x.val : Int)], u 167, u 168, u 169, u 170, u 171, u 172, u 173, u 174, u 175, u 176, u 177, u 178, u 179, u 180, u 181, u 182, u 183, u 184, u 185, u 186, u 187, u 188, u 189, u 190, u 191, u 192, u 193, u 194, u 195, u 196, u 197, u 198, u 199, u 200, u 201, u 202, u 203, u 204, u 205, u 206, u 207, u 208, u 209, u 210, u 211, u 212, u 213, u 214, u 215, u 216, u 217, u 218, u 219, u 220], defers := [] } ∧ Only (fun k => k = W.heap.size) V V2 ∧ Below W.heap.size W V2 ∧ Blk V2 W.heap.size 3 #[.int .i64 ((base + k : Nat) : Int)] ∧ V2.heap[D]? = some (.deferred (some [])) ∧ V2.heap[D2]? = some (.deferred (some [])) ∧ Blk V2 Bp 82 #[.int .i64 (bAt s x.val : Int), .int .i64 (x.val : Int)]
def LInvD1 (s : ByteArray) (stop : Int) (w W1 W : World) (T R8 : Nat) (A : Option Addr) (c D D2 D3 : Nat) (Ds : List Nat) (base : Nat) (k : Nat) (a : Act) (V2 : World) : Prop :=
  ∃ u : Nat → Value, a = { tmps := #[Value.string s, Value.int .i64 stop, undef, Value.pointer (some ⟨w.heap.size, 0, none⟩), Value.pointer (some ⟨w.heap.size + 1, 0, none⟩), Value.pointer (some ⟨T, 0, none⟩), Value.bool false, Value.bool true, Value.pointer (some ⟨W1.heap.size, 0, none⟩), Value.func (.func 96) #[] #[.pointer (some ⟨W1.heap.size + 1, 0, none⟩)], Value.func (.func 97) #[] #[.pointer (some ⟨W1.heap.size + 1 + 1, 0, none⟩)], Value.func (.func 98) #[] #[.pointer (some ⟨W1.heap.size + 1 + 1 + 1, 0, none⟩)], Value.pointer (some ⟨R8, 0, none⟩), Value.pointer (some ⟨W.heap.size, 0, none⟩), u 14, u 15, u 16, u 17, u 18, u 19, u 20, u 21, u 22, u 23, u 24, u 25, u 26, u 27, u 28, u 29, u 30, u 31, u 32, u 33, u 34, u 35, u 36, u 37, u 38, u 39, u 40, u 41, u 42, u 43, u 44, u 45, u 46, u 47, u 48, u 49, u 50, u 51, u 52, Value.int .i64 1, Value.bool true, u 55, u 56, Value.func (.func 96) #[] #[.pointer (some ⟨W1.heap.size + 1, 0, none⟩)], u 58, u 59, u 60, u 61, u 62, u 63, u 64, u 65, u 66, u 67, u 68, u 69, u 70, u 71, u 72, u 73, u 74, u 75, u 76, u 77, u 78, u 79, u 80, u 81, u 82, u 83, u 84, u 85, u 86, u 87, u 88, u 89, u 90, u 91, u 92, u 93, u 94, u 95, u 96, u 97, u 98, u 99, u 100, u 101, u 102, u 103, Value.int .i64 1, Value.bool true, Value.bool true, Value.int .i64 (nS s : Int), Value.slice A (nS s) c, Value.int .i64 (nS s : Int), Value.bool false, Value.bool false, Value.slice A (nS s) c, Value.int .i64 (nS s : Int), Value.func (.func 97) #[] #[.pointer (some ⟨W1.heap.size + 1 + 1, 0, none⟩)], u 115, u 116, u 117, u 118, u 119, u 120, u 121, u 122, u 123, u 124, u 125, u 126, u 127, u 128, u 129, u 130, u 131, u 132, u 133, u 134, u 135, u 136, u 137, u 138, u 139, u 140, u 141, u 142, u 143, u 144, u 145, u 146, u 147, u 148, u 149, u 150, u 151, u 152, u 153, u 154, u 155, u 156, u 157, u 158, Value.int .i64 1, Value.bool true, Value.bool true, Value.int .i64 0, Value.bool false, Value.bool false, Value.func (.func 98) #[] #[.pointer (some ⟨W1.heap.size + 1 + 1 + 1, 0, none⟩)], u 166, u 167, u 168, u 169, u 170, u 171, u 172, u 173, u 174, u 175, u 176, u 177, u 178, u 179, u 180, u 181, u 182, u 183, u 184, u 185, u 186, u 187, u 188, u 189, u 190, u 191, u 192, u 193, u 194, u 195, u 196, u 197, u 198, u 199, u 200, u 201, u 202, u 203, u 204, u 205, u 206, u 207, u 208, u 209, u 210, u 211, u 212, u 213, u 214, u 215, u 216, u 217, u 218, u 219, u 220], defers := { target := .collected D3, args := #[] } :: { target := .collected D2, args := #[] } :: { target := .collected D, args := #[] } :: marks Ds } ∧ Below W.heap.size W V2 ∧ Blk V2 W.heap.size 3 #[.int .i64 ((base + k : Nat) : Int)] ∧ V2.heap[D]? = some (.deferred (some [])) ∧ V2.heap[D2]? = some (.deferred (some [])) ∧ V2.heap[D3]? = some (.deferred (some []))

set_option maxRecDepth 100000 in
set_option maxHeartbeats 8000000 in
theorem allU_long (s : ByteArray) (stop : Int) (w : World) (hs : s.size ≤ 9223372036854775807) (hm : 65536 < s.size) :
    Calls Tryd.prog 18 #[.string s, .int .i64 stop] w fun e w' => e = .returned (.bool true) ∧ Below w.heap.size w w' := by
  have HL := Lib.hid (fun w => begun_long s w hm hs)
  refine calls_of_marks 20 Tryd.func18 rfl ?_
  simp only [Tryd.ntmps18, List.size_toArray, List.length_cons, List.length_nil, Nat.reduceAdd, Nat.reduceSub, Array.replicate_succ, Array.replicate_zero, List.push_toArray, List.append_toArray, List.nil_append, List.cons_append]
  gi_wp2_with fail
  refine (callsIn_wide.2 (HL.out _)).mono ?_
  rintro e W1 ⟨rfl, hb1⟩
  have hB0 : Below w.heap.size w ((w.alloc (.cells #[.int .i64 stop] 3)).alloc (.cells #[.bool false] 4)) := ((Below.refl _ w).alloc (Nat.le_refl _) _).alloc (by simp) _
  have b1 := (Blk.new (w.alloc (.cells #[.int .i64 stop] 3)) 4 #[.bool false]).below hb1
  simp only [World.size_alloc] at b1
  have hB1 : Below w.heap.size w W1 := hB0.trans (hb1.mono (by simp; omega))
  have x1 := b1.cell 0
  have xf := b1.frozen 0
  clear hb1 hB0
  gi_wp2
  have g0 := (b1.set_ 0 (.bool true)).cell 0
  simp at g0
  refine leaves_marks [] _ List.nodup_nil (fun D hD => by simp at hD) (fun W' hB => ⟨.bool true, ?_, rfl, (hB1.setCell (by simp) _).trans (hB.below (fun D hD => by simp at hD))⟩)
  have g1 := ((b1.set_ 0 (.bool true)).of (hB.block _ (by simp))).cell 0
  simp at g1
  simp [results, Tryd.results18, go_sem, g1]

set_option maxRecDepth 100000 in
set_option maxHeartbeats 8000000 in
theorem allU_short (s : ByteArray) (stop : Int) (w : World) (hm : s.size ≤ 65536) (hst : -9223372036854775808 ≤ stop ∧ stop ≤ 9223372036854775807) (hT : Lib.Utf8Tabs 0 1 w) :
    Calls Tryd.prog 18 #[.string s, .int .i64 stop] w fun e w' => e = .returned (.bool true) ∧ Below w.heap.size w w' := by
  have hns := nS_le s
  have HL := Lib.hid (fun w => begun_ok s w hm)
  have HW := Lib.hid (fun w => Within_any stop 0 (nS s : Int) w (by omega) (by omega) (by omega) hst.1 hst.2)
  have HT := Lib.hid hT
  clear hT
  refine calls_of_marks 20 Tryd.func18 rfl ?_
  simp only [Tryd.ntmps18, List.size_toArray, List.length_cons, List.length_nil, Nat.reduceAdd, Nat.reduceSub, Array.replicate_succ, Array.replicate_zero, List.push_toArray, List.append_toArray, List.nil_append, List.cons_append]
  gi_wp2_with fail
  refine (callsIn_wide.2 (HL.out _)).mono ?_
  rintro e Wa ⟨⟨T, gb, cb, gl, cl, rfl, hTx⟩, hba⟩
  have a0 : Blk Wa w.heap.size 3 #[.int .i64 stop] := ((Blk.new w _ _).alloc _).below hba
  have a1 : Blk Wa (w.heap.size + 1) 4 #[.bool false] := by
    have h := (Blk.new (w.alloc (.cells #[.int .i64 stop] 3)) 4 #[.bool false]).below hba
    simp only [World.size_alloc] at h
    exact h
  have hBa : Below w.heap.size w Wa := (((Below.refl _ w).alloc (Nat.le_refl _) _).alloc (by simp) _).trans (hba.mono (by simp; omega))
  clear hba
  have HTx := Lib.hid hTx
  clear hTx
  gi_wp2_with fail
  refine (callsIn_wide.2 (Spots_is s _ (by omega))).mono ?_
  rintro e W1 ⟨⟨A, c, rfl, hA⟩, hb1⟩
  have b0 := a0.below hb1
  have b1 := a1.below hb1
  have hTx1 := HTx.out.below hb1
  have hB1 : Below w.heap.size w W1 := hBa.trans (hb1.mono hBa.size)
  clear hb1 a0 a1 hBa HTx
  have HTx := Lib.hid hTx1
  have HA := Lib.hid hA
  clear hTx1 hA
  have hn1 := fun f b W => seq_ne_nil2 f b W
  have hn2 := fun f b W => seq_ne_nil3 f b W
  obtain ⟨W3, hW3⟩ : ∃ W3, (((W1.alloc (.cells #[.slice A (nS s) c] 22)).alloc (.cells #[.pointer (some ⟨T, 0, none⟩)] 76)).alloc (.cells #[.pointer (some ⟨T, 0, none⟩)] 76)).alloc (.cells #[.pointer (some ⟨T, 0, none⟩)] 76) = W3 := ⟨_, rfl⟩
  have h13 : Below W1.heap.size W1 W3 := by rw [← hW3]; exact ((((Below.refl _ W1).alloc (Nat.le_refl _) _).alloc (by simp) _).alloc (by simp; omega) _).alloc (by simp; omega) _
  have b2 : Blk W3 W1.heap.size 22 #[.slice A (nS s) c] := by rw [← hW3]; exact (((Blk.new W1 _ _).alloc _).alloc _).alloc _
  have b3 : Blk W3 (W1.heap.size + 1) 76 #[.pointer (some ⟨T, 0, none⟩)] := by
    rw [← hW3]; have h := ((Blk.new (W1.alloc (.cells #[.slice A (nS s) c] 22)) 76 #[.pointer (some ⟨T, 0, none⟩)]).alloc (.cells #[.pointer (some ⟨T, 0, none⟩)] 76)).alloc (.cells #[.pointer (some ⟨T, 0, none⟩)] 76); simp only [World.size_alloc] at h; exact h
  have b4 : Blk W3 (W1.heap.size + 1 + 1) 76 #[.pointer (some ⟨T, 0, none⟩)] := by
    rw [← hW3]; have h := (Blk.new ((W1.alloc (.cells #[.slice A (nS s) c] 22)).alloc (.cells #[.pointer (some ⟨T, 0, none⟩)] 76)) 76 #[.pointer (some ⟨T, 0, none⟩)]).alloc (.cells #[.pointer (some ⟨T, 0, none⟩)] 76); simp only [World.size_alloc] at h; exact h
  have b5 : Blk W3 (W1.heap.size + 1 + 1 + 1) 76 #[.pointer (some ⟨T, 0, none⟩)] := by
    rw [← hW3]; have h := Blk.new (((W1.alloc (.cells #[.slice A (nS s) c] 22)).alloc (.cells #[.pointer (some ⟨T, 0, none⟩)] 76)).alloc (.cells #[.pointer (some ⟨T, 0, none⟩)] 76)) 76 #[.pointer (some ⟨T, 0, none⟩)]; simp only [World.size_alloc] at h; exact h
  have y0 := (b0.below h13).cell 0
  have f0 := (b0.below h13).frozen 0
  have y2 := b2.cell 0
  simp only [List.getElem?_toArray, List.getElem?_cons_zero] at y0 y2
  rw [← hW3] at y0 f0 y2
  have HW3 := Lib.hid hW3
  clear hW3
  gi_wp2_with (first
    | (gi_at_call 74; refine (callsIn_wide.2 (All_val T _)).mono ?_; rintro e w' ⟨rfl, rfl⟩)
    | (gi_at_call 75; refine (callsIn_wide.2 (TBack_val T _)).mono ?_; rintro e w' ⟨rfl, rfl⟩)
    | (gi_at_call 76; refine (callsIn_wide.2 (Bads_val T _)).mono ?_; rintro e w' ⟨rfl, rfl⟩)
    | (gi_at_call 68; refine (callsIn_wide.2 (HW.out _)).mono ?_; unfold InRange; rintro e w4 ⟨st, st1, st2, rfl, rfl⟩))
  rw [HW3.out]
  have hRU : RUA s w T gb cb W1.heap.size A c st W3.heap.size ((0 : Nat) : Int) [] ((W3.setCell ⟨w.heap.size, 0, none⟩ (.int .i64 st)).alloc (.cells #[.int .i64 0] 3)) :=
    RUA.first HTx.out HA.out b0 b1 hB1 h13 b2 b3 b4 b5 st
  have hz3 : W3.heap.size = W1.heap.size + 1 + 1 + 1 + 1 := by rw [← HW3.out]; simp
  clear b0 b1 b2 b3 b4 b5 y0 f0 y2 HA HW HTx hB1 h13 HL hn1 hn2 HW3
  refine wpIn_loop_rounds 3 (rounds_of (RInvA s stop w T gb cb W1.heap.size A c st) 2 0 _ _ ?h0 ?step ?last)
  case h0 =>
    rw [← hz3]
    exact ⟨W3.heap.size, [], ofL [undef, undef, undef, undef, undef, undef, undef, undef, undef, undef, undef, undef, undef, _, _, _, _, _, _, _, _, _, _, _, _, _, _, _, _, _, _, _, _, _, _, _, _, _, _, _, _, _, _, _, _, _, _, _, _, _, _, _, _, _, _, _, _, _, _, _, _, _, _, _, _, _, _, _, _, _, _, _, _, _, _, _, _, _, _, _, _, _, _, _, _, _, _, _, _, _, _, _, _, _, _, _, _, _, _, _, _, _, _, _, _, _, _, _, _, _, _, _, _, _, _, _, _, _, _, _, _, _, _, _, _, _, _, _, _, _, _, _, _, _, _, _, _, _, _, _, _, _, _, _, _, _, _, _, _, _, _, _, _, _, _, _, _, _, _, _, _, _, _, _, _, _, _, _, _, _, _, _, _, _, _, _, _, _, _, _, _, _, _, _, _, _, _, _, _, _, _, _, _, _, _, _, _, _, _, _, _, _, _, _, _, _, _, _, _, _, _, _, _, _, _, _, _, _, _, _, _], rfl, hRU⟩
  case last =>
    rintro a W ⟨R8, Ds, u, rfl, hR⟩
    have r0 := hR.rnd.cell 0
    simp only [List.getElem?_toArray, List.getElem?_cons_zero] at r0
    replace r0 : W.cell? ⟨R8, 0, none⟩ = some (.int .i64 2) := r0
    have e0 := hR.res.cell 0
    have ef := hR.res.frozen 0
    have hfr := hR.far
    have h2 : ¬ (w.heap.size + 1) ∈ Ds := fun hD => by have := hfr.2.2 _ hD; omega
    gi_wp2
    refine leaves_marks Ds _ hR.nd (fun D hD => (Below.heap_setCell _ _ _ _ (show D ≠ w.heap.size + 1 from fun e => h2 (e ▸ hD))).trans (hR.ds D hD)) (fun W' hB => ⟨.bool true, ?_, rfl, ?_⟩)
    · have g0 := ((hR.res.set_ 0 (.bool true)).of (hB.block _ h2)).cell 0
      simp at g0
      simp [results, Tryd.results18, go_sem, g0]
    · exact (hR.below.setCell (by simp) _).trans ((hB.below (fun D hD => by have := hfr.2.2 _ hD; omega)))
  case step =>
    rintro j a W - hj ⟨R8, Ds, u, rfl, hR⟩
    clear hRU hz3
    have hj2 : j = 0 ∨ j = 1 := by omega
    rcases hj2 with rfl | rfl
    · have r0 := hR.rnd.cell 0
      simp only [List.getElem?_toArray, List.getElem?_cons_zero] at r0
      replace r0 : W.cell? ⟨R8, 0, none⟩ = some (.int .i64 0) := r0
      gi_wp2
      rename_i Kc hKc Kb hKb Ka hKa
      have HA1 : ∀ (D m : Nat) (W' : World), Below W.heap.size W W' → Blk W' W.heap.size 3 #[.int .i64 (m : Int)] → W'.heap[D]? = some (.deferred (some [])) → W.heap.size + 1 ≤ D → m ≤ nS s → (0 = 1 → m = nS s) →
          Ka { tmps := #[Value.string s, Value.int .i64 stop, undef, Value.pointer (some ⟨w.heap.size, 0, none⟩), Value.pointer (some ⟨w.heap.size + 1, 0, none⟩), Value.pointer (some ⟨T, 0, none⟩), Value.bool false, Value.bool true, Value.pointer (some ⟨W1.heap.size, 0, none⟩), Value.func (.func 96) #[] #[.pointer (some ⟨W1.heap.size + 1, 0, none⟩)], Value.func (.func 97) #[] #[.pointer (some ⟨W1.heap.size + 1 + 1, 0, none⟩)], Value.func (.func 98) #[] #[.pointer (some ⟨W1.heap.size + 1 + 1 + 1, 0, none⟩)], Value.pointer (some ⟨R8, 0, none⟩), Value.pointer (some ⟨W.heap.size, 0, none⟩), u 14, u 15, u 16, u 17, u 18, u 19, u 20, u 21, u 22, u 23, u 24, u 25, u 26, u 27, u 28, u 29, u 30, u 31, u 32, u 33, u 34, u 35, u 36, u 37, u 38, u 39, u 40, u 41, u 42, u 43, u 44, u 45, u 46, u 47, u 48, u 49, u 50, u 51, u 52, Value.int .i64 0, Value.bool true, u 55, u 56, Value.func (.func 96) #[] #[.pointer (some ⟨W1.heap.size + 1, 0, none⟩)], u 58, u 59, u 60, u 61, u 62, u 63, u 64, u 65, u 66, u 67, u 68, u 69, u 70, u 71, u 72, u 73, u 74, u 75, u 76, u 77, u 78, u 79, u 80, u 81, u 82, u 83, u 84, u 85, u 86, u 87, u 88, u 89, u 90, u 91, u 92, u 93, u 94, u 95, u 96, u 97, u 98, u 99, u 100, u 101, u 102, u 103, u 104, u 105, u 106, u 107, u 108, u 109, u 110, u 111, u 112, u 113, u 114, u 115, u 116, u 117, u 118, u 119, u 120, u 121, u 122, u 123, u 124, u 125, u 126, u 127, u 128, u 129, u 130, u 131, u 132, u 133, u 134, u 135, u 136, u 137, u 138, u 139, u 140, u 141, u 142, u 143, u 144, u 145, u 146, u 147, u 148, u 149, u 150, u 151, u 152, u 153, u 154, u 155, u 156, u 157, u 158, u 159, u 160, u 161, u 162, u 163, u 164, u 165, u 166, u 167, u 168, u 169, u 170, u 171, u 172, u 173, u 174, u 175, u 176, u 177, u 178, u 179, u 180, u 181, u 182, u 183, u 184, u 185, u 186, u 187, u 188, u 189, u 190, u 191, u 192, u 193, u 194, u 195, u 196, u 197, u 198, u 199, u 200, u 201, u 202, u 203, u 204, u 205, u 206, u 207, u 208, u 209, u 210, u 211, u 212, u 213, u 214, u 215, u 216, u 217, u 218, u 219, u 220], defers := { target := .collected D, args := #[] } :: marks Ds } W' := by
        intro D m W' hb hN hD hD1 hm1 hj1
        have hRV := hR.step hb
        have lt1 := hR.rnd.lt
        have lt2 := hR.l.lt
        have ne1 : ¬ R8 = W.heap.size := by omega
        have ne2 : ¬ W1.heap.size = W.heap.size := by omega
        have r8 := hRV.rnd.cell 0
        have l8 := hRV.l.cell 0
        have n8 := hN.cell 0
        have nf := hN.frozen 0
        simp only [List.getElem?_toArray, List.getElem?_cons_zero] at r8 l8 n8
        replace r8 : W'.cell? ⟨R8, 0, none⟩ = some (.int .i64 0) := r8
        refine hKa _ _ ?_
        gi_wp2
        rename_i Kd hKd
        have HB1 : ∀ (D2 m2 : Nat) (V' : World), Below W.heap.size W V' → Blk V' W.heap.size 3 #[.int .i64 (m2 : Int)] → V'.heap[D2]? = some (.deferred (some [])) → V'.heap[D]? = some (.deferred (some [])) → D < D2 → (0 = 1 → m2 = 0) →
            Kd { tmps := #[Value.string s, Value.int .i64 stop, undef, Value.pointer (some ⟨w.heap.size, 0, none⟩), Value.pointer (some ⟨w.heap.size + 1, 0, none⟩), Value.pointer (some ⟨T, 0, none⟩), Value.bool false, Value.bool true, Value.pointer (some ⟨W1.heap.size, 0, none⟩), Value.func (.func 96) #[] #[.pointer (some ⟨W1.heap.size + 1, 0, none⟩)], Value.func (.func 97) #[] #[.pointer (some ⟨W1.heap.size + 1 + 1, 0, none⟩)], Value.func (.func 98) #[] #[.pointer (some ⟨W1.heap.size + 1 + 1 + 1, 0, none⟩)], Value.pointer (some ⟨R8, 0, none⟩), Value.pointer (some ⟨W.heap.size, 0, none⟩), u 14, u 15, u 16, u 17, u 18, u 19, u 20, u 21, u 22, u 23, u 24, u 25, u 26, u 27, u 28, u 29, u 30, u 31, u 32, u 33, u 34, u 35, u 36, u 37, u 38, u 39, u 40, u 41, u 42, u 43, u 44, u 45, u 46, u 47, u 48, u 49, u 50, u 51, u 52, Value.int .i64 0, Value.bool true, u 55, u 56, Value.func (.func 96) #[] #[.pointer (some ⟨W1.heap.size + 1, 0, none⟩)], u 58, u 59, u 60, u 61, u 62, u 63, u 64, u 65, u 66, u 67, u 68, u 69, u 70, u 71, u 72, u 73, u 74, u 75, u 76, u 77, u 78, u 79, u 80, u 81, u 82, u 83, u 84, u 85, u 86, u 87, u 88, u 89, u 90, u 91, u 92, u 93, u 94, u 95, u 96, u 97, u 98, u 99, u 100, u 101, u 102, u 103, Value.int .i64 0, Value.bool false, Value.bool false, undef, undef, undef, undef, Value.bool false, Value.slice A (nS s) c, Value.int .i64 (nS s : Int), Value.func (.func 97) #[] #[.pointer (some ⟨W1.heap.size + 1 + 1, 0, none⟩)], u 115, u 116, u 117, u 118, u 119, u 120, u 121, u 122, u 123, u 124, u 125, u 126, u 127, u 128, u 129, u 130, u 131, u 132, u 133, u 134, u 135, u 136, u 137, u 138, u 139, u 140, u 141, u 142, u 143, u 144, u 145, u 146, u 147, u 148, u 149, u 150, u 151, u 152, u 153, u 154, u 155, u 156, u 157, u 158, u 159, u 160, u 161, u 162, u 163, u 164, u 165, u 166, u 167, u 168, u 169, u 170, u 171, u 172, u 173, u 174, u 175, u 176, u 177, u 178, u 179, u 180, u 181, u 182, u 183, u 184, u 185, u 186, u 187, u 188, u 189, u 190, u 191, u 192, u 193, u 194, u 195, u 196, u 197, u 198, u 199, u 200, u 201, u 202, u 203, u 204, u 205, u 206, u 207, u 208, u 209, u 210, u 211, u 212, u 213, u 214, u 215, u 216, u 217, u 218, u 219, u 220], defers := { target := .collected D2, args := #[] } :: { target := .collected D, args := #[] } :: marks Ds } V' := by
          intro D2 m2 V' hb' hN' hD2 hDV hDD hj1'
          have hRV' := hR.step hb'
          have r8' := hRV'.rnd.cell 0
          have n8' := hN'.cell 0
          have nf' := hN'.frozen 0
          simp only [List.getElem?_toArray, List.getElem?_cons_zero] at r8' n8'
          replace r8' : V'.cell? ⟨R8, 0, none⟩ = some (.int .i64 0) := r8'
          have qV := hb'.size
          have hfr := hR.far
          clear r8 l8 n8 nf hRV
          refine hKd _ _ ?_
          gi_wp2
          rename_i Ke hKe
          have HC1 : ∀ (D3 m3 : Nat) (V3 : World), Below W.heap.size W V3 → Blk V3 W.heap.size 3 #[.int .i64 (m3 : Int)] → V3.heap[D3]? = some (.deferred (some [])) → V3.heap[D2]? = some (.deferred (some [])) → V3.heap[D]? = some (.deferred (some [])) → D2 < D3 → m3 ≤ nS s → (0 = 1 → ∀ i, m3 ≤ i → i < nS s → (spA s i).bad = false) →
              Ke { tmps := #[Value.string s, Value.int .i64 stop, undef, Value.pointer (some ⟨w.heap.size, 0, none⟩), Value.pointer (some ⟨w.heap.size + 1, 0, none⟩), Value.pointer (some ⟨T, 0, none⟩), Value.bool false, Value.bool true, Value.pointer (some ⟨W1.heap.size, 0, none⟩), Value.func (.func 96) #[] #[.pointer (some ⟨W1.heap.size + 1, 0, none⟩)], Value.func (.func 97) #[] #[.pointer (some ⟨W1.heap.size + 1 + 1, 0, none⟩)], Value.func (.func 98) #[] #[.pointer (some ⟨W1.heap.size + 1 + 1 + 1, 0, none⟩)], Value.pointer (some ⟨R8, 0, none⟩), Value.pointer (some ⟨W.heap.size, 0, none⟩), u 14, u 15, u 16, u 17, u 18, u 19, u 20, u 21, u 22, u 23, u 24, u 25, u 26, u 27, u 28, u 29, u 30, u 31, u 32, u 33, u 34, u 35, u 36, u 37, u 38, u 39, u 40, u 41, u 42, u 43, u 44, u 45, u 46, u 47, u 48, u 49, u 50, u 51, u 52, Value.int .i64 0, Value.bool true, u 55, u 56, Value.func (.func 96) #[] #[.pointer (some ⟨W1.heap.size + 1, 0, none⟩)], u 58, u 59, u 60, u 61, u 62, u 63, u 64, u 65, u 66, u 67, u 68, u 69, u 70, u 71, u 72, u 73, u 74, u 75, u 76, u 77, u 78, u 79, u 80, u 81, u 82, u 83, u 84, u 85, u 86, u 87, u 88, u 89, u 90, u 91, u 92, u 93, u 94, u 95, u 96, u 97, u 98, u 99, u 100, u 101, u 102, u 103, Value.int .i64 0, Value.bool false, Value.bool false, undef, undef, undef, undef, Value.bool false, Value.slice A (nS s) c, Value.int .i64 (nS s : Int), Value.func (.func 97) #[] #[.pointer (some ⟨W1.heap.size + 1 + 1, 0, none⟩)], u 115, u 116, u 117, u 118, u 119, u 120, u 121, u 122, u 123, u 124, u 125, u 126, u 127, u 128, u 129, u 130, u 131, u 132, u 133, u 134, u 135, u 136, u 137, u 138, u 139, u 140, u 141, u 142, u 143, u 144, u 145, u 146, u 147, u 148, u 149, u 150, u 151, u 152, u 153, u 154, u 155, u 156, u 157, u 158, Value.int .i64 0, Value.bool false, Value.bool false, undef, undef, Value.bool false, Value.func (.func 98) #[] #[.pointer (some ⟨W1.heap.size + 1 + 1 + 1, 0, none⟩)], u 166, u 167, u 168, u 169, u 170, u 171, u 172, u 173, u 174, u 175, u 176, u 177, u 178, u 179, u 180, u 181, u 182, u 183, u 184, u 185, u 186, u 187, u 188, u 189, u 190, u 191, u 192, u 193, u 194, u 195, u 196, u 197, u 198, u 199, u 200, u 201, u 202, u 203, u 204, u 205, u 206, u 207, u 208, u 209, u 210, u 211, u 212, u 213, u 214, u 215, u 216, u 217, u 218, u 219, u 220], defers := { target := .collected D3, args := #[] } :: { target := .collected D2, args := #[] } :: { target := .collected D, args := #[] } :: marks Ds } V3 := by
            intro D3 m3 V3 hb3 hN3 hD3 hD23 hDV3 hDD3 hm3 hgap
            clear n8' r8' nf' hRV'
            refine hKe _ _ ?_
            gi_wp2
            refine wpIn_loop_rounds (0 + 1) (rounds_of (LInvD0 s stop w W1 W T R8 A c D D2 D3 Ds m3) 0 0 _ _ ?h0 ?step ?last)
            case h0 => exact ⟨ofL [undef, undef, undef, undef, undef, undef, undef, undef, undef, undef, undef, undef, undef, undef, _, _, _, _, _, _, _, _, _, _, _, _, _, _, _, _, _, _, _, _, _, _, _, _, _, _, _, _, _, _, _, _, _, _, _, _, _, _, _, undef, undef, _, _, undef, _, _, _, _, _, _, _, _, _, _, _, _, _, _, _, _, _, _, _, _, _, _, _, _, _, _, _, _, _, _, _, _, _, _, _, _, _, _, _, _, _, _, _, _, _, _, undef, undef, undef, undef, undef, undef, undef, undef, undef, undef, undef, _, _, _, _, _, _, _, _, _, _, _, _, _, _, _, _, _, _, _, _, _, _, _, _, _, _, _, _, _, _, _, _, _, _, _, _, _, _, _, _, _, _, _, _, undef, undef, undef, undef, undef, undef, undef, _, _, _, _, _, _, _, _, _, _, _, _, _, _, _, _, _, _, _, _, _, _, _, _, _, _, _, _, _, _, _, _, _, _, _, _, _, _, _, _, _, _, _, _, _, _, _, _, _, _, _, _, _, _, _], rfl, hb3, hN3, hDV3, hD23, hD3⟩
            case step =>
              rintro k a V4 - hk ⟨u2, rfl, h1', h2', h3', h4', h5'⟩
              omega
            case last =>
              rintro a V4 ⟨u2, rfl, h1', h2', h3', h4', h5'⟩
              have hRV := hR.step h1'
              have r0 := hRV.rnd.cell 0
              simp only [List.getElem?_toArray, List.getElem?_cons_zero] at r0
              replace r0 : V4.cell? ⟨R8, 0, none⟩ = some (.int .i64 0) := r0
              have Hn := Lib.hid (fun r' => hR.next h1' h3' h4' h5' (by omega) hDD hDD3 r')
              clear h1' h2' h3' h4' h5' hRV hb3 hN3 hD3 hD23 hDV3 hgap
              gi_wp2
              exact ⟨V4.heap.size, D3 :: D2 :: D :: Ds, ofL [undef, undef, undef, undef, undef, undef, undef, undef, undef, undef, undef, undef, undef, _, _, _, _, _, _, _, _, _, _, _, _, _, _, _, _, _, _, _, _, _, _, _, _, _, _, _, _, _, _, _, _, _, _, _, _, _, _, _, _, _, _, _, _, _, _, _, _, _, _, _, _, _, _, _, _, _, _, _, _, _, _, _, _, _, _, _, _, _, _, _, _, _, _, _, _, _, _, _, _, _, _, _, _, _, _, _, _, _, _, _, _, _, _, _, _, _, _, _, _, _, _, _, _, _, _, _, _, _, _, _, _, _, _, _, _, _, _, _, _, _, _, _, _, _, _, _, _, _, _, _, _, _, _, _, _, _, _, _, _, _, _, _, _, _, _, _, _, _, _, _, _, _, _, _, _, _, _, _, _, _, _, _, _, _, _, _, _, _, _, _, _, _, _, _, _, _, _, _, _, _, _, _, _, _, _, _, _, _, _, _, _, _, _, _, _, _, _, _, _, _, _, _, _, _, _, _, _], rfl, Hn.out _⟩
          have hq0 := lt_of_cell (HT.out.2 0 (by omega)).1
          have hlb := hR.b3.lt
          have hlw := hR.sto.lt
          have hsW := hb'.size
          have lD := (Array.getElem?_eq_some_iff.1 hDV).1
          have lD2 := (Array.getElem?_eq_some_iff.1 hD2).1
          obtain ⟨WS3, hWS3⟩ : ∃ WS3, V'.setCell ⟨W.heap.size, 0, none⟩ (.int .i64 0) = WS3 := ⟨_, rfl⟩
          have hz3 : WS3.heap.size = V'.heap.size := by rw [← hWS3]; simp [World.setCell]
          have hB3 : Below W.heap.size W WS3 := by rw [← hWS3]; exact hb'.setCell (Nat.le_refl _) _
          have hN3 : Blk WS3 W.heap.size 3 #[.int .i64 0] := by rw [← hWS3]; exact hN'.set_ 0 _
          have hDS3 : WS3.heap[D]? = some (.deferred (some [])) := by rw [← hWS3]; exact (Below.heap_setCell _ _ _ _ (show D ≠ W.heap.size by omega)).trans hDV
          have hDS32 : WS3.heap[D2]? = some (.deferred (some [])) := by rw [← hWS3]; exact (Below.heap_setCell _ _ _ _ (show D2 ≠ W.heap.size by omega)).trans hD2
          have hR3 := hR.step hB3
          rw [hWS3]
          clear hWS3 r8' n8' nf' hRV'
          refine wpIn_rangeFunc_ownB rfl (by omega) (gf := 98) (lb := #[.pointer (some ⟨W1.heap.size + 1 + 1 + 1, 0, none⟩)]) rfl trivial (enters_of Tryd.func98 (by kernel_rfl) rfl)
            (A := fun k => k = W.heap.size) (fun k hk => by omega)
            (bads_B s T (W1.heap.size + 1 + 1 + 1) (fun k => k = W.heap.size) WS3 (fun k hk => by omega) hR3.b3 hR3.t0 (20 - 1) (by omega) hm) (Below.refl _ _) (fun _ => rfl)
            (fun pre V => Below W.heap.size W V ∧ Blk V W.heap.size 3 #[.int .i64 (nxt pre : Int)] ∧ V.heap[D]? = some (.deferred (some [])) ∧ V.heap[D2]? = some (.deferred (some []))) (fun c pre V => c = .exit 6 ∧ 0 = 0 ∧ Below W.heap.size W V ∧ Blk V W.heap.size 3 #[.int .i64 (nxt pre : Int)] ∧ V.heap[D]? = some (.deferred (some [])) ∧ V.heap[D2]? = some (.deferred (some [])))
            ?ownc1 ?ownc2 ⟨hB3, hN3, hDS3, hDS32⟩
            (fun x a' V => ∃ Bp, W.heap.size < Bp ∧ Blk V Bp 82 #[.int .i64 (bAt s x.val : Int), .int .i64 (x.val : Int)] ∧ a' = { tmps := #[Value.string s, Value.int .i64 stop, undef, Value.pointer (some ⟨w.heap.size, 0, none⟩), Value.pointer (some ⟨w.heap.size + 1, 0, none⟩), Value.pointer (some ⟨T, 0, none⟩), Value.bool false, Value.bool true, Value.pointer (some ⟨W1.heap.size, 0, none⟩), Value.func (.func 96) #[] #[.pointer (some ⟨W1.heap.size + 1, 0, none⟩)], Value.func (.func 97) #[] #[.pointer (some ⟨W1.heap.size + 1 + 1, 0, none⟩)], Value.func (.func 98) #[] #[.pointer (some ⟨W1.heap.size + 1 + 1 + 1, 0, none⟩)], Value.pointer (some ⟨R8, 0, none⟩), Value.pointer (some ⟨W.heap.size, 0, none⟩), u 14, u 15, u 16, u 17, Value.pointer (some ⟨Bp, 0, none⟩), u 19, u 20, u 21, u 22, u 23, u 24, u 25, u 26, u 27, u 28, u 29, u 30, u 31, u 32, u 33, u 34, u 35, u 36, u 37, u 38, u 39, u 40, u 41, u 42, u 43, u 44, u 45, u 46, u 47, u 48, u 49, u 50, u 51, u 52, Value.int .i64 0, Value.bool true, u 55, u 56, Value.func (.func 96) #[] #[.pointer (some ⟨W1.heap.size + 1, 0, none⟩)], u 58, u 59, u 60, u 61, u 62, u 63, u 64, u 65, u 66, u 67, u 68, u 69, u 70, u 71, u 72, u 73, u 74, u 75, u 76, u 77, u 78, u 79, u 80, u 81, u 82, u 83, u 84, u 85, u 86, u 87, u 88, u 89, u 90, u 91, u 92, u 93, u 94, u 95, u 96, u 97, u 98, u 99, u 100, u 101, u 102, u 103, Value.int .i64 0, Value.bool false, Value.bool false, undef, undef, undef, undef, Value.bool false, Value.slice A (nS s) c, Value.int .i64 (nS s : Int), Value.func (.func 97) #[] #[.pointer (some ⟨W1.heap.size + 1 + 1, 0, none⟩)], u 115, u 116, u 117, u 118, u 119, u 120, u 121, u 122, u 123, u 124, u 125, u 126, u 127, u 128, u 129, u 130, u 131, u 132, u 133, u 134, u 135, u 136, u 137, u 138, u 139, u 140, u 141, u 142, u 143, u 144, u 145, u 146, u 147, u 148, u 149, u 150, u 151, u 152, u 153, u 154, u 155, u 156, u 157, u 158, Value.int .i64 0, Value.bool false, Value.bool false, undef, undef, Value.bool false, Value.func (.func 98) #[] #[.pointer (some ⟨W1.heap.size + 1 + 1 + 1, 0, none⟩)], Value.agg #[.int .i64 (bAt s x.val : Int), .int .i64 (x.val : Int)], u 167, u 168, u 169, u 170, u 171, u 172, u 173, u 174, u 175, u 176, u 177, u 178, u 179, u 180, u 181, u 182, u 183, u 184, u 185, u 186, u 187, u 188, u 189, u 190, u 191, u 192, u 193, u 194, u 195, u 196, u 197, u 198, u 199, u 200, u 201, u 202, u 203, u 204, u 205, u 206, u 207, u 208, u 209, u 210, u 211, u 212, u 213, u 214, u 215, u 216, u 217, u 218, u 219, u 220], defers := [] })
            (fun x a' _ X Y row hs hg hr => by obtain ⟨Bp, h1, h3, h5⟩ := hs; exact ⟨Bp, h1, blk_own h3 hg hr, h5⟩)
            ?assignc ?bodyc ?donec ?stopc
          case ownc1 =>
            rintro pre V V' ⟨h1, h2, h3, h4⟩ hb
            exact ⟨h1.trans (hb.mono (by omega)), h2.of (hb.block _ (by omega)), (hb.block _ (by omega)).trans h3, (hb.block _ (by omega)).trans h4⟩
          case ownc2 =>
            rintro cc pre V V' ⟨h0, h4, h1, h2, h3, h5⟩ hb
            exact ⟨h0, h4, h1.trans (hb.mono (by omega)), h2.of (hb.block _ (by omega)), (hb.block _ (by omega)).trans h3, (hb.block _ (by omega)).trans h5⟩
          case assignc =>
            rintro l pre x V K ⟨h1, h2, h3, h4⟩ hz hK
            have hlt := h2.lt
            gi_wp2
            have hb1 : Below V.heap.size V (V.alloc (.cells #[.int .i64 (bAt s x.val : Int), .int .i64 (x.val : Int)] 82)) := (Below.refl _ V).alloc (Nat.le_refl _) _
            exact hK _ _ (Only.below hb1) ⟨h1.trans (hb1.mono h1.size), h2.below hb1, (hb1.block _ (Array.getElem?_eq_some_iff.1 h3).1).trans h3, (hb1.block _ (Array.getElem?_eq_some_iff.1 h4).1).trans h4⟩ ⟨V.heap.size, hlt, Blk.new V _ _, rfl⟩
          case bodyc =>
            rintro l pre x a' V hl ⟨r, hr⟩ ⟨h1, h2, h3, h4⟩ ⟨Bp, hBp, bP, rfl⟩ ⟨k, hk, hpre⟩ hlt
            obtain ⟨hbad, hle1, hgap⟩ := bads_next hk hpre
            clear hpre hk
            have hxl := x.isLt
            gi_wp2
            refine wpIn_loop_rounds (x.val - nxt pre + 1) (rounds_of (LInvC0 s stop w W1 W T R8 A c Bp D D2 (nxt pre) x V) (x.val - nxt pre) 0 _ _ ?h0 ?step ?last)
            case h0 => exact ⟨ofL [undef, undef, undef, undef, undef, undef, undef, undef, undef, undef, undef, undef, undef, undef, _, _, _, _, undef, _, _, _, _, _, _, _, _, _, _, _, _, _, _, _, _, _, _, _, _, _, _, _, _, _, _, _, _, _, _, _, _, _, _, undef, undef, _, _, undef, _, _, _, _, _, _, _, _, _, _, _, _, _, _, _, _, _, _, _, _, _, _, _, _, _, _, _, _, _, _, _, _, _, _, _, _, _, _, _, _, _, _, _, _, _, _, undef, undef, undef, undef, undef, undef, undef, undef, undef, undef, undef, _, _, _, _, _, _, _, _, _, _, _, _, _, _, _, _, _, _, _, _, _, _, _, _, _, _, _, _, _, _, _, _, _, _, _, _, _, _, _, _, _, _, _, _, undef, undef, undef, undef, undef, undef, undef, undef, _, _, _, _, _, _, _, _, _, _, _, _, _, _, _, _, _, _, _, _, _, _, _, _, _, _, _, _, _, _, _, _, _, _, _, _, _, _, _, _, _, _, _, _, _, _, _, _, _, _, _, _, _, _], rfl, Only.refl _ _, h1, h2, h3, h4, bP⟩
            case step =>
              rintro k a V2 - hk ⟨u2, rfl, ho, h1', h2', h3', h4', bP'⟩
              have hRV := hR.step h1'
              obtain ⟨m, hm⟩ : ∃ m, nxt pre + k = m := ⟨_, rfl⟩
              have hmn : m < nS s := by omega
              have hm1 : nxt pre + (k + 1) = m + 1 := by omega
              rw [hm] at h2'
              obtain ⟨g, y, eA, hg, hy, hyp, _, y0, y1, y2, y3⟩ := hRV.row.at m hmn
              obtain rfl : spA s m = y := spA_eq hy
              rw [hgap m (by omega) (by omega)] at y3
              have n0 := h2'.cell 0
              have nf := h2'.frozen 0
              have l0 := hRV.l.cell 0
              rw [eA] at l0
              simp only [List.getElem?_toArray, List.getElem?_cons_zero] at n0 l0
              have k0 : (0 : Int) ≤ (m : Int) := by omega
              have k1 : (m : Int) < (nS s : Int) := by omega
              have hpl : (m : Int) < 9223372036854775807 := by omega
              have lDV := (Array.getElem?_eq_some_iff.1 h3').1
              have lDV2 := (Array.getElem?_eq_some_iff.1 h4').1
              have f1 := ho.trans (Only.setCell V2 W.heap.size 0 (.int .i64 ((m : Int) + 1)) rfl)
              have f2 := h1'.setCell (p := ⟨W.heap.size, 0, none⟩) (Nat.le_refl _) (.int .i64 ((m : Int) + 1))
              have f3 := h2'.set_ 0 (.int .i64 ((m : Int) + 1))
              have f4 := (Below.heap_setCell V2 ⟨W.heap.size, 0, none⟩ (.int .i64 ((m : Int) + 1)) D (show D ≠ W.heap.size by omega)).trans h3'
              have f5 := (Below.heap_setCell V2 ⟨W.heap.size, 0, none⟩ (.int .i64 ((m : Int) + 1)) D2 (show D2 ≠ W.heap.size by omega)).trans h4'
              have f6 := bP'.of (Below.heap_setCell V2 ⟨W.heap.size, 0, none⟩ (.int .i64 ((m : Int) + 1)) Bp (show Bp ≠ W.heap.size by omega))
              have F1 := Lib.hid f1
              have F2 := Lib.hid f2
              have F3 := Lib.hid f3
              have F4 := Lib.hid f4
              have F5 := Lib.hid f5
              have F6 := Lib.hid f6
              clear f1 f2 f3 f4 f5 f6 h1' h2' h3' h4' bP' ho hRV hy hyp eA y0 y1 y2 h1 h2 h3 h4 bP hm
              gi_wp2
              refine ⟨ofL [undef, undef, undef, undef, undef, undef, undef, undef, undef, undef, undef, undef, undef, undef, _, _, _, _, undef, _, _, _, _, _, _, _, _, _, _, _, _, _, _, _, _, _, _, _, _, _, _, _, _, _, _, _, _, _, _, _, _, _, _, undef, undef, _, _, undef, _, _, _, _, _, _, _, _, _, _, _, _, _, _, _, _, _, _, _, _, _, _, _, _, _, _, _, _, _, _, _, _, _, _, _, _, _, _, _, _, _, _, _, _, _, _, undef, undef, undef, undef, undef, undef, undef, undef, undef, undef, undef, _, _, _, _, _, _, _, _, _, _, _, _, _, _, _, _, _, _, _, _, _, _, _, _, _, _, _, _, _, _, _, _, _, _, _, _, _, _, _, _, _, _, _, _, undef, undef, undef, undef, undef, undef, undef, undef, _, _, _, _, _, _, _, _, _, _, _, _, _, _, _, _, _, _, _, _, _, _, _, _, _, _, _, _, _, _, _, _, _, _, _, _, _, _, _, _, _, _, _, _, _, _, _, _, _, _, _, _, _, _], rfl, F1.out, F2.out, ?_, F4.out, F5.out, F6.out⟩
              rw [hm1]
              exact F3.out
            case last =>
              rintro a V2 ⟨u2, rfl, ho, h1', h2', h3', h4', bP'⟩
              have hRV := hR.step h1'
              obtain ⟨m, hm⟩ : ∃ m, x.val = m := ⟨_, rfl⟩
              rw [show nxt pre + (0 + (x.val - nxt pre)) = m by omega] at h2'
              simp only [hm] at hbad bP' hxl ⊢
              obtain ⟨g, y, eA, hg, hy, hyp, _, y0, y1, y2, y3⟩ := hRV.row.at m hxl
              obtain rfl : spA s m = y := spA_eq hy
              rw [hbad] at y3
              have n0 := h2'.cell 0
              have nf := h2'.frozen 0
              have l0 := hRV.l.cell 0
              have p0 := bP'.cell 0
              have p1 := bP'.cell 1
              rw [eA] at l0
              rw [hyp] at y1
              simp only [List.getElem?_toArray, List.getElem?_cons_succ, List.getElem?_cons_zero] at n0 l0 p0 p1
              have k0 : (0 : Int) ≤ (m : Int) := by omega
              have k1 : (m : Int) < (nS s : Int) := by omega
              have hpl : (m : Int) < 9223372036854775807 := by omega
              have qN := h2'.lt
              have qL := hRV.l.lt
              have qP := bP'.lt
              have t0 : decide ((nS s : Int) ≤ (m : Int)) = false := by rw [decide_eq_false_iff_not]; omega
              have t0' : decide (nS s ≤ m) = false := by rw [decide_eq_false_iff_not]; omega
              have hnx : nxt (pre ++ [x]) = m + 1 := by rw [nxt_snoc, hm]
              have lDV := (Array.getElem?_eq_some_iff.1 h3').1
              have lDV2 := (Array.getElem?_eq_some_iff.1 h4').1
              have HI := Lib.hid hR
              have R0 : Hid (∀ V', Below V2.heap.size V2 V' → RUA s w T gb cb W1.heap.size A c st R8 ((0 : Nat) : Int) Ds V' ∧ Blk V' W.heap.size 3 #[.int .i64 (m : Int)] ∧ Only (fun k => k = W.heap.size) V V' ∧ Below W.heap.size W V' ∧ V'.heap[D]? = some (.deferred (some [])) ∧ V'.heap[D2]? = some (.deferred (some []))) := Lib.hid (fun V' hb => ⟨hRV.step hb, h2'.below hb, ho.trans (Only.below hb), h1'.trans (hb.mono h1'.size), (hb.block _ lDV).trans h3', (hb.block _ lDV2).trans h4'⟩)
              clear h1' h2' h3' h4' bP' ho hRV hy hyp eA y0 y2 h1 h2 h3 h4 bP hm hgap hle1
              gi_wp2_with fail
              refine wpIn_round_below (by kernel_rfl) (by kernel_rfl) (by kernel_rfl) ?_
              repeat (first
                | gi_big_quiet_skip
                | (gi_big_quiet_want; gi_big_quiet_op; first
                    | go_big_quiet_on
                    | (refine ⟨_, fun _ _ => rfl, ?_⟩; go_big_quiet_on)
                    | (apply Exists.intro
                       refine ⟨fun w0 hC0 => ?_, ?_⟩
                       · (have n0 := (hC0.cell (p := ⟨W.heap.size, 0, none⟩) qN).trans n0
                          have l0 := (hC0.cell (p := ⟨W1.heap.size, 0, none⟩) qL).trans l0
                          have p0 := (hC0.cell (p := ⟨Bp, 0, none⟩) qP).trans p0
                          have p1 := (hC0.cell (p := ⟨Bp, 1, none⟩) qP).trans p1
                          have y1 := (hC0.cell (p := ⟨g, m * 4 + 1, none⟩) hg).trans y1
                          go_simp
                          rfl)
                       go_big_quiet_on)))
              refine wpQuietIn_nil ?_
              intro w8 hb8
              obtain ⟨hR8', hN8, ho8, hB8, hD8, hD28⟩ := R0.out w8 hb8
              have n8 := hN8.cell 0
              have nf8 := hN8.frozen 0
              have s8 := hR8'.sto.cell 0
              have r8 := hR8'.rnd.cell 0
              simp only [List.getElem?_toArray, List.getElem?_cons_zero] at n8 s8 r8
              replace r8 : w8.cell? ⟨R8, 0, none⟩ = some (.int .i64 0) := r8
              have lt1 := HI.out.rnd.lt
              have lt2 := HI.out.sto.lt
              have ne1 : ¬ R8 = W.heap.size := by omega
              have ne2 : ¬ w.heap.size = W.heap.size := by omega
              have ne3 : ¬ W.heap.size = R8 := by omega
              have ne4 : ¬ W.heap.size = w.heap.size := by omega
              have r9 : ∀ m : Int, (w8.setCell ⟨W.heap.size, 0, none⟩ (.int .i64 m)).cell? ⟨R8, 0, none⟩ = some (.int .i64 0) := fun m => (World.cell?_of_block (Below.heap_setCell _ _ _ _ ne1)).trans r8
              have s9 : ∀ m : Int, (w8.setCell ⟨W.heap.size, 0, none⟩ (.int .i64 m)).cell? ⟨w.heap.size, 0, none⟩ = some (.int .i64 st) := fun m => (World.cell?_of_block (Below.heap_setCell _ _ _ _ ne2)).trans s8
              have Hfin : Hid (Only (fun k => k = W.heap.size) V (w8.setCell ⟨W.heap.size, 0, none⟩ (.int .i64 ((m : Int) + 1))) ∧ Below W.heap.size W (w8.setCell ⟨W.heap.size, 0, none⟩ (.int .i64 ((m : Int) + 1))) ∧ Blk (w8.setCell ⟨W.heap.size, 0, none⟩ (.int .i64 ((m : Int) + 1))) W.heap.size 3 #[.int .i64 (nxt (pre ++ [x]) : Int)] ∧ (w8.setCell ⟨W.heap.size, 0, none⟩ (.int .i64 ((m : Int) + 1))).heap[D]? = some (.deferred (some [])) ∧ (w8.setCell ⟨W.heap.size, 0, none⟩ (.int .i64 ((m : Int) + 1))).heap[D2]? = some (.deferred (some []))) := Lib.hid (by
                rw [hnx]
                exact ⟨ho8.trans (Only.setCell _ _ _ _ rfl), hB8.setCell (Nat.le_refl _) _, hN8.set_ 0 _, (Below.heap_setCell _ _ _ D (show D ≠ W.heap.size by omega)).trans hD8, (Below.heap_setCell _ _ _ D2 (show D2 ≠ W.heap.size by omega)).trans hD28⟩)
              clear hR8' hN8 hb8 ho8 hB8 hD8 hD28 y1 l0 p0 p1 y3 R0 t0 t0' n0 nf hnx
              by_cases hst8 : st < (m : Int) + 1
              · gi_wp2
                obtain ⟨f1, f3, f4, f5, f6⟩ := Hfin.out
                first | exact ⟨f1, rfl, rfl, f3, f4, f5, f6⟩ | exact ⟨f1, rfl, trivial, f3, f4, f5, f6⟩ | exact ⟨f1, rfl, f3, f4, f5, f6⟩
              · gi_wp2
                obtain ⟨f1, f3, f4, f5, f6⟩ := Hfin.out
                exact ⟨f1, f3, f4, f5, f6⟩
          case donec =>
            rintro D3 ys V hD3 rfl ⟨h1, h2, h3, h4⟩ hK
            simp only [Exit.then, Exit.inBlock]
            exact HC1 D3 _ V h1 h2 hK h4 h3 (by omega) (nxt_le _) (fun _ i hi1 hi2 => bads_gap s (nS s) (Nat.le_refl _) i (by rw [firstK_all]; exact hi1) hi2)
          case stopc =>
            rintro D3 cc pre V hD3 hsp ⟨rfl, h0, h1, h2, h3, h4⟩ hK
            apply wpIn_exit
            simp only [Exit.then, Exit.inBlock, ↓reduceIte]
            exact HC1 D3 _ V h1 h2 hK h4 h3 (by omega) (nxt_le _) (fun h => by omega)
        have hq0 := lt_of_cell (HT.out.2 0 (by omega)).1
        have hfr := hR.far
        have hlb := hR.b2.lt
        have hlw := hR.sto.lt
        have hsW := hb.size
        have lD := (Array.getElem?_eq_some_iff.1 hD).1
        obtain ⟨WS2, hWS2⟩ : ∃ WS2, W'.setCell ⟨W.heap.size, 0, none⟩ (.int .i64 (nS s : Int)) = WS2 := ⟨_, rfl⟩
        have hz2 : WS2.heap.size = W'.heap.size := by rw [← hWS2]; simp [World.setCell]
        have hB2 : Below W.heap.size W WS2 := by rw [← hWS2]; exact hb.setCell (Nat.le_refl _) _
        have hN2 : Blk WS2 W.heap.size 3 #[.int .i64 (nS s : Int)] := by rw [← hWS2]; exact hN.set_ 0 _
        have hDS : WS2.heap[D]? = some (.deferred (some [])) := by rw [← hWS2]; exact (Below.heap_setCell _ _ _ _ (show D ≠ W.heap.size by omega)).trans hD
        have hR2 := hR.step hB2
        rw [hWS2]
        clear hWS2 r8 l8 n8 nf hRV
        refine wpIn_rangeFunc_ownB rfl (by omega) (gf := 97) (lb := #[.pointer (some ⟨W1.heap.size + 1 + 1, 0, none⟩)]) rfl trivial (enters_of Tryd.func97 (by kernel_rfl) rfl)
          (A := fun k => k = W.heap.size) (fun k hk => by omega)
          (tback_B s T (W1.heap.size + 1 + 1) (fun k => k = W.heap.size) WS2 (fun k hk => by omega) hR2.b2 hR2.t0 hR2.t1 (Utf8Tabs_below HT.out hR2.below) (by omega) (by omega) (20 - 1) (by omega) hm) (Below.refl _ _) (fun _ => rfl)
          (fun pre V => Below W.heap.size W V ∧ Blk V W.heap.size 3 #[.int .i64 ((nS s - pre.length : Nat) : Int)] ∧ V.heap[D]? = some (.deferred (some []))) (fun c pre V => c = .exit 4 ∧ 0 = 0 ∧ Below W.heap.size W V ∧ Blk V W.heap.size 3 #[.int .i64 ((nS s - pre.length : Nat) : Int)] ∧ V.heap[D]? = some (.deferred (some [])))
          ?ownb1 ?ownb2 ⟨hB2, hN2, hDS⟩
          (fun x a' V => ∃ Bp Bx, W.heap.size < Bp ∧ W.heap.size < Bx ∧ Blk V Bp 82 #[.int .i64 (bAt s (nS s - (x.val + 1)) : Int), .int .i64 ((nS s - (x.val + 1) : Nat) : Int)] ∧ Blk V Bx 25 #[.int .i32 ((spA s (nS s - (x.val + 1))).r : Int), .int .i64 ((spA s (nS s - (x.val + 1))).n : Int), .bool (spA s (nS s - (x.val + 1))).bad] ∧ a' = { tmps := #[Value.string s, Value.int .i64 stop, undef, Value.pointer (some ⟨w.heap.size, 0, none⟩), Value.pointer (some ⟨w.heap.size + 1, 0, none⟩), Value.pointer (some ⟨T, 0, none⟩), Value.bool false, Value.bool true, Value.pointer (some ⟨W1.heap.size, 0, none⟩), Value.func (.func 96) #[] #[.pointer (some ⟨W1.heap.size + 1, 0, none⟩)], Value.func (.func 97) #[] #[.pointer (some ⟨W1.heap.size + 1 + 1, 0, none⟩)], Value.func (.func 98) #[] #[.pointer (some ⟨W1.heap.size + 1 + 1 + 1, 0, none⟩)], Value.pointer (some ⟨R8, 0, none⟩), Value.pointer (some ⟨W.heap.size, 0, none⟩), u 14, u 15, Value.pointer (some ⟨Bp, 0, none⟩), Value.pointer (some ⟨Bx, 0, none⟩), u 18, u 19, u 20, u 21, u 22, u 23, u 24, u 25, u 26, u 27, u 28, u 29, u 30, u 31, u 32, u 33, u 34, u 35, u 36, u 37, u 38, u 39, u 40, u 41, u 42, u 43, u 44, u 45, u 46, u 47, u 48, u 49, u 50, u 51, u 52, Value.int .i64 0, Value.bool true, u 55, u 56, Value.func (.func 96) #[] #[.pointer (some ⟨W1.heap.size + 1, 0, none⟩)], u 58, u 59, u 60, u 61, u 62, u 63, u 64, u 65, u 66, u 67, u 68, u 69, u 70, u 71, u 72, u 73, u 74, u 75, u 76, u 77, u 78, u 79, u 80, u 81, u 82, u 83, u 84, u 85, u 86, u 87, u 88, u 89, u 90, u 91, u 92, u 93, u 94, u 95, u 96, u 97, u 98, u 99, u 100, u 101, u 102, u 103, Value.int .i64 0, Value.bool false, Value.bool false, undef, undef, undef, undef, Value.bool false, Value.slice A (nS s) c, Value.int .i64 (nS s : Int), Value.func (.func 97) #[] #[.pointer (some ⟨W1.heap.size + 1 + 1, 0, none⟩)], Value.agg #[.int .i64 (bAt s (nS s - (x.val + 1)) : Int), .int .i64 ((nS s - (x.val + 1) : Nat) : Int)], Value.agg #[.int .i32 ((spA s (nS s - (x.val + 1))).r : Int), .int .i64 ((spA s (nS s - (x.val + 1))).n : Int), .bool (spA s (nS s - (x.val + 1))).bad], u 117, u 118, u 119, u 120, u 121, u 122, u 123, u 124, u 125, u 126, u 127, u 128, u 129, u 130, u 131, u 132, u 133, u 134, u 135, u 136, u 137, u 138, u 139, u 140, u 141, u 142, u 143, u 144, u 145, u 146, u 147, u 148, u 149, u 150, u 151, u 152, u 153, u 154, u 155, u 156, u 157, u 158, u 159, u 160, u 161, u 162, u 163, u 164, u 165, u 166, u 167, u 168, u 169, u 170, u 171, u 172, u 173, u 174, u 175, u 176, u 177, u 178, u 179, u 180, u 181, u 182, u 183, u 184, u 185, u 186, u 187, u 188, u 189, u 190, u 191, u 192, u 193, u 194, u 195, u 196, u 197, u 198, u 199, u 200, u 201, u 202, u 203, u 204, u 205, u 206, u 207, u 208, u 209, u 210, u 211, u 212, u 213, u 214, u 215, u 216, u 217, u 218, u 219, u 220], defers := [] })
          (fun x a' _ X Y row hs hg hr => by obtain ⟨Bp, Bx, h1, h2, h3, h4, h5⟩ := hs; exact ⟨Bp, Bx, h1, h2, blk_own h3 hg hr, blk_own h4 hg hr, h5⟩)
          ?assignb ?bodyb ?doneb ?stopb
        case ownb1 =>
          rintro pre V V' ⟨h1, h2, h3⟩ hb
          exact ⟨h1.trans (hb.mono (by omega)), h2.of (hb.block _ (by omega)), (hb.block _ (by omega)).trans h3⟩
        case ownb2 =>
          rintro cc pre V V' ⟨h0, h4, h1, h2, h3⟩ hb
          exact ⟨h0, h4, h1.trans (hb.mono (by omega)), h2.of (hb.block _ (by omega)), (hb.block _ (by omega)).trans h3⟩
        case assignb =>
          rintro l pre x V K ⟨h1, h2, h3⟩ hz hK
          have hlt := h2.lt
          have lD' := (Array.getElem?_eq_some_iff.1 h3).1
          gi_wp2
          have hb1 : Below V.heap.size V ((V.alloc (.cells #[.int .i64 (bAt s (nS s - (x.val + 1)) : Int), .int .i64 ((nS s - (x.val + 1) : Nat) : Int)] 82)).alloc (.cells #[.int .i32 ((spA s (nS s - (x.val + 1))).r : Int), .int .i64 ((spA s (nS s - (x.val + 1))).n : Int), .bool (spA s (nS s - (x.val + 1))).bad] 25)) := ((Below.refl _ V).alloc (Nat.le_refl _) _).alloc (by simp) _
          have b2 := Blk.new (V.alloc (.cells #[.int .i64 (bAt s (nS s - (x.val + 1)) : Int), .int .i64 ((nS s - (x.val + 1) : Nat) : Int)] 82)) 25 #[.int .i32 ((spA s (nS s - (x.val + 1))).r : Int), .int .i64 ((spA s (nS s - (x.val + 1))).n : Int), .bool (spA s (nS s - (x.val + 1))).bad]
          simp only [World.size_alloc] at b2
          exact hK _ _ (Only.below hb1) ⟨h1.trans (hb1.mono h1.size), h2.below hb1, (hb1.block _ lD').trans h3⟩ ⟨V.heap.size, V.heap.size + 1, hlt, by omega, (Blk.new V _ _).alloc _, b2, rfl⟩
        case bodyb =>
          rintro l pre x a' V hl ⟨r, hr⟩ ⟨h1, h2, h3⟩ ⟨Bp, Bx, hBp, hBx, bP, bX, rfl⟩ ⟨k, hk, hpre⟩ hlt
          obtain ⟨hx, -, -⟩ := firstK_last hk hpre
          clear hpre hk
          obtain ⟨q, hq⟩ : ∃ q, nS s - (x.val + 1) = q := ⟨_, rfl⟩
          have hq1 : nS s - pre.length = q + 1 := by omega
          have hqe : nS s - (pre.length + 1) = q := by omega
          have hqn : q < nS s := by omega
          rw [hq1] at h2
          rw [hq] at bP bX
          simp only [hq]
          have n0 := h2.cell 0
          have nf := h2.frozen 0
          simp only [List.getElem?_toArray, List.getElem?_cons_zero] at n0
          replace n0 : V.cell? ⟨W.heap.size, 0, none⟩ = some (.int .i64 ((q : Int) + 1)) := n0
          have hqb : (q : Int) < 9223372036854775807 := by omega
          obtain ⟨V2, hV2⟩ : ∃ V2, V.setCell ⟨W.heap.size, 0, none⟩ (.int .i64 (q : Int)) = V2 := ⟨_, rfl⟩
          have h1' : Below W.heap.size W V2 := by rw [← hV2]; exact h1.setCell (Nat.le_refl _) _
          have h2' : Blk V2 W.heap.size 3 #[.int .i64 (q : Int)] := by rw [← hV2]; exact h2.set_ 0 _
          have bP' : Blk V2 Bp 82 #[.int .i64 (bAt s q : Int), .int .i64 (q : Int)] := by rw [← hV2]; exact bP.of (Below.heap_setCell _ _ _ _ (show Bp ≠ W.heap.size by omega))
          have bX' : Blk V2 Bx 25 #[.int .i32 ((spA s q).r : Int), .int .i64 ((spA s q).n : Int), .bool (spA s q).bad] := by rw [← hV2]; exact bX.of (Below.heap_setCell _ _ _ _ (show Bx ≠ W.heap.size by omega))
          have lD' := (Array.getElem?_eq_some_iff.1 h3).1
          have h3' : V2.heap[D]? = some (.deferred (some [])) := by rw [← hV2]; exact (Below.heap_setCell _ _ _ _ (show D ≠ W.heap.size by omega)).trans h3
          have hko : Only (fun k => k = W.heap.size) V V2 := by rw [← hV2]; exact Only.setCell _ _ _ _ rfl
          have hRV := hR.step h1'
          have HI := Lib.hid hR
          clear h1 h2 bP bX h3 hR2 hx
          gi_wp2_with fail
          try rw [hV2]
          clear hV2 n0 nf
          have n0 := h2'.cell 0
          have l0 := hRV.l.cell 0
          have p0 := bP'.cell 0
          have p1 := bP'.cell 1
          have x0 := bX'.cell 0
          have x1 := bX'.cell 1
          have x2 := bX'.cell 2
          obtain ⟨g, y, eA, hg, hy, hyp, _, y0, y1, y2, y3⟩ := hRV.row.at q hqn
          obtain rfl : spA s q = y := spA_eq hy
          rw [eA] at l0
          rw [hyp] at y1
          simp only [List.getElem?_toArray, List.getElem?_cons_succ, List.getElem?_cons_zero] at n0 l0 p0 p1 x0 x1 x2
          have qN := h2'.lt
          have qL := hRV.l.lt
          have qP := bP'.lt
          have qX := bX'.lt
          have t0 : decide ((q : Int) < 0) = false := by rw [decide_eq_false_iff_not]; omega
          have k0 : (0 : Int) ≤ (q : Int) := by omega
          have k1 : (q : Int) < (nS s : Int) := by omega
          have R0 : Hid (∀ V', Below V2.heap.size V2 V' → RUA s w T gb cb W1.heap.size A c st R8 ((0 : Nat) : Int) Ds V' ∧ Blk V' W.heap.size 3 #[.int .i64 (q : Int)] ∧ V'.heap[D]? = some (.deferred (some [])) ∧ Below W.heap.size W V') := Lib.hid (fun V' hb => ⟨hRV.step hb, h2'.below hb, (hb.block D (Array.getElem?_eq_some_iff.1 h3').1).trans h3', h1'.trans (hb.mono h1'.size)⟩)
          have Hko := Lib.hid hko
          clear h1' h2' h3' hko bP' bX' hRV hy hyp eA
          refine wpIn_round_below (by kernel_rfl) (by kernel_rfl) (by kernel_rfl) ?_
          repeat (first
            | gi_big_quiet_skip
            | (gi_big_quiet_want; gi_big_quiet_op; first
                | go_big_quiet_on
                | (refine ⟨_, fun _ _ => rfl, ?_⟩; go_big_quiet_on)
                | (apply Exists.intro
                   refine ⟨fun w0 hC0 => ?_, ?_⟩
                   · (have n0 := (hC0.cell (p := ⟨W.heap.size, 0, none⟩) qN).trans n0
                      have l0 := (hC0.cell (p := ⟨W1.heap.size, 0, none⟩) qL).trans l0
                      have p0 := (hC0.cell (p := ⟨Bp, 0, none⟩) qP).trans p0
                      have p1 := (hC0.cell (p := ⟨Bp, 1, none⟩) qP).trans p1
                      have x0 := (hC0.cell (p := ⟨Bx, 0, none⟩) qX).trans x0
                      have x1 := (hC0.cell (p := ⟨Bx, 1, none⟩) qX).trans x1
                      have x2 := (hC0.cell (p := ⟨Bx, 2, none⟩) qX).trans x2
                      have y0 := (hC0.cell (p := ⟨g, q * 4, none⟩) hg).trans y0
                      have y1 := (hC0.cell (p := ⟨g, q * 4 + 1, none⟩) hg).trans y1
                      have y2 := (hC0.cell (p := ⟨g, q * 4 + 2, none⟩) hg).trans y2
                      have y3 := (hC0.cell (p := ⟨g, q * 4 + 3, none⟩) hg).trans y3
                      go_simp
                      rfl)
                   go_big_quiet_on)))
          refine wpQuietIn_nil ?_
          intro w8 hb8
          obtain ⟨hR8', hN8, hD8, hB8⟩ := R0.out w8 hb8
          have n8 := hN8.cell 0
          have s8 := hR8'.sto.cell 0
          have r8 := hR8'.rnd.cell 0
          simp only [List.getElem?_toArray, List.getElem?_cons_zero] at n8 s8 r8
          replace r8 : w8.cell? ⟨R8, 0, none⟩ = some (.int .i64 0) := r8
          have hle : (pre ++ [x]).length = pre.length + 1 := by simp
          have Hfin : Hid (Only (fun k => k = W.heap.size) V w8 ∧ Below W.heap.size W w8 ∧ Blk w8 W.heap.size 3 #[.int .i64 ((nS s - (pre ++ [x]).length : Nat) : Int)] ∧ w8.heap[D]? = some (.deferred (some []))) := Lib.hid (by
            rw [hle, hqe]
            exact ⟨Hko.out.trans (Only.below hb8), hB8, hN8, hD8⟩)
          clear hR8' hN8 hb8 y0 y1 y2 y3 l0 p0 p1 x0 x1 x2 R0 t0 n0 hD8 hB8
          by_cases hst8 : (q : Int) < st
          · gi_wp2
            obtain ⟨f1, f3, f4, f5⟩ := Hfin.out
            first | exact ⟨f1, rfl, rfl, f3, f4, f5⟩ | exact ⟨f1, rfl, trivial, f3, f4, f5⟩
          · gi_wp2
            obtain ⟨f1, f3, f4, f5⟩ := Hfin.out
            exact ⟨f1, f3, f4, f5⟩
        case doneb =>
          rintro D2 ys V hD2 rfl ⟨h1, h2, h3⟩ hK
          have hlen : (List.finRange (nS s)).length = nS s := by simp
          rw [hlen] at h2
          simp only [Exit.then, Exit.inBlock]
          exact HB1 D2 (nS s - nS s) V h1 h2 hK h3 (by omega) (fun _ => by omega)
        case stopb =>
          rintro D2 cc pre V hD2 ⟨k, hk, hpre⟩ ⟨rfl, h0, h1, h2, h3⟩ hK
          apply wpIn_exit
          simp only [Exit.then, Exit.inBlock, ↓reduceIte]
          exact HB1 D2 (nS s - pre.length) V h1 h2 hK h3 (by omega) (fun h => by omega)
      have HI := Lib.hid hR
      have hlR := hR.l.lt
      have hfar := hR.far
      obtain ⟨WS, hWS⟩ : ∃ WS, W.alloc (.cells #[.int .i64 0] 3) = WS := ⟨_, rfl⟩
      have hsz : WS.heap.size = W.heap.size + 1 := by rw [← hWS]; simp
      have hW1 : Below W.heap.size W WS := by rw [← hWS]; exact (Below.refl _ W).alloc (Nat.le_refl _) _
      have hN1 : Blk WS W.heap.size 3 #[.int .i64 0] := by rw [← hWS]; exact Blk.new W _ _
      have hbS := (hR.step hW1).b1
      have hcT := (hR.step hW1).t0
      have hqq := hR.b1.lt
      rw [hWS]
      clear hWS
      refine wpIn_rangeFunc_ownB rfl (by omega) (gf := 96) (lb := #[.pointer (some ⟨W1.heap.size + 1, 0, none⟩)]) rfl trivial (enters_of Tryd.func96 (by kernel_rfl) rfl)
        (A := fun k => k = W.heap.size) (fun k hk => by omega)
        (all_B s T (W1.heap.size + 1) (fun k => k = W.heap.size) WS (fun k hk => by omega) hbS hcT (20 - 1) (by omega) hm) (Below.refl _ _) (fun _ => rfl)
        (fun pre V => Below W.heap.size W V ∧ Blk V W.heap.size 3 #[.int .i64 (pre.length : Int)]) (fun c pre V => c = .exit 2 ∧ 0 = 0 ∧ Below W.heap.size W V ∧ Blk V W.heap.size 3 #[.int .i64 (pre.length : Int)])
        ?own1 ?own2 ⟨hW1, hN1⟩
        (fun x a' V => ∃ Bp Bx, W.heap.size < Bp ∧ W.heap.size < Bx ∧ Blk V Bp 82 #[.int .i64 (bAt s x.val : Int), .int .i64 (x.val : Int)] ∧ Blk V Bx 25 #[.int .i32 ((spA s x.val).r : Int), .int .i64 ((spA s x.val).n : Int), .bool (spA s x.val).bad] ∧ a' = { tmps := #[Value.string s, Value.int .i64 stop, undef, Value.pointer (some ⟨w.heap.size, 0, none⟩), Value.pointer (some ⟨w.heap.size + 1, 0, none⟩), Value.pointer (some ⟨T, 0, none⟩), Value.bool false, Value.bool true, Value.pointer (some ⟨W1.heap.size, 0, none⟩), Value.func (.func 96) #[] #[.pointer (some ⟨W1.heap.size + 1, 0, none⟩)], Value.func (.func 97) #[] #[.pointer (some ⟨W1.heap.size + 1 + 1, 0, none⟩)], Value.func (.func 98) #[] #[.pointer (some ⟨W1.heap.size + 1 + 1 + 1, 0, none⟩)], Value.pointer (some ⟨R8, 0, none⟩), Value.pointer (some ⟨W.heap.size, 0, none⟩), Value.pointer (some ⟨Bp, 0, none⟩), Value.pointer (some ⟨Bx, 0, none⟩), u 16, u 17, u 18, u 19, u 20, u 21, u 22, u 23, u 24, u 25, u 26, u 27, u 28, u 29, u 30, u 31, u 32, u 33, u 34, u 35, u 36, u 37, u 38, u 39, u 40, u 41, u 42, u 43, u 44, u 45, u 46, u 47, u 48, u 49, u 50, u 51, u 52, Value.int .i64 0, Value.bool true, u 55, u 56, Value.func (.func 96) #[] #[.pointer (some ⟨W1.heap.size + 1, 0, none⟩)], Value.agg #[.int .i64 (bAt s x.val : Int), .int .i64 (x.val : Int)], Value.agg #[.int .i32 ((spA s x.val).r : Int), .int .i64 ((spA s x.val).n : Int), .bool (spA s x.val).bad], u 60, u 61, u 62, u 63, u 64, u 65, u 66, u 67, u 68, u 69, u 70, u 71, u 72, u 73, u 74, u 75, u 76, u 77, u 78, u 79, u 80, u 81, u 82, u 83, u 84, u 85, u 86, u 87, u 88, u 89, u 90, u 91, u 92, u 93, u 94, u 95, u 96, u 97, u 98, u 99, u 100, u 101, u 102, u 103, u 104, u 105, u 106, u 107, u 108, u 109, u 110, u 111, u 112, u 113, u 114, u 115, u 116, u 117, u 118, u 119, u 120, u 121, u 122, u 123, u 124, u 125, u 126, u 127, u 128, u 129, u 130, u 131, u 132, u 133, u 134, u 135, u 136, u 137, u 138, u 139, u 140, u 141, u 142, u 143, u 144, u 145, u 146, u 147, u 148, u 149, u 150, u 151, u 152, u 153, u 154, u 155, u 156, u 157, u 158, u 159, u 160, u 161, u 162, u 163, u 164, u 165, u 166, u 167, u 168, u 169, u 170, u 171, u 172, u 173, u 174, u 175, u 176, u 177, u 178, u 179, u 180, u 181, u 182, u 183, u 184, u 185, u 186, u 187, u 188, u 189, u 190, u 191, u 192, u 193, u 194, u 195, u 196, u 197, u 198, u 199, u 200, u 201, u 202, u 203, u 204, u 205, u 206, u 207, u 208, u 209, u 210, u 211, u 212, u 213, u 214, u 215, u 216, u 217, u 218, u 219, u 220], defers := [] })
        (fun x a' _ X Y row hs hg hr => by obtain ⟨Bp, Bx, h1, h2, h3, h4, h5⟩ := hs; exact ⟨Bp, Bx, h1, h2, blk_own h3 hg hr, blk_own h4 hg hr, h5⟩)
        ?assign ?body ?done ?stop
      case own1 =>
        rintro pre V V' ⟨h1, h2⟩ hb
        exact ⟨h1.trans (hb.mono (by omega)), h2.of (hb.block _ (by omega))⟩
      case own2 =>
        rintro cc pre V V' ⟨h0, h3, h1, h2⟩ hb
        exact ⟨h0, h3, h1.trans (hb.mono (by omega)), h2.of (hb.block _ (by omega))⟩
      case assign =>
        rintro l pre x V K ⟨h1, h2⟩ hz hK
        have hlt := h2.lt
        gi_wp2
        have hb1 : Below V.heap.size V ((V.alloc (.cells #[.int .i64 (bAt s x.val : Int), .int .i64 (x.val : Int)] 82)).alloc (.cells #[.int .i32 ((spA s x.val).r : Int), .int .i64 ((spA s x.val).n : Int), .bool (spA s x.val).bad] 25)) := ((Below.refl _ V).alloc (Nat.le_refl _) _).alloc (by simp) _
        have b2 := Blk.new (V.alloc (.cells #[.int .i64 (bAt s x.val : Int), .int .i64 (x.val : Int)] 82)) 25 #[.int .i32 ((spA s x.val).r : Int), .int .i64 ((spA s x.val).n : Int), .bool (spA s x.val).bad]
        simp only [World.size_alloc] at b2
        exact hK _ _ (Only.below hb1) ⟨h1.trans (hb1.mono h1.size), h2.below hb1⟩ ⟨V.heap.size, V.heap.size + 1, hlt, by omega, (Blk.new V _ _).alloc _, b2, rfl⟩
      case body =>
        rintro l pre x a' V hl ⟨r, hr⟩ ⟨h1, h2⟩ ⟨Bp, Bx, hBp, hBx, bP, bX, rfl⟩ ⟨k, hk, hpre⟩ hlt
        obtain ⟨hx, -, -⟩ := firstK_last hk hpre
        clear hpre hk
        rw [hx] at bP bX
        simp only [hx]
        have hRV := HI.out.step h1
        have n0 := h2.cell 0
        have l0 := hRV.l.cell 0
        have p0 := bP.cell 0
        have p1 := bP.cell 1
        have x0 := bX.cell 0
        have x1 := bX.cell 1
        have x2 := bX.cell 2
        obtain ⟨g, y, eA, hg, hy, hyp, _, y0, y1, y2, y3⟩ := hRV.row.at pre.length hlt
        obtain rfl : spA s pre.length = y := spA_eq hy
        rw [eA] at l0
        rw [hyp] at y1
        simp only [List.getElem?_toArray, List.getElem?_cons_succ, List.getElem?_cons_zero] at n0 l0 p0 p1 x0 x1 x2
        have qN := h2.lt
        have qL := hRV.l.lt
        have qP := bP.lt
        have qX := bX.lt
        have t0 : decide ((nS s : Int) ≤ (pre.length : Int)) = false := by rw [decide_eq_false_iff_not]; omega
        have t0' : decide (nS s ≤ pre.length) = false := by rw [decide_eq_false_iff_not]; omega
        have k0 : (0 : Int) ≤ (pre.length : Int) := by omega
        have k1 : (pre.length : Int) < (nS s : Int) := by omega
        have hpl : (pre.length : Int) < 9223372036854775807 := by omega
        have R0 : Hid (∀ V', Below V.heap.size V V' → RUA s w T gb cb W1.heap.size A c st R8 ((0 : Nat) : Int) Ds V' ∧ Blk V' W.heap.size 3 #[.int .i64 (pre.length : Int)]) := Lib.hid (fun V' hb => ⟨hRV.step hb, h2.below hb⟩)
        have Hh1 := Lib.hid h1
        clear h1 h2 bP bX hRV hy hyp eA hsz hx
        gi_wp2_with fail
        refine wpIn_round_below (by kernel_rfl) (by kernel_rfl) (by kernel_rfl) ?_
        repeat (first
          | gi_big_quiet_skip
          | (gi_big_quiet_want; gi_big_quiet_op; first
              | go_big_quiet_on
              | (refine ⟨_, fun _ _ => rfl, ?_⟩; go_big_quiet_on)
              | (apply Exists.intro
                 refine ⟨fun w0 hC0 => ?_, ?_⟩
                 · (have n0 := (hC0.cell (p := ⟨W.heap.size, 0, none⟩) qN).trans n0
                    have l0 := (hC0.cell (p := ⟨W1.heap.size, 0, none⟩) qL).trans l0
                    have p0 := (hC0.cell (p := ⟨Bp, 0, none⟩) qP).trans p0
                    have p1 := (hC0.cell (p := ⟨Bp, 1, none⟩) qP).trans p1
                    have x0 := (hC0.cell (p := ⟨Bx, 0, none⟩) qX).trans x0
                    have x1 := (hC0.cell (p := ⟨Bx, 1, none⟩) qX).trans x1
                    have x2 := (hC0.cell (p := ⟨Bx, 2, none⟩) qX).trans x2
                    have y0 := (hC0.cell (p := ⟨g, pre.length * 4, none⟩) hg).trans y0
                    have y1 := (hC0.cell (p := ⟨g, pre.length * 4 + 1, none⟩) hg).trans y1
                    have y2 := (hC0.cell (p := ⟨g, pre.length * 4 + 2, none⟩) hg).trans y2
                    have y3 := (hC0.cell (p := ⟨g, pre.length * 4 + 3, none⟩) hg).trans y3
                    go_simp
                    rfl)
                 go_big_quiet_on)))
        refine wpQuietIn_nil ?_
        intro w8 hb8
        obtain ⟨hR8', hN8⟩ := R0.out w8 hb8
        have n8 := hN8.cell 0
        have nf := hN8.frozen 0
        have s8 := hR8'.sto.cell 0
        have r8 := hR8'.rnd.cell 0
        simp only [List.getElem?_toArray, List.getElem?_cons_zero] at n8 s8 r8
        replace r8 : w8.cell? ⟨R8, 0, none⟩ = some (.int .i64 0) := r8
        have Hfin : Hid (∀ m : Int, m = ((pre ++ [x]).length : Int) → Only (fun k => k = W.heap.size) V (w8.setCell ⟨W.heap.size, 0, none⟩ (.int .i64 m)) ∧ Below W.heap.size W (w8.setCell ⟨W.heap.size, 0, none⟩ (.int .i64 m)) ∧ Blk (w8.setCell ⟨W.heap.size, 0, none⟩ (.int .i64 m)) W.heap.size 3 #[.int .i64 ((pre ++ [x]).length : Int)]) := Lib.hid (by
          rintro m rfl
          exact ⟨(Only.below hb8).trans (Only.setCell _ _ _ _ rfl), (Hh1.out.trans (hb8.mono Hh1.out.size)).setCell (Nat.le_refl _) _, hN8.set_ 0 _⟩)
        clear hR8' hN8 hb8 y0 y1 y2 y3 l0 p0 p1 x0 x1 x2 R0 t0 t0' n0
        have lt1 := HI.out.rnd.lt
        have lt2 := HI.out.sto.lt
        have ne1 : ¬ R8 = W.heap.size := by omega
        have ne2 : ¬ w.heap.size = W.heap.size := by omega
        have ne3 : ¬ W.heap.size = R8 := by omega
        have ne4 : ¬ W.heap.size = w.heap.size := by omega
        have r9 : ∀ m : Int, (w8.setCell ⟨W.heap.size, 0, none⟩ (.int .i64 m)).cell? ⟨R8, 0, none⟩ = some (.int .i64 0) := fun m => (World.cell?_of_block (Below.heap_setCell _ _ _ _ ne1)).trans r8
        have s9 : ∀ m : Int, (w8.setCell ⟨W.heap.size, 0, none⟩ (.int .i64 m)).cell? ⟨w.heap.size, 0, none⟩ = some (.int .i64 st) := fun m => (World.cell?_of_block (Below.heap_setCell _ _ _ _ ne2)).trans s8
        by_cases hst8 : st < (pre.length : Int) + 1
        · gi_wp2
          obtain ⟨f1, f3, f4⟩ := Hfin.out ((pre.length : Int) + 1) (by simp)
          first | exact ⟨f1, rfl, rfl, f3, f4⟩ | exact ⟨f1, rfl, trivial, f3, f4⟩
        · gi_wp2
          obtain ⟨f1, f3, f4⟩ := Hfin.out ((pre.length : Int) + 1) (by simp)
          exact ⟨f1, f3, f4⟩
      case done =>
        rintro D ys V hD rfl ⟨h1, h2⟩ hK
        have hlen : (List.finRange (nS s)).length = nS s := by simp
        rw [hlen] at h2
        simp only [Exit.then, Exit.inBlock]
        exact HA1 D (nS s) V h1 h2 hK (by omega) (Nat.le_refl _) (fun _ => rfl)
      case stop =>
        rintro D cc pre V hD ⟨k, hk, hpre⟩ ⟨rfl, h0, h1, h2⟩ hK
        apply wpIn_exit
        simp only [Exit.then, Exit.inBlock, ↓reduceIte]
        exact HA1 D pre.length V h1 h2 hK (by omega) (by rw [hpre, firstK_length s k hk]; exact hk) (fun h => by omega)
    · have r0 := hR.rnd.cell 0
      simp only [List.getElem?_toArray, List.getElem?_cons_zero] at r0
      replace r0 : W.cell? ⟨R8, 0, none⟩ = some (.int .i64 1) := r0
      gi_wp2
      rename_i Kc hKc Kb hKb Ka hKa
      have HA1 : ∀ (D m : Nat) (W' : World), Below W.heap.size W W' → Blk W' W.heap.size 3 #[.int .i64 (m : Int)] → W'.heap[D]? = some (.deferred (some [])) → W.heap.size + 1 ≤ D → m ≤ nS s → (1 = 1 → m = nS s) →
          Ka { tmps := #[Value.string s, Value.int .i64 stop, undef, Value.pointer (some ⟨w.heap.size, 0, none⟩), Value.pointer (some ⟨w.heap.size + 1, 0, none⟩), Value.pointer (some ⟨T, 0, none⟩), Value.bool false, Value.bool true, Value.pointer (some ⟨W1.heap.size, 0, none⟩), Value.func (.func 96) #[] #[.pointer (some ⟨W1.heap.size + 1, 0, none⟩)], Value.func (.func 97) #[] #[.pointer (some ⟨W1.heap.size + 1 + 1, 0, none⟩)], Value.func (.func 98) #[] #[.pointer (some ⟨W1.heap.size + 1 + 1 + 1, 0, none⟩)], Value.pointer (some ⟨R8, 0, none⟩), Value.pointer (some ⟨W.heap.size, 0, none⟩), u 14, u 15, u 16, u 17, u 18, u 19, u 20, u 21, u 22, u 23, u 24, u 25, u 26, u 27, u 28, u 29, u 30, u 31, u 32, u 33, u 34, u 35, u 36, u 37, u 38, u 39, u 40, u 41, u 42, u 43, u 44, u 45, u 46, u 47, u 48, u 49, u 50, u 51, u 52, Value.int .i64 1, Value.bool true, u 55, u 56, Value.func (.func 96) #[] #[.pointer (some ⟨W1.heap.size + 1, 0, none⟩)], u 58, u 59, u 60, u 61, u 62, u 63, u 64, u 65, u 66, u 67, u 68, u 69, u 70, u 71, u 72, u 73, u 74, u 75, u 76, u 77, u 78, u 79, u 80, u 81, u 82, u 83, u 84, u 85, u 86, u 87, u 88, u 89, u 90, u 91, u 92, u 93, u 94, u 95, u 96, u 97, u 98, u 99, u 100, u 101, u 102, u 103, u 104, u 105, u 106, u 107, u 108, u 109, u 110, u 111, u 112, u 113, u 114, u 115, u 116, u 117, u 118, u 119, u 120, u 121, u 122, u 123, u 124, u 125, u 126, u 127, u 128, u 129, u 130, u 131, u 132, u 133, u 134, u 135, u 136, u 137, u 138, u 139, u 140, u 141, u 142, u 143, u 144, u 145, u 146, u 147, u 148, u 149, u 150, u 151, u 152, u 153, u 154, u 155, u 156, u 157, u 158, u 159, u 160, u 161, u 162, u 163, u 164, u 165, u 166, u 167, u 168, u 169, u 170, u 171, u 172, u 173, u 174, u 175, u 176, u 177, u 178, u 179, u 180, u 181, u 182, u 183, u 184, u 185, u 186, u 187, u 188, u 189, u 190, u 191, u 192, u 193, u 194, u 195, u 196, u 197, u 198, u 199, u 200, u 201, u 202, u 203, u 204, u 205, u 206, u 207, u 208, u 209, u 210, u 211, u 212, u 213, u 214, u 215, u 216, u 217, u 218, u 219, u 220], defers := { target := .collected D, args := #[] } :: marks Ds } W' := by
        intro D m W' hb hN hD hD1 hm1 hj1
        obtain rfl : m = nS s := hj1 rfl
        have t0 : ((nS s : Int) != (nS s : Int)) = false := by simp
        have hRV := hR.step hb
        have lt1 := hR.rnd.lt
        have lt2 := hR.l.lt
        have ne1 : ¬ R8 = W.heap.size := by omega
        have ne2 : ¬ W1.heap.size = W.heap.size := by omega
        have r8 := hRV.rnd.cell 0
        have l8 := hRV.l.cell 0
        have n8 := hN.cell 0
        have nf := hN.frozen 0
        simp only [List.getElem?_toArray, List.getElem?_cons_zero] at r8 l8 n8
        replace r8 : W'.cell? ⟨R8, 0, none⟩ = some (.int .i64 1) := r8
        refine hKa _ _ ?_
        gi_wp2
        rename_i Kd hKd
        have HB1 : ∀ (D2 m2 : Nat) (V' : World), Below W.heap.size W V' → Blk V' W.heap.size 3 #[.int .i64 (m2 : Int)] → V'.heap[D2]? = some (.deferred (some [])) → V'.heap[D]? = some (.deferred (some [])) → D < D2 → (1 = 1 → m2 = 0) →
            Kd { tmps := #[Value.string s, Value.int .i64 stop, undef, Value.pointer (some ⟨w.heap.size, 0, none⟩), Value.pointer (some ⟨w.heap.size + 1, 0, none⟩), Value.pointer (some ⟨T, 0, none⟩), Value.bool false, Value.bool true, Value.pointer (some ⟨W1.heap.size, 0, none⟩), Value.func (.func 96) #[] #[.pointer (some ⟨W1.heap.size + 1, 0, none⟩)], Value.func (.func 97) #[] #[.pointer (some ⟨W1.heap.size + 1 + 1, 0, none⟩)], Value.func (.func 98) #[] #[.pointer (some ⟨W1.heap.size + 1 + 1 + 1, 0, none⟩)], Value.pointer (some ⟨R8, 0, none⟩), Value.pointer (some ⟨W.heap.size, 0, none⟩), u 14, u 15, u 16, u 17, u 18, u 19, u 20, u 21, u 22, u 23, u 24, u 25, u 26, u 27, u 28, u 29, u 30, u 31, u 32, u 33, u 34, u 35, u 36, u 37, u 38, u 39, u 40, u 41, u 42, u 43, u 44, u 45, u 46, u 47, u 48, u 49, u 50, u 51, u 52, Value.int .i64 1, Value.bool true, u 55, u 56, Value.func (.func 96) #[] #[.pointer (some ⟨W1.heap.size + 1, 0, none⟩)], u 58, u 59, u 60, u 61, u 62, u 63, u 64, u 65, u 66, u 67, u 68, u 69, u 70, u 71, u 72, u 73, u 74, u 75, u 76, u 77, u 78, u 79, u 80, u 81, u 82, u 83, u 84, u 85, u 86, u 87, u 88, u 89, u 90, u 91, u 92, u 93, u 94, u 95, u 96, u 97, u 98, u 99, u 100, u 101, u 102, u 103, Value.int .i64 1, Value.bool true, Value.bool true, Value.int .i64 (nS s : Int), Value.slice A (nS s) c, Value.int .i64 (nS s : Int), Value.bool false, Value.bool false, Value.slice A (nS s) c, Value.int .i64 (nS s : Int), Value.func (.func 97) #[] #[.pointer (some ⟨W1.heap.size + 1 + 1, 0, none⟩)], u 115, u 116, u 117, u 118, u 119, u 120, u 121, u 122, u 123, u 124, u 125, u 126, u 127, u 128, u 129, u 130, u 131, u 132, u 133, u 134, u 135, u 136, u 137, u 138, u 139, u 140, u 141, u 142, u 143, u 144, u 145, u 146, u 147, u 148, u 149, u 150, u 151, u 152, u 153, u 154, u 155, u 156, u 157, u 158, u 159, u 160, u 161, u 162, u 163, u 164, u 165, u 166, u 167, u 168, u 169, u 170, u 171, u 172, u 173, u 174, u 175, u 176, u 177, u 178, u 179, u 180, u 181, u 182, u 183, u 184, u 185, u 186, u 187, u 188, u 189, u 190, u 191, u 192, u 193, u 194, u 195, u 196, u 197, u 198, u 199, u 200, u 201, u 202, u 203, u 204, u 205, u 206, u 207, u 208, u 209, u 210, u 211, u 212, u 213, u 214, u 215, u 216, u 217, u 218, u 219, u 220], defers := { target := .collected D2, args := #[] } :: { target := .collected D, args := #[] } :: marks Ds } V' := by
          intro D2 m2 V' hb' hN' hD2 hDV hDD hj1'
          obtain rfl : m2 = 0 := hj1' rfl
          have hRV' := hR.step hb'
          have r8' := hRV'.rnd.cell 0
          have n8' := hN'.cell 0
          have nf' := hN'.frozen 0
          simp only [List.getElem?_toArray, List.getElem?_cons_zero] at r8' n8'
          replace r8' : V'.cell? ⟨R8, 0, none⟩ = some (.int .i64 1) := r8'
          replace n8' : V'.cell? ⟨W.heap.size, 0, none⟩ = some (.int .i64 0) := n8'
          have qV := hb'.size
          have hfr := hR.far
          clear r8 l8 n8 nf hRV
          refine hKd _ _ ?_
          gi_wp2
          rename_i Ke hKe
          have HC1 : ∀ (D3 m3 : Nat) (V3 : World), Below W.heap.size W V3 → Blk V3 W.heap.size 3 #[.int .i64 (m3 : Int)] → V3.heap[D3]? = some (.deferred (some [])) → V3.heap[D2]? = some (.deferred (some [])) → V3.heap[D]? = some (.deferred (some [])) → D2 < D3 → m3 ≤ nS s → (1 = 1 → ∀ i, m3 ≤ i → i < nS s → (spA s i).bad = false) →
              Ke { tmps := #[Value.string s, Value.int .i64 stop, undef, Value.pointer (some ⟨w.heap.size, 0, none⟩), Value.pointer (some ⟨w.heap.size + 1, 0, none⟩), Value.pointer (some ⟨T, 0, none⟩), Value.bool false, Value.bool true, Value.pointer (some ⟨W1.heap.size, 0, none⟩), Value.func (.func 96) #[] #[.pointer (some ⟨W1.heap.size + 1, 0, none⟩)], Value.func (.func 97) #[] #[.pointer (some ⟨W1.heap.size + 1 + 1, 0, none⟩)], Value.func (.func 98) #[] #[.pointer (some ⟨W1.heap.size + 1 + 1 + 1, 0, none⟩)], Value.pointer (some ⟨R8, 0, none⟩), Value.pointer (some ⟨W.heap.size, 0, none⟩), u 14, u 15, u 16, u 17, u 18, u 19, u 20, u 21, u 22, u 23, u 24, u 25, u 26, u 27, u 28, u 29, u 30, u 31, u 32, u 33, u 34, u 35, u 36, u 37, u 38, u 39, u 40, u 41, u 42, u 43, u 44, u 45, u 46, u 47, u 48, u 49, u 50, u 51, u 52, Value.int .i64 1, Value.bool true, u 55, u 56, Value.func (.func 96) #[] #[.pointer (some ⟨W1.heap.size + 1, 0, none⟩)], u 58, u 59, u 60, u 61, u 62, u 63, u 64, u 65, u 66, u 67, u 68, u 69, u 70, u 71, u 72, u 73, u 74, u 75, u 76, u 77, u 78, u 79, u 80, u 81, u 82, u 83, u 84, u 85, u 86, u 87, u 88, u 89, u 90, u 91, u 92, u 93, u 94, u 95, u 96, u 97, u 98, u 99, u 100, u 101, u 102, u 103, Value.int .i64 1, Value.bool true, Value.bool true, Value.int .i64 (nS s : Int), Value.slice A (nS s) c, Value.int .i64 (nS s : Int), Value.bool false, Value.bool false, Value.slice A (nS s) c, Value.int .i64 (nS s : Int), Value.func (.func 97) #[] #[.pointer (some ⟨W1.heap.size + 1 + 1, 0, none⟩)], u 115, u 116, u 117, u 118, u 119, u 120, u 121, u 122, u 123, u 124, u 125, u 126, u 127, u 128, u 129, u 130, u 131, u 132, u 133, u 134, u 135, u 136, u 137, u 138, u 139, u 140, u 141, u 142, u 143, u 144, u 145, u 146, u 147, u 148, u 149, u 150, u 151, u 152, u 153, u 154, u 155, u 156, u 157, u 158, Value.int .i64 1, Value.bool true, Value.bool true, Value.int .i64 0, Value.bool false, Value.bool false, Value.func (.func 98) #[] #[.pointer (some ⟨W1.heap.size + 1 + 1 + 1, 0, none⟩)], u 166, u 167, u 168, u 169, u 170, u 171, u 172, u 173, u 174, u 175, u 176, u 177, u 178, u 179, u 180, u 181, u 182, u 183, u 184, u 185, u 186, u 187, u 188, u 189, u 190, u 191, u 192, u 193, u 194, u 195, u 196, u 197, u 198, u 199, u 200, u 201, u 202, u 203, u 204, u 205, u 206, u 207, u 208, u 209, u 210, u 211, u 212, u 213, u 214, u 215, u 216, u 217, u 218, u 219, u 220], defers := { target := .collected D3, args := #[] } :: { target := .collected D2, args := #[] } :: { target := .collected D, args := #[] } :: marks Ds } V3 := by
            intro D3 m3 V3 hb3 hN3 hD3 hD23 hDV3 hDD3 hm3 hgap
            clear n8' r8' nf' hRV'
            refine hKe _ _ ?_
            gi_wp2
            refine wpIn_loop_rounds (nS s - m3 + 1) (rounds_of (LInvD1 s stop w W1 W T R8 A c D D2 D3 Ds m3) (nS s - m3) 0 _ _ ?h0 ?step ?last)
            case h0 => exact ⟨ofL [undef, undef, undef, undef, undef, undef, undef, undef, undef, undef, undef, undef, undef, undef, _, _, _, _, _, _, _, _, _, _, _, _, _, _, _, _, _, _, _, _, _, _, _, _, _, _, _, _, _, _, _, _, _, _, _, _, _, _, _, undef, undef, _, _, undef, _, _, _, _, _, _, _, _, _, _, _, _, _, _, _, _, _, _, _, _, _, _, _, _, _, _, _, _, _, _, _, _, _, _, _, _, _, _, _, _, _, _, _, _, _, _, undef, undef, undef, undef, undef, undef, undef, undef, undef, undef, undef, _, _, _, _, _, _, _, _, _, _, _, _, _, _, _, _, _, _, _, _, _, _, _, _, _, _, _, _, _, _, _, _, _, _, _, _, _, _, _, _, _, _, _, _, undef, undef, undef, undef, undef, undef, undef, _, _, _, _, _, _, _, _, _, _, _, _, _, _, _, _, _, _, _, _, _, _, _, _, _, _, _, _, _, _, _, _, _, _, _, _, _, _, _, _, _, _, _, _, _, _, _, _, _, _, _, _, _, _, _], rfl, hb3, hN3, hDV3, hD23, hD3⟩
            case step =>
              rintro k a V4 - hk ⟨u2, rfl, h1', h2', h3', h4', h5'⟩
              have hRV := hR.step h1'
              obtain ⟨m, hm⟩ : ∃ m, m3 + k = m := ⟨_, rfl⟩
              have hmn : m < nS s := by omega
              have hm1 : m3 + (k + 1) = m + 1 := by omega
              rw [hm] at h2'
              obtain ⟨g, y, eA, hg, hy, hyp, _, y0, y1, y2, y3⟩ := hRV.row.at m hmn
              obtain rfl : spA s m = y := spA_eq hy
              rw [hgap (by simp) m (by omega) (by omega)] at y3
              have r0 := hRV.rnd.cell 0
              have n0 := h2'.cell 0
              have nf := h2'.frozen 0
              have l0 := hRV.l.cell 0
              rw [eA] at l0
              simp only [List.getElem?_toArray, List.getElem?_cons_zero] at n0 l0 r0
              replace r0 : V4.cell? ⟨R8, 0, none⟩ = some (.int .i64 1) := r0
              have k0 : (0 : Int) ≤ (m : Int) := by omega
              have k1 : (m : Int) < (nS s : Int) := by omega
              have hpl : (m : Int) < 9223372036854775807 := by omega
              have l3 := (Array.getElem?_eq_some_iff.1 h3').1
              have F2 := Lib.hid (h1'.setCell (p := ⟨W.heap.size, 0, none⟩) (Nat.le_refl _) (.int .i64 ((m : Int) + 1)))
              have F3 := Lib.hid (h2'.set_ 0 (.int .i64 ((m : Int) + 1)))
              have F4 := Lib.hid ((Below.heap_setCell V4 ⟨W.heap.size, 0, none⟩ (.int .i64 ((m : Int) + 1)) D (show D ≠ W.heap.size by omega)).trans h3')
              have F5 := Lib.hid ((Below.heap_setCell V4 ⟨W.heap.size, 0, none⟩ (.int .i64 ((m : Int) + 1)) D2 (show D2 ≠ W.heap.size by omega)).trans h4')
              have F6 := Lib.hid ((Below.heap_setCell V4 ⟨W.heap.size, 0, none⟩ (.int .i64 ((m : Int) + 1)) D3 (show D3 ≠ W.heap.size by omega)).trans h5')
              clear h1' h2' h3' h4' h5' hRV hy hyp eA y0 y1 y2 hm hb3 hN3 hD3 hD23 hDV3 hgap
              gi_wp2
              refine ⟨ofL [undef, undef, undef, undef, undef, undef, undef, undef, undef, undef, undef, undef, undef, undef, _, _, _, _, _, _, _, _, _, _, _, _, _, _, _, _, _, _, _, _, _, _, _, _, _, _, _, _, _, _, _, _, _, _, _, _, _, _, _, undef, undef, _, _, undef, _, _, _, _, _, _, _, _, _, _, _, _, _, _, _, _, _, _, _, _, _, _, _, _, _, _, _, _, _, _, _, _, _, _, _, _, _, _, _, _, _, _, _, _, _, _, undef, undef, undef, undef, undef, undef, undef, undef, undef, undef, undef, _, _, _, _, _, _, _, _, _, _, _, _, _, _, _, _, _, _, _, _, _, _, _, _, _, _, _, _, _, _, _, _, _, _, _, _, _, _, _, _, _, _, _, _, undef, undef, undef, undef, undef, undef, undef, _, _, _, _, _, _, _, _, _, _, _, _, _, _, _, _, _, _, _, _, _, _, _, _, _, _, _, _, _, _, _, _, _, _, _, _, _, _, _, _, _, _, _, _, _, _, _, _, _, _, _, _, _, _, _], rfl, F2.out, ?_, F4.out, F5.out, F6.out⟩
              rw [hm1]
              exact F3.out
            case last =>
              rintro a V4 ⟨u2, rfl, h1', h2', h3', h4', h5'⟩
              have hRV := hR.step h1'
              have r0 := hRV.rnd.cell 0
              rw [show m3 + (0 + (nS s - m3)) = nS s by omega] at h2'
              have n0 := h2'.cell 0
              have l0 := hRV.l.cell 0
              simp only [List.getElem?_toArray, List.getElem?_cons_zero] at n0 l0
              simp only [List.getElem?_toArray, List.getElem?_cons_zero] at r0
              replace r0 : V4.cell? ⟨R8, 0, none⟩ = some (.int .i64 1) := r0
              have Hn := Lib.hid (fun r' => hR.next h1' h3' h4' h5' (by omega) hDD hDD3 r')
              clear h1' h2' h3' h4' h5' hRV hb3 hN3 hD3 hD23 hDV3 hgap
              gi_wp2
              exact ⟨V4.heap.size, D3 :: D2 :: D :: Ds, ofL [undef, undef, undef, undef, undef, undef, undef, undef, undef, undef, undef, undef, undef, _, _, _, _, _, _, _, _, _, _, _, _, _, _, _, _, _, _, _, _, _, _, _, _, _, _, _, _, _, _, _, _, _, _, _, _, _, _, _, _, _, _, _, _, _, _, _, _, _, _, _, _, _, _, _, _, _, _, _, _, _, _, _, _, _, _, _, _, _, _, _, _, _, _, _, _, _, _, _, _, _, _, _, _, _, _, _, _, _, _, _, _, _, _, _, _, _, _, _, _, _, _, _, _, _, _, _, _, _, _, _, _, _, _, _, _, _, _, _, _, _, _, _, _, _, _, _, _, _, _, _, _, _, _, _, _, _, _, _, _, _, _, _, _, _, _, _, _, _, _, _, _, _, _, _, _, _, _, _, _, _, _, _, _, _, _, _, _, _, _, _, _, _, _, _, _, _, _, _, _, _, _, _, _, _, _, _, _, _, _, _, _, _, _, _, _, _, _, _, _, _, _, _, _, _, _, _, _], rfl, Hn.out _⟩
          have hq0 := lt_of_cell (HT.out.2 0 (by omega)).1
          have hlb := hR.b3.lt
          have hlw := hR.sto.lt
          have hsW := hb'.size
          have lD := (Array.getElem?_eq_some_iff.1 hDV).1
          have lD2 := (Array.getElem?_eq_some_iff.1 hD2).1
          obtain ⟨WS3, hWS3⟩ : ∃ WS3, V'.setCell ⟨W.heap.size, 0, none⟩ (.int .i64 0) = WS3 := ⟨_, rfl⟩
          have hz3 : WS3.heap.size = V'.heap.size := by rw [← hWS3]; simp [World.setCell]
          have hB3 : Below W.heap.size W WS3 := by rw [← hWS3]; exact hb'.setCell (Nat.le_refl _) _
          have hN3 : Blk WS3 W.heap.size 3 #[.int .i64 0] := by rw [← hWS3]; exact hN'.set_ 0 _
          have hDS3 : WS3.heap[D]? = some (.deferred (some [])) := by rw [← hWS3]; exact (Below.heap_setCell _ _ _ _ (show D ≠ W.heap.size by omega)).trans hDV
          have hDS32 : WS3.heap[D2]? = some (.deferred (some [])) := by rw [← hWS3]; exact (Below.heap_setCell _ _ _ _ (show D2 ≠ W.heap.size by omega)).trans hD2
          have hR3 := hR.step hB3
          rw [hWS3]
          clear hWS3 r8' n8' nf' hRV'
          refine wpIn_rangeFunc_ownB rfl (by omega) (gf := 98) (lb := #[.pointer (some ⟨W1.heap.size + 1 + 1 + 1, 0, none⟩)]) rfl trivial (enters_of Tryd.func98 (by kernel_rfl) rfl)
            (A := fun k => k = W.heap.size) (fun k hk => by omega)
            (bads_B s T (W1.heap.size + 1 + 1 + 1) (fun k => k = W.heap.size) WS3 (fun k hk => by omega) hR3.b3 hR3.t0 (20 - 1) (by omega) hm) (Below.refl _ _) (fun _ => rfl)
            (fun pre V => Below W.heap.size W V ∧ Blk V W.heap.size 3 #[.int .i64 (nxt pre : Int)] ∧ V.heap[D]? = some (.deferred (some [])) ∧ V.heap[D2]? = some (.deferred (some []))) (fun c pre V => c = .exit 6 ∧ 1 = 0 ∧ Below W.heap.size W V ∧ Blk V W.heap.size 3 #[.int .i64 (nxt pre : Int)] ∧ V.heap[D]? = some (.deferred (some [])) ∧ V.heap[D2]? = some (.deferred (some [])))
            ?ownc1 ?ownc2 ⟨hB3, hN3, hDS3, hDS32⟩
            (fun x a' V => ∃ Bp, W.heap.size < Bp ∧ Blk V Bp 82 #[.int .i64 (bAt s x.val : Int), .int .i64 (x.val : Int)] ∧ a' = { tmps := #[Value.string s, Value.int .i64 stop, undef, Value.pointer (some ⟨w.heap.size, 0, none⟩), Value.pointer (some ⟨w.heap.size + 1, 0, none⟩), Value.pointer (some ⟨T, 0, none⟩), Value.bool false, Value.bool true, Value.pointer (some ⟨W1.heap.size, 0, none⟩), Value.func (.func 96) #[] #[.pointer (some ⟨W1.heap.size + 1, 0, none⟩)], Value.func (.func 97) #[] #[.pointer (some ⟨W1.heap.size + 1 + 1, 0, none⟩)], Value.func (.func 98) #[] #[.pointer (some ⟨W1.heap.size + 1 + 1 + 1, 0, none⟩)], Value.pointer (some ⟨R8, 0, none⟩), Value.pointer (some ⟨W.heap.size, 0, none⟩), u 14, u 15, u 16, u 17, Value.pointer (some ⟨Bp, 0, none⟩), u 19, u 20, u 21, u 22, u 23, u 24, u 25, u 26, u 27, u 28, u 29, u 30, u 31, u 32, u 33, u 34, u 35, u 36, u 37, u 38, u 39, u 40, u 41, u 42, u 43, u 44, u 45, u 46, u 47, u 48, u 49, u 50, u 51, u 52, Value.int .i64 1, Value.bool true, u 55, u 56, Value.func (.func 96) #[] #[.pointer (some ⟨W1.heap.size + 1, 0, none⟩)], u 58, u 59, u 60, u 61, u 62, u 63, u 64, u 65, u 66, u 67, u 68, u 69, u 70, u 71, u 72, u 73, u 74, u 75, u 76, u 77, u 78, u 79, u 80, u 81, u 82, u 83, u 84, u 85, u 86, u 87, u 88, u 89, u 90, u 91, u 92, u 93, u 94, u 95, u 96, u 97, u 98, u 99, u 100, u 101, u 102, u 103, Value.int .i64 1, Value.bool true, Value.bool true, Value.int .i64 (nS s : Int), Value.slice A (nS s) c, Value.int .i64 (nS s : Int), Value.bool false, Value.bool false, Value.slice A (nS s) c, Value.int .i64 (nS s : Int), Value.func (.func 97) #[] #[.pointer (some ⟨W1.heap.size + 1 + 1, 0, none⟩)], u 115, u 116, u 117, u 118, u 119, u 120, u 121, u 122, u 123, u 124, u 125, u 126, u 127, u 128, u 129, u 130, u 131, u 132, u 133, u 134, u 135, u 136, u 137, u 138, u 139, u 140, u 141, u 142, u 143, u 144, u 145, u 146, u 147, u 148, u 149, u 150, u 151, u 152, u 153, u 154, u 155, u 156, u 157, u 158, Value.int .i64 1, Value.bool true, Value.bool true, Value.int .i64 0, Value.bool false, Value.bool false, Value.func (.func 98) #[] #[.pointer (some ⟨W1.heap.size + 1 + 1 + 1, 0, none⟩)], Value.agg #[.int .i64 (bAt s x.val : Int), .int .i64 (x.val : Int)], u 167, u 168, u 169, u 170, u 171, u 172, u 173, u 174, u 175, u 176, u 177, u 178, u 179, u 180, u 181, u 182, u 183, u 184, u 185, u 186, u 187, u 188, u 189, u 190, u 191, u 192, u 193, u 194, u 195, u 196, u 197, u 198, u 199, u 200, u 201, u 202, u 203, u 204, u 205, u 206, u 207, u 208, u 209, u 210, u 211, u 212, u 213, u 214, u 215, u 216, u 217, u 218, u 219, u 220], defers := [] })
            (fun x a' _ X Y row hs hg hr => by obtain ⟨Bp, h1, h3, h5⟩ := hs; exact ⟨Bp, h1, blk_own h3 hg hr, h5⟩)
            ?assignc ?bodyc ?donec ?stopc
          case ownc1 =>
            rintro pre V V' ⟨h1, h2, h3, h4⟩ hb
            exact ⟨h1.trans (hb.mono (by omega)), h2.of (hb.block _ (by omega)), (hb.block _ (by omega)).trans h3, (hb.block _ (by omega)).trans h4⟩
          case ownc2 =>
            rintro cc pre V V' ⟨h0, h4, h1, h2, h3, h5⟩ hb
            exact ⟨h0, h4, h1.trans (hb.mono (by omega)), h2.of (hb.block _ (by omega)), (hb.block _ (by omega)).trans h3, (hb.block _ (by omega)).trans h5⟩
          case assignc =>
            rintro l pre x V K ⟨h1, h2, h3, h4⟩ hz hK
            have hlt := h2.lt
            gi_wp2
            have hb1 : Below V.heap.size V (V.alloc (.cells #[.int .i64 (bAt s x.val : Int), .int .i64 (x.val : Int)] 82)) := (Below.refl _ V).alloc (Nat.le_refl _) _
            exact hK _ _ (Only.below hb1) ⟨h1.trans (hb1.mono h1.size), h2.below hb1, (hb1.block _ (Array.getElem?_eq_some_iff.1 h3).1).trans h3, (hb1.block _ (Array.getElem?_eq_some_iff.1 h4).1).trans h4⟩ ⟨V.heap.size, hlt, Blk.new V _ _, rfl⟩
          case bodyc =>
            rintro l pre x a' V hl ⟨r, hr⟩ ⟨h1, h2, h3, h4⟩ ⟨Bp, hBp, bP, rfl⟩ ⟨k, hk, hpre⟩ hlt
            obtain ⟨hbad, hle1, hgap⟩ := bads_next hk hpre
            clear hpre hk
            have hxl := x.isLt
            gi_wp2
            refine wpIn_loop_rounds (x.val - nxt pre + 1) (rounds_of (LInvC1 s stop w W1 W T R8 A c Bp D D2 (nxt pre) x V) (x.val - nxt pre) 0 _ _ ?h0 ?step ?last)
            case h0 => exact ⟨ofL [undef, undef, undef, undef, undef, undef, undef, undef, undef, undef, undef, undef, undef, undef, _, _, _, _, undef, _, _, _, _, _, _, _, _, _, _, _, _, _, _, _, _, _, _, _, _, _, _, _, _, _, _, _, _, _, _, _, _, _, _, undef, undef, _, _, undef, _, _, _, _, _, _, _, _, _, _, _, _, _, _, _, _, _, _, _, _, _, _, _, _, _, _, _, _, _, _, _, _, _, _, _, _, _, _, _, _, _, _, _, _, _, _, undef, undef, undef, undef, undef, undef, undef, undef, undef, undef, undef, _, _, _, _, _, _, _, _, _, _, _, _, _, _, _, _, _, _, _, _, _, _, _, _, _, _, _, _, _, _, _, _, _, _, _, _, _, _, _, _, _, _, _, _, undef, undef, undef, undef, undef, undef, undef, undef, _, _, _, _, _, _, _, _, _, _, _, _, _, _, _, _, _, _, _, _, _, _, _, _, _, _, _, _, _, _, _, _, _, _, _, _, _, _, _, _, _, _, _, _, _, _, _, _, _, _, _, _, _, _], rfl, Only.refl _ _, h1, h2, h3, h4, bP⟩
            case step =>
              rintro k a V2 - hk ⟨u2, rfl, ho, h1', h2', h3', h4', bP'⟩
              have hRV := hR.step h1'
              obtain ⟨m, hm⟩ : ∃ m, nxt pre + k = m := ⟨_, rfl⟩
              have hmn : m < nS s := by omega
              have hm1 : nxt pre + (k + 1) = m + 1 := by omega
              rw [hm] at h2'
              obtain ⟨g, y, eA, hg, hy, hyp, _, y0, y1, y2, y3⟩ := hRV.row.at m hmn
              obtain rfl : spA s m = y := spA_eq hy
              rw [hgap m (by omega) (by omega)] at y3
              have n0 := h2'.cell 0
              have nf := h2'.frozen 0
              have l0 := hRV.l.cell 0
              rw [eA] at l0
              simp only [List.getElem?_toArray, List.getElem?_cons_zero] at n0 l0
              have k0 : (0 : Int) ≤ (m : Int) := by omega
              have k1 : (m : Int) < (nS s : Int) := by omega
              have hpl : (m : Int) < 9223372036854775807 := by omega
              have lDV := (Array.getElem?_eq_some_iff.1 h3').1
              have lDV2 := (Array.getElem?_eq_some_iff.1 h4').1
              have f1 := ho.trans (Only.setCell V2 W.heap.size 0 (.int .i64 ((m : Int) + 1)) rfl)
              have f2 := h1'.setCell (p := ⟨W.heap.size, 0, none⟩) (Nat.le_refl _) (.int .i64 ((m : Int) + 1))
              have f3 := h2'.set_ 0 (.int .i64 ((m : Int) + 1))
              have f4 := (Below.heap_setCell V2 ⟨W.heap.size, 0, none⟩ (.int .i64 ((m : Int) + 1)) D (show D ≠ W.heap.size by omega)).trans h3'
              have f5 := (Below.heap_setCell V2 ⟨W.heap.size, 0, none⟩ (.int .i64 ((m : Int) + 1)) D2 (show D2 ≠ W.heap.size by omega)).trans h4'
              have f6 := bP'.of (Below.heap_setCell V2 ⟨W.heap.size, 0, none⟩ (.int .i64 ((m : Int) + 1)) Bp (show Bp ≠ W.heap.size by omega))
              have F1 := Lib.hid f1
              have F2 := Lib.hid f2
              have F3 := Lib.hid f3
              have F4 := Lib.hid f4
              have F5 := Lib.hid f5
              have F6 := Lib.hid f6
              clear f1 f2 f3 f4 f5 f6 h1' h2' h3' h4' bP' ho hRV hy hyp eA y0 y1 y2 h1 h2 h3 h4 bP hm
              gi_wp2
              refine ⟨ofL [undef, undef, undef, undef, undef, undef, undef, undef, undef, undef, undef, undef, undef, undef, _, _, _, _, undef, _, _, _, _, _, _, _, _, _, _, _, _, _, _, _, _, _, _, _, _, _, _, _, _, _, _, _, _, _, _, _, _, _, _, undef, undef, _, _, undef, _, _, _, _, _, _, _, _, _, _, _, _, _, _, _, _, _, _, _, _, _, _, _, _, _, _, _, _, _, _, _, _, _, _, _, _, _, _, _, _, _, _, _, _, _, _, undef, undef, undef, undef, undef, undef, undef, undef, undef, undef, undef, _, _, _, _, _, _, _, _, _, _, _, _, _, _, _, _, _, _, _, _, _, _, _, _, _, _, _, _, _, _, _, _, _, _, _, _, _, _, _, _, _, _, _, _, undef, undef, undef, undef, undef, undef, undef, undef, _, _, _, _, _, _, _, _, _, _, _, _, _, _, _, _, _, _, _, _, _, _, _, _, _, _, _, _, _, _, _, _, _, _, _, _, _, _, _, _, _, _, _, _, _, _, _, _, _, _, _, _, _, _], rfl, F1.out, F2.out, ?_, F4.out, F5.out, F6.out⟩
              rw [hm1]
              exact F3.out
            case last =>
              rintro a V2 ⟨u2, rfl, ho, h1', h2', h3', h4', bP'⟩
              have hRV := hR.step h1'
              obtain ⟨m, hm⟩ : ∃ m, x.val = m := ⟨_, rfl⟩
              rw [show nxt pre + (0 + (x.val - nxt pre)) = m by omega] at h2'
              simp only [hm] at hbad bP' hxl ⊢
              obtain ⟨g, y, eA, hg, hy, hyp, _, y0, y1, y2, y3⟩ := hRV.row.at m hxl
              obtain rfl : spA s m = y := spA_eq hy
              rw [hbad] at y3
              have n0 := h2'.cell 0
              have nf := h2'.frozen 0
              have l0 := hRV.l.cell 0
              have p0 := bP'.cell 0
              have p1 := bP'.cell 1
              rw [eA] at l0
              rw [hyp] at y1
              simp only [List.getElem?_toArray, List.getElem?_cons_succ, List.getElem?_cons_zero] at n0 l0 p0 p1
              have k0 : (0 : Int) ≤ (m : Int) := by omega
              have k1 : (m : Int) < (nS s : Int) := by omega
              have hpl : (m : Int) < 9223372036854775807 := by omega
              have qN := h2'.lt
              have qL := hRV.l.lt
              have qP := bP'.lt
              have t0 : decide ((nS s : Int) ≤ (m : Int)) = false := by rw [decide_eq_false_iff_not]; omega
              have t0' : decide (nS s ≤ m) = false := by rw [decide_eq_false_iff_not]; omega
              have hnx : nxt (pre ++ [x]) = m + 1 := by rw [nxt_snoc, hm]
              have lDV := (Array.getElem?_eq_some_iff.1 h3').1
              have lDV2 := (Array.getElem?_eq_some_iff.1 h4').1
              have HI := Lib.hid hR
              have R0 : Hid (∀ V', Below V2.heap.size V2 V' → RUA s w T gb cb W1.heap.size A c st R8 ((1 : Nat) : Int) Ds V' ∧ Blk V' W.heap.size 3 #[.int .i64 (m : Int)] ∧ Only (fun k => k = W.heap.size) V V' ∧ Below W.heap.size W V' ∧ V'.heap[D]? = some (.deferred (some [])) ∧ V'.heap[D2]? = some (.deferred (some []))) := Lib.hid (fun V' hb => ⟨hRV.step hb, h2'.below hb, ho.trans (Only.below hb), h1'.trans (hb.mono h1'.size), (hb.block _ lDV).trans h3', (hb.block _ lDV2).trans h4'⟩)
              clear h1' h2' h3' h4' bP' ho hRV hy hyp eA y0 y2 h1 h2 h3 h4 bP hm hgap hle1
              gi_wp2_with fail
              refine wpIn_round_below (by kernel_rfl) (by kernel_rfl) (by kernel_rfl) ?_
              repeat (first
                | gi_big_quiet_skip
                | (gi_big_quiet_want; gi_big_quiet_op; first
                    | go_big_quiet_on
                    | (refine ⟨_, fun _ _ => rfl, ?_⟩; go_big_quiet_on)
                    | (apply Exists.intro
                       refine ⟨fun w0 hC0 => ?_, ?_⟩
                       · (have n0 := (hC0.cell (p := ⟨W.heap.size, 0, none⟩) qN).trans n0
                          have l0 := (hC0.cell (p := ⟨W1.heap.size, 0, none⟩) qL).trans l0
                          have p0 := (hC0.cell (p := ⟨Bp, 0, none⟩) qP).trans p0
                          have p1 := (hC0.cell (p := ⟨Bp, 1, none⟩) qP).trans p1
                          have y1 := (hC0.cell (p := ⟨g, m * 4 + 1, none⟩) hg).trans y1
                          go_simp
                          rfl)
                       go_big_quiet_on)))
              refine wpQuietIn_nil ?_
              intro w8 hb8
              obtain ⟨hR8', hN8, ho8, hB8, hD8, hD28⟩ := R0.out w8 hb8
              have n8 := hN8.cell 0
              have nf8 := hN8.frozen 0
              have s8 := hR8'.sto.cell 0
              have r8 := hR8'.rnd.cell 0
              simp only [List.getElem?_toArray, List.getElem?_cons_zero] at n8 s8 r8
              replace r8 : w8.cell? ⟨R8, 0, none⟩ = some (.int .i64 1) := r8
              have lt1 := HI.out.rnd.lt
              have lt2 := HI.out.sto.lt
              have ne1 : ¬ R8 = W.heap.size := by omega
              have ne2 : ¬ w.heap.size = W.heap.size := by omega
              have ne3 : ¬ W.heap.size = R8 := by omega
              have ne4 : ¬ W.heap.size = w.heap.size := by omega
              have r9 : ∀ m : Int, (w8.setCell ⟨W.heap.size, 0, none⟩ (.int .i64 m)).cell? ⟨R8, 0, none⟩ = some (.int .i64 1) := fun m => (World.cell?_of_block (Below.heap_setCell _ _ _ _ ne1)).trans r8
              have s9 : ∀ m : Int, (w8.setCell ⟨W.heap.size, 0, none⟩ (.int .i64 m)).cell? ⟨w.heap.size, 0, none⟩ = some (.int .i64 st) := fun m => (World.cell?_of_block (Below.heap_setCell _ _ _ _ ne2)).trans s8
              have Hfin : Hid (Only (fun k => k = W.heap.size) V (w8.setCell ⟨W.heap.size, 0, none⟩ (.int .i64 ((m : Int) + 1))) ∧ Below W.heap.size W (w8.setCell ⟨W.heap.size, 0, none⟩ (.int .i64 ((m : Int) + 1))) ∧ Blk (w8.setCell ⟨W.heap.size, 0, none⟩ (.int .i64 ((m : Int) + 1))) W.heap.size 3 #[.int .i64 (nxt (pre ++ [x]) : Int)] ∧ (w8.setCell ⟨W.heap.size, 0, none⟩ (.int .i64 ((m : Int) + 1))).heap[D]? = some (.deferred (some [])) ∧ (w8.setCell ⟨W.heap.size, 0, none⟩ (.int .i64 ((m : Int) + 1))).heap[D2]? = some (.deferred (some []))) := Lib.hid (by
                rw [hnx]
                exact ⟨ho8.trans (Only.setCell _ _ _ _ rfl), hB8.setCell (Nat.le_refl _) _, hN8.set_ 0 _, (Below.heap_setCell _ _ _ D (show D ≠ W.heap.size by omega)).trans hD8, (Below.heap_setCell _ _ _ D2 (show D2 ≠ W.heap.size by omega)).trans hD28⟩)
              clear hR8' hN8 hb8 ho8 hB8 hD8 hD28 y1 l0 p0 p1 y3 R0 t0 t0' n0 nf hnx
              gi_wp2
              obtain ⟨f1, f3, f4, f5, f6⟩ := Hfin.out
              exact ⟨f1, f3, f4, f5, f6⟩
          case donec =>
            rintro D3 ys V hD3 rfl ⟨h1, h2, h3, h4⟩ hK
            simp only [Exit.then, Exit.inBlock]
            exact HC1 D3 _ V h1 h2 hK h4 h3 (by omega) (nxt_le _) (fun _ i hi1 hi2 => bads_gap s (nS s) (Nat.le_refl _) i (by rw [firstK_all]; exact hi1) hi2)
          case stopc =>
            rintro D3 cc pre V hD3 hsp ⟨rfl, h0, h1, h2, h3, h4⟩ hK
            apply wpIn_exit
            simp only [Exit.then, Exit.inBlock, ↓reduceIte]
            exact HC1 D3 _ V h1 h2 hK h4 h3 (by omega) (nxt_le _) (fun h => by omega)
        have hq0 := lt_of_cell (HT.out.2 0 (by omega)).1
        have hfr := hR.far
        have hlb := hR.b2.lt
        have hlw := hR.sto.lt
        have hsW := hb.size
        have lD := (Array.getElem?_eq_some_iff.1 hD).1
        obtain ⟨WS2, hWS2⟩ : ∃ WS2, W'.setCell ⟨W.heap.size, 0, none⟩ (.int .i64 (nS s : Int)) = WS2 := ⟨_, rfl⟩
        have hz2 : WS2.heap.size = W'.heap.size := by rw [← hWS2]; simp [World.setCell]
        have hB2 : Below W.heap.size W WS2 := by rw [← hWS2]; exact hb.setCell (Nat.le_refl _) _
        have hN2 : Blk WS2 W.heap.size 3 #[.int .i64 (nS s : Int)] := by rw [← hWS2]; exact hN.set_ 0 _
        have hDS : WS2.heap[D]? = some (.deferred (some [])) := by rw [← hWS2]; exact (Below.heap_setCell _ _ _ _ (show D ≠ W.heap.size by omega)).trans hD
        have hR2 := hR.step hB2
        rw [hWS2]
        clear hWS2 r8 l8 n8 nf hRV
        refine wpIn_rangeFunc_ownB rfl (by omega) (gf := 97) (lb := #[.pointer (some ⟨W1.heap.size + 1 + 1, 0, none⟩)]) rfl trivial (enters_of Tryd.func97 (by kernel_rfl) rfl)
          (A := fun k => k = W.heap.size) (fun k hk => by omega)
          (tback_B s T (W1.heap.size + 1 + 1) (fun k => k = W.heap.size) WS2 (fun k hk => by omega) hR2.b2 hR2.t0 hR2.t1 (Utf8Tabs_below HT.out hR2.below) (by omega) (by omega) (20 - 1) (by omega) hm) (Below.refl _ _) (fun _ => rfl)
          (fun pre V => Below W.heap.size W V ∧ Blk V W.heap.size 3 #[.int .i64 ((nS s - pre.length : Nat) : Int)] ∧ V.heap[D]? = some (.deferred (some []))) (fun c pre V => c = .exit 4 ∧ 1 = 0 ∧ Below W.heap.size W V ∧ Blk V W.heap.size 3 #[.int .i64 ((nS s - pre.length : Nat) : Int)] ∧ V.heap[D]? = some (.deferred (some [])))
          ?ownb1 ?ownb2 ⟨hB2, hN2, hDS⟩
          (fun x a' V => ∃ Bp Bx, W.heap.size < Bp ∧ W.heap.size < Bx ∧ Blk V Bp 82 #[.int .i64 (bAt s (nS s - (x.val + 1)) : Int), .int .i64 ((nS s - (x.val + 1) : Nat) : Int)] ∧ Blk V Bx 25 #[.int .i32 ((spA s (nS s - (x.val + 1))).r : Int), .int .i64 ((spA s (nS s - (x.val + 1))).n : Int), .bool (spA s (nS s - (x.val + 1))).bad] ∧ a' = { tmps := #[Value.string s, Value.int .i64 stop, undef, Value.pointer (some ⟨w.heap.size, 0, none⟩), Value.pointer (some ⟨w.heap.size + 1, 0, none⟩), Value.pointer (some ⟨T, 0, none⟩), Value.bool false, Value.bool true, Value.pointer (some ⟨W1.heap.size, 0, none⟩), Value.func (.func 96) #[] #[.pointer (some ⟨W1.heap.size + 1, 0, none⟩)], Value.func (.func 97) #[] #[.pointer (some ⟨W1.heap.size + 1 + 1, 0, none⟩)], Value.func (.func 98) #[] #[.pointer (some ⟨W1.heap.size + 1 + 1 + 1, 0, none⟩)], Value.pointer (some ⟨R8, 0, none⟩), Value.pointer (some ⟨W.heap.size, 0, none⟩), u 14, u 15, Value.pointer (some ⟨Bp, 0, none⟩), Value.pointer (some ⟨Bx, 0, none⟩), u 18, u 19, u 20, u 21, u 22, u 23, u 24, u 25, u 26, u 27, u 28, u 29, u 30, u 31, u 32, u 33, u 34, u 35, u 36, u 37, u 38, u 39, u 40, u 41, u 42, u 43, u 44, u 45, u 46, u 47, u 48, u 49, u 50, u 51, u 52, Value.int .i64 1, Value.bool true, u 55, u 56, Value.func (.func 96) #[] #[.pointer (some ⟨W1.heap.size + 1, 0, none⟩)], u 58, u 59, u 60, u 61, u 62, u 63, u 64, u 65, u 66, u 67, u 68, u 69, u 70, u 71, u 72, u 73, u 74, u 75, u 76, u 77, u 78, u 79, u 80, u 81, u 82, u 83, u 84, u 85, u 86, u 87, u 88, u 89, u 90, u 91, u 92, u 93, u 94, u 95, u 96, u 97, u 98, u 99, u 100, u 101, u 102, u 103, Value.int .i64 1, Value.bool true, Value.bool true, Value.int .i64 (nS s : Int), Value.slice A (nS s) c, Value.int .i64 (nS s : Int), Value.bool false, Value.bool false, Value.slice A (nS s) c, Value.int .i64 (nS s : Int), Value.func (.func 97) #[] #[.pointer (some ⟨W1.heap.size + 1 + 1, 0, none⟩)], Value.agg #[.int .i64 (bAt s (nS s - (x.val + 1)) : Int), .int .i64 ((nS s - (x.val + 1) : Nat) : Int)], Value.agg #[.int .i32 ((spA s (nS s - (x.val + 1))).r : Int), .int .i64 ((spA s (nS s - (x.val + 1))).n : Int), .bool (spA s (nS s - (x.val + 1))).bad], u 117, u 118, u 119, u 120, u 121, u 122, u 123, u 124, u 125, u 126, u 127, u 128, u 129, u 130, u 131, u 132, u 133, u 134, u 135, u 136, u 137, u 138, u 139, u 140, u 141, u 142, u 143, u 144, u 145, u 146, u 147, u 148, u 149, u 150, u 151, u 152, u 153, u 154, u 155, u 156, u 157, u 158, u 159, u 160, u 161, u 162, u 163, u 164, u 165, u 166, u 167, u 168, u 169, u 170, u 171, u 172, u 173, u 174, u 175, u 176, u 177, u 178, u 179, u 180, u 181, u 182, u 183, u 184, u 185, u 186, u 187, u 188, u 189, u 190, u 191, u 192, u 193, u 194, u 195, u 196, u 197, u 198, u 199, u 200, u 201, u 202, u 203, u 204, u 205, u 206, u 207, u 208, u 209, u 210, u 211, u 212, u 213, u 214, u 215, u 216, u 217, u 218, u 219, u 220], defers := [] })
          (fun x a' _ X Y row hs hg hr => by obtain ⟨Bp, Bx, h1, h2, h3, h4, h5⟩ := hs; exact ⟨Bp, Bx, h1, h2, blk_own h3 hg hr, blk_own h4 hg hr, h5⟩)
          ?assignb ?bodyb ?doneb ?stopb
        case ownb1 =>
          rintro pre V V' ⟨h1, h2, h3⟩ hb
          exact ⟨h1.trans (hb.mono (by omega)), h2.of (hb.block _ (by omega)), (hb.block _ (by omega)).trans h3⟩
        case ownb2 =>
          rintro cc pre V V' ⟨h0, h4, h1, h2, h3⟩ hb
          exact ⟨h0, h4, h1.trans (hb.mono (by omega)), h2.of (hb.block _ (by omega)), (hb.block _ (by omega)).trans h3⟩
        case assignb =>
          rintro l pre x V K ⟨h1, h2, h3⟩ hz hK
          have hlt := h2.lt
          have lD' := (Array.getElem?_eq_some_iff.1 h3).1
          gi_wp2
          have hb1 : Below V.heap.size V ((V.alloc (.cells #[.int .i64 (bAt s (nS s - (x.val + 1)) : Int), .int .i64 ((nS s - (x.val + 1) : Nat) : Int)] 82)).alloc (.cells #[.int .i32 ((spA s (nS s - (x.val + 1))).r : Int), .int .i64 ((spA s (nS s - (x.val + 1))).n : Int), .bool (spA s (nS s - (x.val + 1))).bad] 25)) := ((Below.refl _ V).alloc (Nat.le_refl _) _).alloc (by simp) _
          have b2 := Blk.new (V.alloc (.cells #[.int .i64 (bAt s (nS s - (x.val + 1)) : Int), .int .i64 ((nS s - (x.val + 1) : Nat) : Int)] 82)) 25 #[.int .i32 ((spA s (nS s - (x.val + 1))).r : Int), .int .i64 ((spA s (nS s - (x.val + 1))).n : Int), .bool (spA s (nS s - (x.val + 1))).bad]
          simp only [World.size_alloc] at b2
          exact hK _ _ (Only.below hb1) ⟨h1.trans (hb1.mono h1.size), h2.below hb1, (hb1.block _ lD').trans h3⟩ ⟨V.heap.size, V.heap.size + 1, hlt, by omega, (Blk.new V _ _).alloc _, b2, rfl⟩
        case bodyb =>
          rintro l pre x a' V hl ⟨r, hr⟩ ⟨h1, h2, h3⟩ ⟨Bp, Bx, hBp, hBx, bP, bX, rfl⟩ ⟨k, hk, hpre⟩ hlt
          obtain ⟨hx, -, -⟩ := firstK_last hk hpre
          clear hpre hk
          obtain ⟨q, hq⟩ : ∃ q, nS s - (x.val + 1) = q := ⟨_, rfl⟩
          have hq1 : nS s - pre.length = q + 1 := by omega
          have hqe : nS s - (pre.length + 1) = q := by omega
          have hqn : q < nS s := by omega
          rw [hq1] at h2
          rw [hq] at bP bX
          simp only [hq]
          have n0 := h2.cell 0
          have nf := h2.frozen 0
          simp only [List.getElem?_toArray, List.getElem?_cons_zero] at n0
          replace n0 : V.cell? ⟨W.heap.size, 0, none⟩ = some (.int .i64 ((q : Int) + 1)) := n0
          have hqb : (q : Int) < 9223372036854775807 := by omega
          obtain ⟨V2, hV2⟩ : ∃ V2, V.setCell ⟨W.heap.size, 0, none⟩ (.int .i64 (q : Int)) = V2 := ⟨_, rfl⟩
          have h1' : Below W.heap.size W V2 := by rw [← hV2]; exact h1.setCell (Nat.le_refl _) _
          have h2' : Blk V2 W.heap.size 3 #[.int .i64 (q : Int)] := by rw [← hV2]; exact h2.set_ 0 _
          have bP' : Blk V2 Bp 82 #[.int .i64 (bAt s q : Int), .int .i64 (q : Int)] := by rw [← hV2]; exact bP.of (Below.heap_setCell _ _ _ _ (show Bp ≠ W.heap.size by omega))
          have bX' : Blk V2 Bx 25 #[.int .i32 ((spA s q).r : Int), .int .i64 ((spA s q).n : Int), .bool (spA s q).bad] := by rw [← hV2]; exact bX.of (Below.heap_setCell _ _ _ _ (show Bx ≠ W.heap.size by omega))
          have lD' := (Array.getElem?_eq_some_iff.1 h3).1
          have h3' : V2.heap[D]? = some (.deferred (some [])) := by rw [← hV2]; exact (Below.heap_setCell _ _ _ _ (show D ≠ W.heap.size by omega)).trans h3
          have hko : Only (fun k => k = W.heap.size) V V2 := by rw [← hV2]; exact Only.setCell _ _ _ _ rfl
          have hRV := hR.step h1'
          have HI := Lib.hid hR
          clear h1 h2 bP bX h3 hR2 hx
          gi_wp2_with fail
          try rw [hV2]
          clear hV2 n0 nf
          have n0 := h2'.cell 0
          have l0 := hRV.l.cell 0
          have p0 := bP'.cell 0
          have p1 := bP'.cell 1
          have x0 := bX'.cell 0
          have x1 := bX'.cell 1
          have x2 := bX'.cell 2
          obtain ⟨g, y, eA, hg, hy, hyp, _, y0, y1, y2, y3⟩ := hRV.row.at q hqn
          obtain rfl : spA s q = y := spA_eq hy
          rw [eA] at l0
          rw [hyp] at y1
          simp only [List.getElem?_toArray, List.getElem?_cons_succ, List.getElem?_cons_zero] at n0 l0 p0 p1 x0 x1 x2
          have qN := h2'.lt
          have qL := hRV.l.lt
          have qP := bP'.lt
          have qX := bX'.lt
          have t0 : decide ((q : Int) < 0) = false := by rw [decide_eq_false_iff_not]; omega
          have k0 : (0 : Int) ≤ (q : Int) := by omega
          have k1 : (q : Int) < (nS s : Int) := by omega
          have R0 : Hid (∀ V', Below V2.heap.size V2 V' → RUA s w T gb cb W1.heap.size A c st R8 ((1 : Nat) : Int) Ds V' ∧ Blk V' W.heap.size 3 #[.int .i64 (q : Int)] ∧ V'.heap[D]? = some (.deferred (some [])) ∧ Below W.heap.size W V') := Lib.hid (fun V' hb => ⟨hRV.step hb, h2'.below hb, (hb.block D (Array.getElem?_eq_some_iff.1 h3').1).trans h3', h1'.trans (hb.mono h1'.size)⟩)
          have Hko := Lib.hid hko
          clear h1' h2' h3' hko bP' bX' hRV hy hyp eA
          refine wpIn_round_below (by kernel_rfl) (by kernel_rfl) (by kernel_rfl) ?_
          repeat (first
            | gi_big_quiet_skip
            | (gi_big_quiet_want; gi_big_quiet_op; first
                | go_big_quiet_on
                | (refine ⟨_, fun _ _ => rfl, ?_⟩; go_big_quiet_on)
                | (apply Exists.intro
                   refine ⟨fun w0 hC0 => ?_, ?_⟩
                   · (have n0 := (hC0.cell (p := ⟨W.heap.size, 0, none⟩) qN).trans n0
                      have l0 := (hC0.cell (p := ⟨W1.heap.size, 0, none⟩) qL).trans l0
                      have p0 := (hC0.cell (p := ⟨Bp, 0, none⟩) qP).trans p0
                      have p1 := (hC0.cell (p := ⟨Bp, 1, none⟩) qP).trans p1
                      have x0 := (hC0.cell (p := ⟨Bx, 0, none⟩) qX).trans x0
                      have x1 := (hC0.cell (p := ⟨Bx, 1, none⟩) qX).trans x1
                      have x2 := (hC0.cell (p := ⟨Bx, 2, none⟩) qX).trans x2
                      have y0 := (hC0.cell (p := ⟨g, q * 4, none⟩) hg).trans y0
                      have y1 := (hC0.cell (p := ⟨g, q * 4 + 1, none⟩) hg).trans y1
                      have y2 := (hC0.cell (p := ⟨g, q * 4 + 2, none⟩) hg).trans y2
                      have y3 := (hC0.cell (p := ⟨g, q * 4 + 3, none⟩) hg).trans y3
                      go_simp
                      rfl)
                   go_big_quiet_on)))
          refine wpQuietIn_nil ?_
          intro w8 hb8
          obtain ⟨hR8', hN8, hD8, hB8⟩ := R0.out w8 hb8
          have n8 := hN8.cell 0
          have s8 := hR8'.sto.cell 0
          have r8 := hR8'.rnd.cell 0
          simp only [List.getElem?_toArray, List.getElem?_cons_zero] at n8 s8 r8
          replace r8 : w8.cell? ⟨R8, 0, none⟩ = some (.int .i64 1) := r8
          have hle : (pre ++ [x]).length = pre.length + 1 := by simp
          have Hfin : Hid (Only (fun k => k = W.heap.size) V w8 ∧ Below W.heap.size W w8 ∧ Blk w8 W.heap.size 3 #[.int .i64 ((nS s - (pre ++ [x]).length : Nat) : Int)] ∧ w8.heap[D]? = some (.deferred (some []))) := Lib.hid (by
            rw [hle, hqe]
            exact ⟨Hko.out.trans (Only.below hb8), hB8, hN8, hD8⟩)
          clear hR8' hN8 hb8 y0 y1 y2 y3 l0 p0 p1 x0 x1 x2 R0 t0 n0 hD8 hB8
          gi_wp2
          obtain ⟨f1, f3, f4, f5⟩ := Hfin.out
          exact ⟨f1, f3, f4, f5⟩
        case doneb =>
          rintro D2 ys V hD2 rfl ⟨h1, h2, h3⟩ hK
          have hlen : (List.finRange (nS s)).length = nS s := by simp
          rw [hlen] at h2
          simp only [Exit.then, Exit.inBlock]
          exact HB1 D2 (nS s - nS s) V h1 h2 hK h3 (by omega) (fun _ => by omega)
        case stopb =>
          rintro D2 cc pre V hD2 ⟨k, hk, hpre⟩ ⟨rfl, h0, h1, h2, h3⟩ hK
          apply wpIn_exit
          simp only [Exit.then, Exit.inBlock, ↓reduceIte]
          exact HB1 D2 (nS s - pre.length) V h1 h2 hK h3 (by omega) (fun h => by omega)
      have HI := Lib.hid hR
      have hlR := hR.l.lt
      have hfar := hR.far
      obtain ⟨WS, hWS⟩ : ∃ WS, W.alloc (.cells #[.int .i64 0] 3) = WS := ⟨_, rfl⟩
      have hsz : WS.heap.size = W.heap.size + 1 := by rw [← hWS]; simp
      have hW1 : Below W.heap.size W WS := by rw [← hWS]; exact (Below.refl _ W).alloc (Nat.le_refl _) _
      have hN1 : Blk WS W.heap.size 3 #[.int .i64 0] := by rw [← hWS]; exact Blk.new W _ _
      have hbS := (hR.step hW1).b1
      have hcT := (hR.step hW1).t0
      have hqq := hR.b1.lt
      rw [hWS]
      clear hWS
      refine wpIn_rangeFunc_ownB rfl (by omega) (gf := 96) (lb := #[.pointer (some ⟨W1.heap.size + 1, 0, none⟩)]) rfl trivial (enters_of Tryd.func96 (by kernel_rfl) rfl)
        (A := fun k => k = W.heap.size) (fun k hk => by omega)
        (all_B s T (W1.heap.size + 1) (fun k => k = W.heap.size) WS (fun k hk => by omega) hbS hcT (20 - 1) (by omega) hm) (Below.refl _ _) (fun _ => rfl)
        (fun pre V => Below W.heap.size W V ∧ Blk V W.heap.size 3 #[.int .i64 (pre.length : Int)]) (fun c pre V => c = .exit 2 ∧ 1 = 0 ∧ Below W.heap.size W V ∧ Blk V W.heap.size 3 #[.int .i64 (pre.length : Int)])
        ?own1 ?own2 ⟨hW1, hN1⟩
        (fun x a' V => ∃ Bp Bx, W.heap.size < Bp ∧ W.heap.size < Bx ∧ Blk V Bp 82 #[.int .i64 (bAt s x.val : Int), .int .i64 (x.val : Int)] ∧ Blk V Bx 25 #[.int .i32 ((spA s x.val).r : Int), .int .i64 ((spA s x.val).n : Int), .bool (spA s x.val).bad] ∧ a' = { tmps := #[Value.string s, Value.int .i64 stop, undef, Value.pointer (some ⟨w.heap.size, 0, none⟩), Value.pointer (some ⟨w.heap.size + 1, 0, none⟩), Value.pointer (some ⟨T, 0, none⟩), Value.bool false, Value.bool true, Value.pointer (some ⟨W1.heap.size, 0, none⟩), Value.func (.func 96) #[] #[.pointer (some ⟨W1.heap.size + 1, 0, none⟩)], Value.func (.func 97) #[] #[.pointer (some ⟨W1.heap.size + 1 + 1, 0, none⟩)], Value.func (.func 98) #[] #[.pointer (some ⟨W1.heap.size + 1 + 1 + 1, 0, none⟩)], Value.pointer (some ⟨R8, 0, none⟩), Value.pointer (some ⟨W.heap.size, 0, none⟩), Value.pointer (some ⟨Bp, 0, none⟩), Value.pointer (some ⟨Bx, 0, none⟩), u 16, u 17, u 18, u 19, u 20, u 21, u 22, u 23, u 24, u 25, u 26, u 27, u 28, u 29, u 30, u 31, u 32, u 33, u 34, u 35, u 36, u 37, u 38, u 39, u 40, u 41, u 42, u 43, u 44, u 45, u 46, u 47, u 48, u 49, u 50, u 51, u 52, Value.int .i64 1, Value.bool true, u 55, u 56, Value.func (.func 96) #[] #[.pointer (some ⟨W1.heap.size + 1, 0, none⟩)], Value.agg #[.int .i64 (bAt s x.val : Int), .int .i64 (x.val : Int)], Value.agg #[.int .i32 ((spA s x.val).r : Int), .int .i64 ((spA s x.val).n : Int), .bool (spA s x.val).bad], u 60, u 61, u 62, u 63, u 64, u 65, u 66, u 67, u 68, u 69, u 70, u 71, u 72, u 73, u 74, u 75, u 76, u 77, u 78, u 79, u 80, u 81, u 82, u 83, u 84, u 85, u 86, u 87, u 88, u 89, u 90, u 91, u 92, u 93, u 94, u 95, u 96, u 97, u 98, u 99, u 100, u 101, u 102, u 103, u 104, u 105, u 106, u 107, u 108, u 109, u 110, u 111, u 112, u 113, u 114, u 115, u 116, u 117, u 118, u 119, u 120, u 121, u 122, u 123, u 124, u 125, u 126, u 127, u 128, u 129, u 130, u 131, u 132, u 133, u 134, u 135, u 136, u 137, u 138, u 139, u 140, u 141, u 142, u 143, u 144, u 145, u 146, u 147, u 148, u 149, u 150, u 151, u 152, u 153, u 154, u 155, u 156, u 157, u 158, u 159, u 160, u 161, u 162, u 163, u 164, u 165, u 166, u 167, u 168, u 169, u 170, u 171, u 172, u 173, u 174, u 175, u 176, u 177, u 178, u 179, u 180, u 181, u 182, u 183, u 184, u 185, u 186, u 187, u 188, u 189, u 190, u 191, u 192, u 193, u 194, u 195, u 196, u 197, u 198, u 199, u 200, u 201, u 202, u 203, u 204, u 205, u 206, u 207, u 208, u 209, u 210, u 211, u 212, u 213, u 214, u 215, u 216, u 217, u 218, u 219, u 220], defers := [] })
        (fun x a' _ X Y row hs hg hr => by obtain ⟨Bp, Bx, h1, h2, h3, h4, h5⟩ := hs; exact ⟨Bp, Bx, h1, h2, blk_own h3 hg hr, blk_own h4 hg hr, h5⟩)
        ?assign ?body ?done ?stop
      case own1 =>
        rintro pre V V' ⟨h1, h2⟩ hb
        exact ⟨h1.trans (hb.mono (by omega)), h2.of (hb.block _ (by omega))⟩
      case own2 =>
        rintro cc pre V V' ⟨h0, h3, h1, h2⟩ hb
        exact ⟨h0, h3, h1.trans (hb.mono (by omega)), h2.of (hb.block _ (by omega))⟩
      case assign =>
        rintro l pre x V K ⟨h1, h2⟩ hz hK
        have hlt := h2.lt
        gi_wp2
        have hb1 : Below V.heap.size V ((V.alloc (.cells #[.int .i64 (bAt s x.val : Int), .int .i64 (x.val : Int)] 82)).alloc (.cells #[.int .i32 ((spA s x.val).r : Int), .int .i64 ((spA s x.val).n : Int), .bool (spA s x.val).bad] 25)) := ((Below.refl _ V).alloc (Nat.le_refl _) _).alloc (by simp) _
        have b2 := Blk.new (V.alloc (.cells #[.int .i64 (bAt s x.val : Int), .int .i64 (x.val : Int)] 82)) 25 #[.int .i32 ((spA s x.val).r : Int), .int .i64 ((spA s x.val).n : Int), .bool (spA s x.val).bad]
        simp only [World.size_alloc] at b2
        exact hK _ _ (Only.below hb1) ⟨h1.trans (hb1.mono h1.size), h2.below hb1⟩ ⟨V.heap.size, V.heap.size + 1, hlt, by omega, (Blk.new V _ _).alloc _, b2, rfl⟩
      case body =>
        rintro l pre x a' V hl ⟨r, hr⟩ ⟨h1, h2⟩ ⟨Bp, Bx, hBp, hBx, bP, bX, rfl⟩ ⟨k, hk, hpre⟩ hlt
        obtain ⟨hx, -, -⟩ := firstK_last hk hpre
        clear hpre hk
        rw [hx] at bP bX
        simp only [hx]
        have hRV := HI.out.step h1
        have n0 := h2.cell 0
        have l0 := hRV.l.cell 0
        have p0 := bP.cell 0
        have p1 := bP.cell 1
        have x0 := bX.cell 0
        have x1 := bX.cell 1
        have x2 := bX.cell 2
        obtain ⟨g, y, eA, hg, hy, hyp, _, y0, y1, y2, y3⟩ := hRV.row.at pre.length hlt
        obtain rfl : spA s pre.length = y := spA_eq hy
        rw [eA] at l0
        rw [hyp] at y1
        simp only [List.getElem?_toArray, List.getElem?_cons_succ, List.getElem?_cons_zero] at n0 l0 p0 p1 x0 x1 x2
        have qN := h2.lt
        have qL := hRV.l.lt
        have qP := bP.lt
        have qX := bX.lt
        have t0 : decide ((nS s : Int) ≤ (pre.length : Int)) = false := by rw [decide_eq_false_iff_not]; omega
        have t0' : decide (nS s ≤ pre.length) = false := by rw [decide_eq_false_iff_not]; omega
        have k0 : (0 : Int) ≤ (pre.length : Int) := by omega
        have k1 : (pre.length : Int) < (nS s : Int) := by omega
        have hpl : (pre.length : Int) < 9223372036854775807 := by omega
        have R0 : Hid (∀ V', Below V.heap.size V V' → RUA s w T gb cb W1.heap.size A c st R8 ((1 : Nat) : Int) Ds V' ∧ Blk V' W.heap.size 3 #[.int .i64 (pre.length : Int)]) := Lib.hid (fun V' hb => ⟨hRV.step hb, h2.below hb⟩)
        have Hh1 := Lib.hid h1
        clear h1 h2 bP bX hRV hy hyp eA hsz hx
        gi_wp2_with fail
        refine wpIn_round_below (by kernel_rfl) (by kernel_rfl) (by kernel_rfl) ?_
        repeat (first
          | gi_big_quiet_skip
          | (gi_big_quiet_want; gi_big_quiet_op; first
              | go_big_quiet_on
              | (refine ⟨_, fun _ _ => rfl, ?_⟩; go_big_quiet_on)
              | (apply Exists.intro
                 refine ⟨fun w0 hC0 => ?_, ?_⟩
                 · (have n0 := (hC0.cell (p := ⟨W.heap.size, 0, none⟩) qN).trans n0
                    have l0 := (hC0.cell (p := ⟨W1.heap.size, 0, none⟩) qL).trans l0
                    have p0 := (hC0.cell (p := ⟨Bp, 0, none⟩) qP).trans p0
                    have p1 := (hC0.cell (p := ⟨Bp, 1, none⟩) qP).trans p1
                    have x0 := (hC0.cell (p := ⟨Bx, 0, none⟩) qX).trans x0
                    have x1 := (hC0.cell (p := ⟨Bx, 1, none⟩) qX).trans x1
                    have x2 := (hC0.cell (p := ⟨Bx, 2, none⟩) qX).trans x2
                    have y0 := (hC0.cell (p := ⟨g, pre.length * 4, none⟩) hg).trans y0
                    have y1 := (hC0.cell (p := ⟨g, pre.length * 4 + 1, none⟩) hg).trans y1
                    have y2 := (hC0.cell (p := ⟨g, pre.length * 4 + 2, none⟩) hg).trans y2
                    have y3 := (hC0.cell (p := ⟨g, pre.length * 4 + 3, none⟩) hg).trans y3
                    go_simp
                    rfl)
                 go_big_quiet_on)))
        refine wpQuietIn_nil ?_
        intro w8 hb8
        obtain ⟨hR8', hN8⟩ := R0.out w8 hb8
        have n8 := hN8.cell 0
        have nf := hN8.frozen 0
        have s8 := hR8'.sto.cell 0
        have r8 := hR8'.rnd.cell 0
        simp only [List.getElem?_toArray, List.getElem?_cons_zero] at n8 s8 r8
        replace r8 : w8.cell? ⟨R8, 0, none⟩ = some (.int .i64 1) := r8
        have Hfin : Hid (∀ m : Int, m = ((pre ++ [x]).length : Int) → Only (fun k => k = W.heap.size) V (w8.setCell ⟨W.heap.size, 0, none⟩ (.int .i64 m)) ∧ Below W.heap.size W (w8.setCell ⟨W.heap.size, 0, none⟩ (.int .i64 m)) ∧ Blk (w8.setCell ⟨W.heap.size, 0, none⟩ (.int .i64 m)) W.heap.size 3 #[.int .i64 ((pre ++ [x]).length : Int)]) := Lib.hid (by
          rintro m rfl
          exact ⟨(Only.below hb8).trans (Only.setCell _ _ _ _ rfl), (Hh1.out.trans (hb8.mono Hh1.out.size)).setCell (Nat.le_refl _) _, hN8.set_ 0 _⟩)
        clear hR8' hN8 hb8 y0 y1 y2 y3 l0 p0 p1 x0 x1 x2 R0 t0 t0' n0
        have lt1 := HI.out.rnd.lt
        have lt2 := HI.out.sto.lt
        have ne1 : ¬ R8 = W.heap.size := by omega
        have ne2 : ¬ w.heap.size = W.heap.size := by omega
        have ne3 : ¬ W.heap.size = R8 := by omega
        have ne4 : ¬ W.heap.size = w.heap.size := by omega
        have r9 : ∀ m : Int, (w8.setCell ⟨W.heap.size, 0, none⟩ (.int .i64 m)).cell? ⟨R8, 0, none⟩ = some (.int .i64 1) := fun m => (World.cell?_of_block (Below.heap_setCell _ _ _ _ ne1)).trans r8
        have s9 : ∀ m : Int, (w8.setCell ⟨W.heap.size, 0, none⟩ (.int .i64 m)).cell? ⟨w.heap.size, 0, none⟩ = some (.int .i64 st) := fun m => (World.cell?_of_block (Below.heap_setCell _ _ _ _ ne2)).trans s8
        gi_wp2
        obtain ⟨f1, f3, f4⟩ := Hfin.out ((pre.length : Int) + 1) (by simp)
        exact ⟨f1, f3, f4⟩
      case done =>
        rintro D ys V hD rfl ⟨h1, h2⟩ hK
        have hlen : (List.finRange (nS s)).length = nS s := by simp
        rw [hlen] at h2
        simp only [Exit.then, Exit.inBlock]
        exact HA1 D (nS s) V h1 h2 hK (by omega) (Nat.le_refl _) (fun _ => rfl)
      case stop =>
        rintro D cc pre V hD ⟨k, hk, hpre⟩ ⟨rfl, h0, h1, h2⟩ hK
        apply wpIn_exit
        simp only [Exit.then, Exit.inBlock, ↓reduceIte]
        exact HA1 D pre.length V h1 h2 hK (by omega) (by rw [hpre, firstK_length s k hk]; exact hk) (fun h => by omega)
/-- guiselaw2.SpotsAll answers true -/
theorem allU_walk (s : ByteArray) (stop : Int) (w : World) (hs : s.size ≤ 9223372036854775807) (hst : -9223372036854775808 ≤ stop ∧ stop ≤ 9223372036854775807) (hT : Lib.Utf8Tabs 0 1 w) :
    Calls Tryd.prog 18 #[.string s, .int .i64 stop] w fun e w' => e = .returned (.bool true) ∧ Below w.heap.size w w' := by
  by_cases hm : s.size ≤ 65536
  · exact allU_short s stop w hm hst hT
  · exact allU_long s stop w hs (by omega)
end Go.Proofs.YtkenffbonnbflaaDoor
