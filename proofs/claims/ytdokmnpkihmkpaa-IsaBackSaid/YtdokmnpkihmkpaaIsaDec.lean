/- Contract of the reference's Decode. -/
import Derived.Test.YtdokmnpkihmkpaaIsaAw
set_option linter.unusedVariables false
namespace Go.Proofs.Ytdokmnpkihmkpaa.IsaDec
open Go.RowKit Go.Proofs.Ytdokmnpkihmkpaa.Base Go.Proofs.Ytdokmnpkihmkpaa.Row Go.Proofs.Ytdokmnpkihmkpaa.Once Go.Proofs.Ytdokmnpkihmkpaa.Isa Go.Proofs.Ytdokmnpkihmkpaa.Isa2 Go.Proofs.Ytdokmnpkihmkpaa.Math Go.Proofs.Ytdokmnpkihmkpaa.IsaMath Go.Proofs.Ytdokmnpkihmkpaa.Isa3 Go.Proofs.Ytdokmnpkihmkpaa.IsaRef Go.Proofs.Ytdokmnpkihmkpaa.IsaAw

set_option maxRecDepth 100000 in
set_option maxHeartbeats 4000000 in
theorem decode_r (x : Int) (w : World) (h0 : 0 ≤ x) (h1 : x < 4294967296) :
    Calls Try.prog 50 #[.int .u32 x] w fun r w' => r = .returned (.tuple #[.agg (decI x), .bool (decB x)]) ∧ Below w.heap.size w w' := by
  have hw0 : wrap64 x = x := by unfold wrap64; omega
  have e1 : x.tdiv 16777216 = x / 16777216 := Int.tdiv_eq_ediv_of_nonneg h0
  have e2 : x.tdiv 1048576 = x / 1048576 := Int.tdiv_eq_ediv_of_nonneg h0
  have e3 : x.tdiv 65536 = x / 65536 := Int.tdiv_eq_ediv_of_nonneg h0
  have e4 : (x / 1048576).tmod 16 = x / 1048576 % 16 := Int.tmod_eq_emod_of_nonneg (by omega)
  have e5 : (x / 65536).tmod 16 = x / 65536 % 16 := Int.tmod_eq_emod_of_nonneg (by omega)
  have e6 : x.tmod 65536 = x % 65536 := Int.tmod_eq_emod_of_nonneg h0
  have hw1 : wrap64 (x / 16777216) = x / 16777216 := by unfold wrap64; omega
  have hw2 : wrap64 (x / 1048576) = x / 1048576 := by unfold wrap64; omega
  have hw3 : wrap64 (x / 65536) = x / 65536 := by unfold wrap64; omega
  have hdI := Lib.hid (show decI x = if decB x then ins (x / 16777216) (x / 1048576 % 16) (x / 65536 % 16) (simm x) else ins 0 0 0 0 from rfl)
  have hval := Lib.hid (valid_r (x / 16777216) (x / 1048576 % 16) (x / 65536 % 16) (simm x))
  have hdB : Hid (refB (x / 16777216) (x / 1048576 % 16) (x / 65536 % 16) (simm x) = decB x) := Lib.hid rfl
  rw [hdB.out] at hval
  have hc : 32768 ≤ x % 65536 ∨ ¬ 32768 ≤ x % 65536 := Classical.em _
  have hs1 : wrap64 (x % 65536 - 65536) = x % 65536 - 65536 := by unfold wrap64; omega
  rcases hc with hc | hc
  · have q0 : decide (32768 ≤ x % 65536) = true := by simpa using hc
    have hsm : Hid (simm x = x % 65536 - 65536) := Lib.hid (by unfold simm; rw [if_pos hc])
    rw [hsm.out] at hdI hval
    clear hc h0 h1
    generalize decB x = v at *
    cases v with
    | true =>
      rw [if_pos rfl] at hdI
      rw [hdI.out]
      go_enter Try.func50, Try.ntmps50
      go_wp2_with (first
        | (have _z := k1; (with_reducible refine wl_alloc rfl 77 rfl (ins 0 0 0 0) new_j ?_); intro w3 k3 b3 s3)
        | ((with_reducible refine wl_alloc rfl 77 rfl (ins 0 0 0 0) new_j ?_); intro w1 k1 b1 s1)
        | ((refine wl_store (by rfl) 77 _ _ (by rfl) w1.heap.size (by rfl) (ins (x / 16777216) (x / 1048576 % 16) (x / 65536 % 16) (x % 65536)) (by rfl) 77 (ins 0 0 0 0) k3 (size_j _ rfl) rfl (one_i _ _ _ _) ?_); intro w4 k4 g4 s4; have d3 := k4.cellv 3 (.int .i64 (x % 65536)) rfl)
        | ((refine wl_set (by rfl) 3 _ _ (by rfl) w1.heap.size 3 (by rfl) (.int .i64 (x % 65536 - 65536)) (by rfl) rfl 77 (ins (x / 16777216) (x / 1048576 % 16) (x / 65536 % 16) (x % 65536)) k4 size_int (Nat.lt_succ_self 3) ?_); intro w5 k5' g5 s5; have k5 : Blk w5 w1.heap.size 77 (ins (x / 16777216) (x / 1048576 % 16) (x / 65536 % 16) (x % 65536 - 65536)) := k5')
        | (refine wl_load (by rfl) 77 _ (by rfl) w1.heap.size (by rfl) 77 (ins (x / 16777216) (x / 1048576 % 16) (x / 65536 % 16) (x % 65536 - 65536)) _ k5 Try.underlying77 rfl (size_j _ rfl) ?_))
      have z1 := b1.size
      have BB : Below w.heap.size w w4 := below_grown (bl_then b1 b3) (by have := b3.size; omega) g4 z1
      have BB5 : Below w.heap.size w w5 := below_grown BB BB.size g5 z1
      have KR5 : Blk w5 w.heap.size 77 (ins 0 0 0 0) := ((k1.below b3).grown g4 (fun e => by injection e with e; omega)).grown g5 (fun e => by injection e with e; omega)
      refine (hval.out w5).mono ?_
      rintro r w6 ⟨rfl, b6⟩
      have KR := KR5.below b6
      have KI := k5.below b6
      go_wp2_with (first
        | (refine wl_load (by rfl) 77 _ (by rfl) w1.heap.size (by rfl) 77 (ins (x / 16777216) (x / 1048576 % 16) (x / 65536 % 16) (x % 65536 - 65536)) _ KI Try.underlying77 rfl (size_j _ rfl) ?_)
        | ((refine wl_store (by rfl) 77 _ _ (by rfl) w.heap.size (by rfl) (ins (x / 16777216) (x / 1048576 % 16) (x / 65536 % 16) (x % 65536 - 65536)) (by rfl) 77 (ins 0 0 0 0) KR (size_j _ rfl) rfl (one_i _ _ _ _) ?_); intro w7 k7 g7 s7))
      refine bodyPost_ret (res_cell_tmp rfl _ _ _ w.heap.size 77 (ins (x / 16777216) (x / 1048576 % 16) (x / 65536 % 16) (x % 65536 - 65536)) _ rfl k7 Try.underlying77 rfl (size_j _ rfl)) rfl ⟨rfl, ?_⟩
      exact below_grown (bl_then BB5 b6) (by have := BB5.size; have := b6.size; omega) g7 (Nat.le_refl _)
    | false =>
      rw [if_neg (by decide)] at hdI
      rw [hdI.out]
      go_enter Try.func50, Try.ntmps50
      go_wp2_with (first
        | (have _z := k1; (with_reducible refine wl_alloc rfl 77 rfl (ins 0 0 0 0) new_j ?_); intro w3 k3 b3 s3)
        | ((with_reducible refine wl_alloc rfl 77 rfl (ins 0 0 0 0) new_j ?_); intro w1 k1 b1 s1)
        | ((refine wl_store (by rfl) 77 _ _ (by rfl) w1.heap.size (by rfl) (ins (x / 16777216) (x / 1048576 % 16) (x / 65536 % 16) (x % 65536)) (by rfl) 77 (ins 0 0 0 0) k3 (size_j _ rfl) rfl (one_i _ _ _ _) ?_); intro w4 k4 g4 s4; have d3 := k4.cellv 3 (.int .i64 (x % 65536)) rfl)
        | ((refine wl_set (by rfl) 3 _ _ (by rfl) w1.heap.size 3 (by rfl) (.int .i64 (x % 65536 - 65536)) (by rfl) rfl 77 (ins (x / 16777216) (x / 1048576 % 16) (x / 65536 % 16) (x % 65536)) k4 size_int (Nat.lt_succ_self 3) ?_); intro w5 k5' g5 s5; have k5 : Blk w5 w1.heap.size 77 (ins (x / 16777216) (x / 1048576 % 16) (x / 65536 % 16) (x % 65536 - 65536)) := k5')
        | (refine wl_load (by rfl) 77 _ (by rfl) w1.heap.size (by rfl) 77 (ins (x / 16777216) (x / 1048576 % 16) (x / 65536 % 16) (x % 65536 - 65536)) _ k5 Try.underlying77 rfl (size_j _ rfl) ?_))
      have z1 := b1.size
      have BB : Below w.heap.size w w4 := below_grown (bl_then b1 b3) (by have := b3.size; omega) g4 z1
      have BB5 : Below w.heap.size w w5 := below_grown BB BB.size g5 z1
      have KR5 : Blk w5 w.heap.size 77 (ins 0 0 0 0) := ((k1.below b3).grown g4 (fun e => by injection e with e; omega)).grown g5 (fun e => by injection e with e; omega)
      refine (hval.out w5).mono ?_
      rintro r w6 ⟨rfl, b6⟩
      have KR := KR5.below b6
      have KI := k5.below b6
      go_wp2_with (first
        | (with_reducible refine wl_build0 rfl 77 rfl (ins 0 0 0 0) zero_j ?_)
        | ((refine wl_store (by rfl) 77 _ _ (by rfl) w.heap.size (by rfl) (ins 0 0 0 0) (by rfl) 77 (ins 0 0 0 0) KR (size_j _ rfl) rfl (one_i _ _ _ _) ?_); intro w7 k7 g7 s7))
      refine bodyPost_ret (res_cell_tmp rfl _ _ _ w.heap.size 77 (ins 0 0 0 0) _ rfl k7 Try.underlying77 rfl (size_j _ rfl)) rfl ⟨rfl, ?_⟩
      exact below_grown (bl_then BB5 b6) (by have := BB5.size; have := b6.size; omega) g7 (Nat.le_refl _)
  · have q0 : decide (32768 ≤ x % 65536) = false := by simpa using hc
    have hsm : Hid (simm x = x % 65536) := Lib.hid (by unfold simm; rw [if_neg hc])
    rw [hsm.out] at hdI hval
    clear hc h0 h1
    generalize decB x = v at *
    cases v with
    | true =>
      rw [if_pos rfl] at hdI
      rw [hdI.out]
      go_enter Try.func50, Try.ntmps50
      go_wp2_with (first
        | (have _z := k1; (with_reducible refine wl_alloc rfl 77 rfl (ins 0 0 0 0) new_j ?_); intro w3 k3 b3 s3)
        | ((with_reducible refine wl_alloc rfl 77 rfl (ins 0 0 0 0) new_j ?_); intro w1 k1 b1 s1)
        | ((refine wl_store (by rfl) 77 _ _ (by rfl) w1.heap.size (by rfl) (ins (x / 16777216) (x / 1048576 % 16) (x / 65536 % 16) (x % 65536)) (by rfl) 77 (ins 0 0 0 0) k3 (size_j _ rfl) rfl (one_i _ _ _ _) ?_); intro w4 k4 g4 s4; have d3 := k4.cellv 3 (.int .i64 (x % 65536)) rfl; obtain ⟨w5, hw5⟩ : ∃ w5, w5 = w4 := ⟨_, rfl⟩; subst hw5; have k5 := k4)
        | (refine wl_load (by rfl) 77 _ (by rfl) w1.heap.size (by rfl) 77 (ins (x / 16777216) (x / 1048576 % 16) (x / 65536 % 16) (x % 65536)) _ k5 Try.underlying77 rfl (size_j _ rfl) ?_))
      have z1 := b1.size
      have BB : Below w.heap.size w w5 := below_grown (bl_then b1 b3) (by have := b3.size; omega) g4 z1
      have BB5 : Below w.heap.size w w5 := BB
      have KR5 : Blk w5 w.heap.size 77 (ins 0 0 0 0) := (k1.below b3).grown g4 (fun e => by injection e with e; omega)
      refine (hval.out w5).mono ?_
      rintro r w6 ⟨rfl, b6⟩
      have KR := KR5.below b6
      have KI := k5.below b6
      go_wp2_with (first
        | (refine wl_load (by rfl) 77 _ (by rfl) w1.heap.size (by rfl) 77 (ins (x / 16777216) (x / 1048576 % 16) (x / 65536 % 16) (x % 65536)) _ KI Try.underlying77 rfl (size_j _ rfl) ?_)
        | ((refine wl_store (by rfl) 77 _ _ (by rfl) w.heap.size (by rfl) (ins (x / 16777216) (x / 1048576 % 16) (x / 65536 % 16) (x % 65536)) (by rfl) 77 (ins 0 0 0 0) KR (size_j _ rfl) rfl (one_i _ _ _ _) ?_); intro w7 k7 g7 s7))
      refine bodyPost_ret (res_cell_tmp rfl _ _ _ w.heap.size 77 (ins (x / 16777216) (x / 1048576 % 16) (x / 65536 % 16) (x % 65536)) _ rfl k7 Try.underlying77 rfl (size_j _ rfl)) rfl ⟨rfl, ?_⟩
      exact below_grown (bl_then BB5 b6) (by have := BB5.size; have := b6.size; omega) g7 (Nat.le_refl _)
    | false =>
      rw [if_neg (by decide)] at hdI
      rw [hdI.out]
      go_enter Try.func50, Try.ntmps50
      go_wp2_with (first
        | (have _z := k1; (with_reducible refine wl_alloc rfl 77 rfl (ins 0 0 0 0) new_j ?_); intro w3 k3 b3 s3)
        | ((with_reducible refine wl_alloc rfl 77 rfl (ins 0 0 0 0) new_j ?_); intro w1 k1 b1 s1)
        | ((refine wl_store (by rfl) 77 _ _ (by rfl) w1.heap.size (by rfl) (ins (x / 16777216) (x / 1048576 % 16) (x / 65536 % 16) (x % 65536)) (by rfl) 77 (ins 0 0 0 0) k3 (size_j _ rfl) rfl (one_i _ _ _ _) ?_); intro w4 k4 g4 s4; have d3 := k4.cellv 3 (.int .i64 (x % 65536)) rfl; obtain ⟨w5, hw5⟩ : ∃ w5, w5 = w4 := ⟨_, rfl⟩; subst hw5; have k5 := k4)
        | (refine wl_load (by rfl) 77 _ (by rfl) w1.heap.size (by rfl) 77 (ins (x / 16777216) (x / 1048576 % 16) (x / 65536 % 16) (x % 65536)) _ k5 Try.underlying77 rfl (size_j _ rfl) ?_))
      have z1 := b1.size
      have BB : Below w.heap.size w w5 := below_grown (bl_then b1 b3) (by have := b3.size; omega) g4 z1
      have BB5 : Below w.heap.size w w5 := BB
      have KR5 : Blk w5 w.heap.size 77 (ins 0 0 0 0) := (k1.below b3).grown g4 (fun e => by injection e with e; omega)
      refine (hval.out w5).mono ?_
      rintro r w6 ⟨rfl, b6⟩
      have KR := KR5.below b6
      have KI := k5.below b6
      go_wp2_with (first
        | (with_reducible refine wl_build0 rfl 77 rfl (ins 0 0 0 0) zero_j ?_)
        | ((refine wl_store (by rfl) 77 _ _ (by rfl) w.heap.size (by rfl) (ins 0 0 0 0) (by rfl) 77 (ins 0 0 0 0) KR (size_j _ rfl) rfl (one_i _ _ _ _) ?_); intro w7 k7 g7 s7))
      refine bodyPost_ret (res_cell_tmp rfl _ _ _ w.heap.size 77 (ins 0 0 0 0) _ rfl k7 Try.underlying77 rfl (size_j _ rfl)) rfl ⟨rfl, ?_⟩
      exact below_grown (bl_then BB5 b6) (by have := BB5.size; have := b6.size; omega) g7 (Nat.le_refl _)
end Go.Proofs.Ytdokmnpkihmkpaa.IsaDec
