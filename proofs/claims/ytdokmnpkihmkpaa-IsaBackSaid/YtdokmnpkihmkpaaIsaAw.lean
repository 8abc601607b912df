/- Nil tables, the reference's Decode, and the chapter's example. -/
import Derived.Test.YtdokmnpkihmkpaaIsaRef
set_option linter.unusedVariables false
namespace Go.Proofs.Ytdokmnpkihmkpaa.IsaAw
open Go.RowKit Go.Proofs.Ytdokmnpkihmkpaa.Base Go.Proofs.Ytdokmnpkihmkpaa.Row Go.Proofs.Ytdokmnpkihmkpaa.Once Go.Proofs.Ytdokmnpkihmkpaa.Isa Go.Proofs.Ytdokmnpkihmkpaa.Isa2 Go.Proofs.Ytdokmnpkihmkpaa.Math Go.Proofs.Ytdokmnpkihmkpaa.IsaMath Go.Proofs.Ytdokmnpkihmkpaa.Isa3 Go.Proofs.Ytdokmnpkihmkpaa.IsaRef

theorem zero_t : Try.prog.built 92 [] = some (oc 0 0 (nums .i64 T0 ++ [])) := by kernel_rfl

set_option maxRecDepth 100000 in
theorem valid_nil (op a b n : Int) (w : World) :
    Calls Try.prog 46 #[.pointer none, .agg (ins op a b n)] w fun r w' => r = .returned (.bool false) ∧ Below w.heap.size w w' := by
  have d0 := (Blk.new w 94 (ins op a b n)).cellv 0 (.int .i64 op) rfl
  go_enter Try.func46, Try.ntmps46
  go_wp2_with fail
  refine (fields_nil op _).mono ?_
  rintro r w1 ⟨rfl, rfl⟩
  go_wp2
  go_ret
  exact ⟨rfl, bl_alloc (bl_refl w) _⟩
set_option maxRecDepth 100000 in
set_option maxHeartbeats 4000000 in
theorem decode_nil (x : Int) (w : World) (h0 : 0 ≤ x) (h1 : x < 4294967296) :
    Calls Try.prog 49 #[.pointer none, .int .u32 x] w fun r w' => r = .returned (.tuple #[.agg (ins 0 0 0 0), .bool false]) ∧ Below w.heap.size w w' := by
  have ha : bits .and .u32 (x / 1048576) 15 = x / 1048576 % 16 := and_mask32 (x / 1048576) 4 15 (by omega) rfl (by omega) (by omega)
  have hb : bits .and .u32 (x / 65536) 15 = x / 65536 % 16 := and_mask32 (x / 65536) 4 15 (by omega) rfl (by omega) (by omega)
  have hs := Lib.hid (sign_c x h0 h1)
  have hsw := simm_wrap x
  have hw1 : wrap64 (x / 1048576 % 16) = x / 1048576 % 16 := by unfold wrap64; omega
  have hw2 : wrap64 (x / 65536 % 16) = x / 65536 % 16 := by unfold wrap64; omega
  have hw3 : wrap64 (x / 16777216) = x / 16777216 := by unfold wrap64; omega
  have hw4 : wrap64 (simm x) = simm x := by unfold wrap64 simm; split <;> omega
  have hval := Lib.hid (valid_nil (x / 16777216) (x / 1048576 % 16) (x / 65536 % 16) (simm x))
  clear h0 h1
  go_enter Try.func49, Try.ntmps49
  go_wp2_with (first
    | ((with_reducible refine wl_alloc rfl 94 rfl (ins 0 0 0 0) new_i ?_); intro w1 k1 b1 s1))
  refine (hs.out _).mono ?_
  rintro r w2 ⟨rfl, rfl⟩
  go_wp2_with (first
    | ((with_reducible refine wl_alloc rfl 94 rfl (ins 0 0 0 0) new_i ?_); intro w3 k3 b3 s3)
    | ((refine wl_store (by rfl) 94 _ _ (by rfl) w1.heap.size (by rfl) (ins (x / 16777216) (x / 1048576 % 16) (x / 65536 % 16) (simm x)) (by rfl) 94 (ins 0 0 0 0) k3 (size_i _ rfl) rfl (one_i _ _ _ _) ?_); intro w4 k4 g4 s4)
    | (refine wl_load (by rfl) 94 _ (by rfl) w1.heap.size (by rfl) 94 (ins (x / 16777216) (x / 1048576 % 16) (x / 65536 % 16) (simm x)) _ k4 Try.underlying94 rfl (size_i _ rfl) ?_))
  have z1 := b1.size
  refine (hval.out w4).mono ?_
  rintro r w5 ⟨rfl, b5⟩
  have KR := ((k1.below b3).grown g4 (fun e => by injection e with e; omega)).below b5
  go_wp2_with (first
    | (with_reducible refine wl_build0 rfl 94 rfl (ins 0 0 0 0) zero_i ?_)
    | ((refine wl_store (by rfl) 94 _ _ (by rfl) w.heap.size (by rfl) (ins 0 0 0 0) (by rfl) 94 (ins 0 0 0 0) KR (size_i _ rfl) rfl (one_i _ _ _ _) ?_); intro w6 k6 g6 s6))
  refine bodyPost_ret (res_cell_tmp rfl _ _ _ w.heap.size 94 (ins 0 0 0 0) _ rfl k6 Try.underlying94 rfl (size_i _ rfl)) rfl ⟨rfl, ?_⟩
  have BB : Below w.heap.size w w4 := below_grown (bl_then b1 b3) (by have := b3.size; omega) g4 z1
  exact below_grown (bl_then BB b5) (by have := BB.size; have := b5.size; omega) g6 (Nat.le_refl _)

set_option maxRecDepth 100000 in
set_option maxHeartbeats 4000000 in
theorem awake_c (w : World) : Calls Try.prog 48 #[] w fun e w' => e = .returned (.bool true) ∧ Below w.heap.size w w' := by
  have hE := Lib.hid (fun w' h => encode_c w.heap.size 92 [] 1 1 0 5 w' h)
  rw [show encR 1 1 0 5 = 17825797 from by decide, show refB 1 1 0 5 = true from by decide] at hE
  have hV := Lib.hid (fun w' h => valid_c w.heap.size 92 [] 3 1 2 1 w' h)
  rw [show valB 3 1 2 1 = false from by rw [val_eq]; decide] at hV
  go_enter Try.func48, Try.ntmps48
  go_wp2_with (first
    | (with_reducible refine wl_build0 rfl 92 rfl (oc 0 0 (nums .i64 T0 ++ [])) zero_t ?_)
    | ((with_reducible refine wl_box rfl 92 _ rfl (oc 0 0 (nums .i64 T0 ++ [])) rfl ?_); intro w1 k1 b1 s1))
  refine (hE.out w1 (.inl k1)).mono ?_
  rintro r w2 ⟨rfl, T2, g2⟩
  have B2 := below_grown b1 b1.size g2 (Nat.le_refl _)
  go_wp2_with fail
  refine (hV.out w2 T2).mono ?_
  rintro r w3 ⟨rfl, T3, g3⟩
  have B3 := below_grown B2 B2.size g3 (Nat.le_refl _)
  go_wp2
  go_ret
  exact ⟨rfl, B3⟩
end Go.Proofs.Ytdokmnpkihmkpaa.IsaAw
