/- IsaKnows: at every number the law's text returns true. -/
import Derived.Test.YtdokmnpkihmkpaaIsaAw
set_option linter.unusedVariables false
namespace Go.Proofs.Ytdokmnpkihmkpaa.IsaKnows
open Go.RowKit Go.Proofs.Ytdokmnpkihmkpaa.Base Go.Proofs.Ytdokmnpkihmkpaa.Row Go.Proofs.Ytdokmnpkihmkpaa.Once Go.Proofs.Ytdokmnpkihmkpaa.Isa Go.Proofs.Ytdokmnpkihmkpaa.Isa2 Go.Proofs.Ytdokmnpkihmkpaa.Math Go.Proofs.Ytdokmnpkihmkpaa.IsaMath Go.Proofs.Ytdokmnpkihmkpaa.Isa3 Go.Proofs.Ytdokmnpkihmkpaa.IsaRef Go.Proofs.Ytdokmnpkihmkpaa.IsaAw

set_option maxRecDepth 100000 in
set_option maxHeartbeats 4000000 in
theorem main (op : Int) (w : World) : Calls Try.prog 12 #[.int .i64 op] w fun e w' => e = .returned (.bool true) ∧ Below w.heap.size w w' := by
  have hK := Lib.hid (fun w' h => known_c w.heap.size 92 [] op w' h)
  rw [known_eq] at hK
  have hF := Lib.hid (fields_r op)
  generalize fa op = fA at *
  generalize fb op = fB at *
  generalize fi op = fI at *
  generalize fk op = fK at *
  go_enter Try.func12, Try.ntmps12
  go_wp2_with (first
    | (with_reducible refine wl_build0 rfl 92 rfl (oc 0 0 (nums .i64 T0 ++ [])) zero_t ?_)
    | ((with_reducible refine wl_box rfl 92 _ rfl (oc 0 0 (nums .i64 T0 ++ [])) rfl ?_); intro w1 k1 b1 s1))
  refine (hF.out w1).mono ?_
  rintro r w2 ⟨rfl, rfl⟩
  go_wp2_with fail
  refine (decode_nil 17825797 w1 (by omega) (by omega)).mono ?_
  rintro r w3 ⟨rfl, b3⟩
  have k3 := k1.below b3
  have B3 := bl_then b1 b3
  have z3 := b3.size
  clear k1 b1 b3
  go_wp2_with (first
    | ((with_reducible refine wl_alloc rfl 94 rfl (ins 0 0 0 0) new_i ?_); intro w4 k4 b4 s4; have k4t := k3.below b4)
    | ((refine wl_store (by rfl) 94 _ _ (by rfl) w3.heap.size (by rfl) (ins 0 0 0 0) (by rfl) 94 (ins 0 0 0 0) k4 (size_i _ rfl) rfl (one_i _ _ _ _) ?_); intro w5 k5 g5 s5; have k5t := k4t.grown g5 (fun e => by injection e with e; omega)))
  have B5 := below_grown (bl_then B3 b4) (by have := B3.size; have := b4.size; omega) g5 B3.size
  clear k4 k4t k5 g5 b4 k3 B3
  refine (hK.out w5 (.inl k5t)).mono ?_
  rintro r w6 ⟨rfl, T6, g6⟩
  have B6 := below_grown B5 B5.size g6 (Nat.le_refl _)
  have hbb : (fK == fK) = true := beq_self_eq_true fK
  go_wp2_with fail
  refine (known_nil op w6).mono ?_
  rintro r w7 ⟨rfl, rfl⟩
  go_wp2_with fail
  refine (valid_nil op 0 0 0 w6).mono ?_
  rintro r w8 ⟨rfl, b8⟩
  go_wp2_with fail
  refine (awake_c _).mono ?_
  rintro r w9 ⟨rfl, b9⟩
  go_wp2
  go_ret
  exact ⟨rfl, bl_then (bl_then B6 b8) b9⟩
theorem walk (a0 : Int) (w : World) (w0 : (Lit.int .i64 a0).wf = true) : Calls Try.prog 12 #[.int .i64 a0] w fun e w' => e = .returned (.bool true) ∧ Below w.heap.size w w' := main a0 w
end Go.Proofs.Ytdokmnpkihmkpaa.IsaKnows
