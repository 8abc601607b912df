/- IsaDecodes: at every word the law's text returns true. -/
import Derived.Test.YtdokmnpkihmkpaaIsaEq
import Derived.Deep.RegionHeld3
set_option linter.unusedVariables false
namespace Go.Proofs.Ytdokmnpkihmkpaa.IsaDecodes
open Go.RowKit Go.Proofs.Ytdokmnpkihmkpaa.Base Go.Proofs.Ytdokmnpkihmkpaa.Row Go.Proofs.Ytdokmnpkihmkpaa.Once Go.Proofs.Ytdokmnpkihmkpaa.Isa Go.Proofs.Ytdokmnpkihmkpaa.Isa2 Go.Proofs.Ytdokmnpkihmkpaa.Math Go.Proofs.Ytdokmnpkihmkpaa.IsaMath Go.Proofs.Ytdokmnpkihmkpaa.Isa3 Go.Proofs.Ytdokmnpkihmkpaa.IsaRef Go.Proofs.Ytdokmnpkihmkpaa.IsaAw Go.Proofs.Ytdokmnpkihmkpaa.IsaDec Go.Proofs.Ytdokmnpkihmkpaa.IsaEq

set_option maxRecDepth 100000 in
set_option maxHeartbeats 8000000 in
theorem main (x : Int) (h0 : 0 ≤ x) (h1 : x < 4294967296) (w : World) : Calls Try.prog 10 #[.int .u32 x] w fun e w' => e = .returned (.bool true) ∧ Below w.heap.size w w' := by
  have hD := Lib.hid (fun w' h => decode_c w.heap.size 92 [] x w' h h0 h1)
  have hR := Lib.hid (fun w' => decode_r x w' h0 h1)
  obtain ⟨p, q, r, s, hI, hB⟩ := dec_form x
  rw [hI] at hD hR
  have hE := Lib.hid (fun w' h => encode_c w.heap.size 92 [] p q r s w' h)
  have hEQ : ∀ W, (Op.equalIn 10000 94 (.agg (ins p q r s)) (.agg (ins p q r s))).run Try.prog W = .ok true W := fun W => by rw [eq_i, eqI_refl]
  have hEQ2 : ∀ W, (Op.equalIn 10000 94 (.agg #[.int .i64 p, .int .i64 q, .int .i64 r, .int .i64 s]) (.agg (ins p q r s))).run Try.prog W = .ok true W := hEQ
  have hEQ3 : ∀ W, (Op.equalIn 10000 94 (.agg #[.int .i64 p, .int .i64 q, .int .i64 r, .int .i64 s]) (.agg #[.int .i64 p, .int .i64 q, .int .i64 r, .int .i64 s])).run Try.prog W = .ok true W := hEQ
  have hback : Hid (decB x = true → encR p q r s = x ∧ refB p q r s = true) := Lib.hid (fun h => by
    obtain ⟨rfl, rfl, rfl, rfl⟩ := hB h
    have h' : refB (x / 16777216) (x / 1048576 % 16) (x / 65536 % 16) (simm x) = true := h
    exact ⟨by unfold encR; rw [if_pos h', enc_dec x h0 h1], h'⟩)
  clear hI hB h0 h1
  generalize decB x = v at *
  generalize encR p q r s = y at *
  generalize refB p q r s = u at *
  have hvv : (v != v) = false := by simp
  go_enter Try.func10, Try.ntmps10
  go_wp2_with (first
    | (with_reducible refine wl_build0 rfl 92 rfl (oc 0 0 (nums .i64 T0 ++ [])) zero_t ?_)
    | ((with_reducible refine wl_box rfl 92 _ rfl (oc 0 0 (nums .i64 T0 ++ [])) rfl ?_); intro w1 k1 b1 s1))
  refine (hD.out w1 (.inl k1)).mono ?_
  rintro res w2 ⟨rfl, T2, g2⟩
  have B2 := below_grown b1 b1.size g2 (Nat.le_refl _)
  have z2 := T2.lt
  clear k1 b1 g2
  go_wp2_with (first
    | ((with_reducible refine wl_alloc rfl 94 rfl (ins 0 0 0 0) new_i ?_); intro w3 k3 b3 s3; have T3 := T2.below b3)
    | ((with_reducible refine wl_store rfl 94 _ _ rfl w2.heap.size rfl (ins p q r s) rfl 94 (ins 0 0 0 0) k3 (size_i _ rfl) rfl (one_i _ _ _ _) ?_); intro w4 k4 g4 s4; have T4 := T3.grown g4 (by omega)))
  have B4 := below_grown (bl_then B2 b3) (by have := B2.size; have := b3.size; omega) g4 B2.size
  have z4 := k4.lt
  have z4' := T4.lt
  clear k3 b3 g4 T3 T2 B2
  refine (hR.out w4).mono ?_
  rintro res w5 ⟨rfl, b5⟩
  have k5 := k4.below b5
  have T5 := T4.below b5
  have B5 := bl_then B4 b5
  have z5 := b5.size
  clear k4 T4 B4 b5
  go_wp2_with (first
    | ((with_reducible refine wl_alloc rfl 77 rfl (ins 0 0 0 0) new_j ?_); intro w6 k6 b6 s6; have T6 := T5.below b6; have k6i := k5.below b6)
    | ((with_reducible refine wl_store rfl 77 _ _ rfl w5.heap.size rfl (ins p q r s) rfl 77 (ins 0 0 0 0) k6 (size_j _ rfl) rfl (one_i _ _ _ _) ?_); intro w7 k7 g7 s7))
  have T7 := T6.grown g7 (by omega)
  have k7i := k6i.grown g7 (fun e => by injection e with e; omega)
  have B7 := below_grown (bl_then B5 b6) (by have := B5.size; have := b6.size; omega) g7 B5.size
  have TH := Lib.hid T7
  have KIH := Lib.hid k7i
  have KJH := Lib.hid k7
  have BH := Lib.hid B7
  clear k6 b6 g7 T6 T5 B5 k5 k6i T7 k7 k7i B7
  have TB := TH.out.drew
  have KI := KIH.out.drew
  have KJ := KJH.out.drew
  have HB := bl_drew BH.out
  have a0 : w7.drew.cell? ⟨w2.heap.size, 0, none⟩ = some (.int .i64 p) := KI.cellv 0 _ rfl
  have a1 : w7.drew.cell? ⟨w2.heap.size, 1, none⟩ = some (.int .i64 q) := KI.cellv 1 _ rfl
  have a2 : w7.drew.cell? ⟨w2.heap.size, 2, none⟩ = some (.int .i64 r) := KI.cellv 2 _ rfl
  have a3 : w7.drew.cell? ⟨w2.heap.size, 3, none⟩ = some (.int .i64 s) := KI.cellv 3 _ rfl
  have j0 : w7.drew.cell? ⟨w5.heap.size, 0, none⟩ = some (.int .i64 p) := KJ.cellv 0 _ rfl
  have j1 : w7.drew.cell? ⟨w5.heap.size, 1, none⟩ = some (.int .i64 q) := KJ.cellv 1 _ rfl
  have j2 : w7.drew.cell? ⟨w5.heap.size, 2, none⟩ = some (.int .i64 r) := KJ.cellv 2 _ rfl
  have j3 : w7.drew.cell? ⟨w5.heap.size, 3, none⟩ = some (.int .i64 s) := KJ.cellv 3 _ rfl
  go_region_held3 (fun w' => w'.cell? ⟨w2.heap.size, 0, none⟩ = some (.int .i64 p) ∧ w'.cell? ⟨w2.heap.size, 1, none⟩ = some (.int .i64 q) ∧ w'.cell? ⟨w2.heap.size, 2, none⟩ = some (.int .i64 r) ∧ w'.cell? ⟨w2.heap.size, 3, none⟩ = some (.int .i64 s) ∧
      w'.cell? ⟨w5.heap.size, 0, none⟩ = some (.int .i64 p) ∧ w'.cell? ⟨w5.heap.size, 1, none⟩ = some (.int .i64 q) ∧ w'.cell? ⟨w5.heap.size, 2, none⟩ = some (.int .i64 r) ∧ w'.cell? ⟨w5.heap.size, 3, none⟩ = some (.int .i64 s))
    (first
      | go_keep
      | exact ⟨KI.cellv 0 _ rfl, KI.cellv 1 _ rfl, KI.cellv 2 _ rfl, KI.cellv 3 _ rfl, KJ.cellv 0 _ rfl, KJ.cellv 1 _ rfl, KJ.cellv 2 _ rfl, KJ.cellv 3 _ rfl⟩)
    (first
      | (go_at_call 44; refine (instr_c p q r s _).mono ?_; rintro res wa ⟨rfl, ba⟩; have TB := TB.below ba; have KI := KI.below ba; have KJ := KJ.below ba; have HB := bl_then HB ba))
  all_goals (
    have TB' := Lib.hid TB
    have HB' := Lib.hid HB
    have KI' := Lib.hid KI
    go_wp2_with (first
      | (refine wl_load (by rfl) 94 _ (by rfl) w2.heap.size (by rfl) 94 (ins p q r s) _ KI'.out Try.underlying94 rfl (size_i _ rfl) ?_))
    refine (hE.out wa TB'.out).mono ?_
    rintro res w8 ⟨rfl, T8, g8⟩
    have B8 := below_grown HB'.out HB'.out.size g8 (Nat.le_refl _)
    cases v with
    | true =>
      obtain ⟨rfl, rfl⟩ := hback.out rfl
      go_wp2_with fail
      refine (awake_c _).mono ?_
      rintro res w9 ⟨rfl, b9⟩
      go_wp2
      go_ret
      exact ⟨rfl, bl_then B8 b9⟩
    | false =>
      go_wp2_with fail
      refine (awake_c _).mono ?_
      rintro res w9 ⟨rfl, b9⟩
      go_wp2
      go_ret
      exact ⟨rfl, bl_then B8 b9⟩)
theorem walk (a0 : Int) (w : World) (w0 : (Lit.int .u32 a0).wf = true) : Calls Try.prog 10 #[.int .u32 a0] w fun e w' => e = .returned (.bool true) ∧ Below w.heap.size w w' := by
  obtain ⟨h0, h1⟩ := wf_u32_range w0
  exact main a0 h0 h1 w
end Go.Proofs.Ytdokmnpkihmkpaa.IsaDecodes
