/- IsaBack: at every two instructions the law's text returns true. -/
import Derived.Test.YtdokmnpkihmkpaaIsaEq
import Derived.Test.YtdokmnpkihmkpaaIsaEncodes
import Derived.Deep.RegionHeld3
set_option linter.unusedVariables false
namespace Go.Proofs.Ytdokmnpkihmkpaa.IsaBack
open Go.RowKit Go.Proofs.Ytdokmnpkihmkpaa.Base Go.Proofs.Ytdokmnpkihmkpaa.Row Go.Proofs.Ytdokmnpkihmkpaa.Once Go.Proofs.Ytdokmnpkihmkpaa.Isa Go.Proofs.Ytdokmnpkihmkpaa.Isa2 Go.Proofs.Ytdokmnpkihmkpaa.Math Go.Proofs.Ytdokmnpkihmkpaa.IsaMath Go.Proofs.Ytdokmnpkihmkpaa.Isa3 Go.Proofs.Ytdokmnpkihmkpaa.IsaRef Go.Proofs.Ytdokmnpkihmkpaa.IsaAw Go.Proofs.Ytdokmnpkihmkpaa.IsaDec Go.Proofs.Ytdokmnpkihmkpaa.IsaEq
open Go.Proofs.Ytdokmnpkihmkpaa.IsaEncodes (Ins ins_of)

set_option maxRecDepth 100000 in
set_option maxHeartbeats 8000000 in
theorem main (a b c d e f g h : Int) (w : World) : Calls Try.prog 11 #[.agg (ins a b c d), .agg (ins e f g h)] w fun r w' => r = .returned (.bool true) ∧ Below w.heap.size w w' := by
  have hk : ∀ (x y : Bool), (x = true ∧ y = true) ∨ ¬ (x = true ∧ y = true) := fun x y => Classical.em _
  have hA := Lib.hid (fun gt w' h' => encode_c gt 92 [] a b c d w' h')
  have hB := Lib.hid (fun gt w' h' => encode_c gt 92 [] e f g h w' h')
  rcases hk (refB a b c d) (refB e f g h) with ⟨h1, h2⟩ | hno
  · have hD := Lib.hid (fun gt w' h' => decode_c gt 92 [] (encN a b c d) w' h' (enc_range h1).1 (enc_range h1).2)
    rw [(dec_enc h1).1, (dec_enc h1).2] at hD
    rw [h1, show encR a b c d = encN a b c d from by unfold encR; rw [if_pos h1]] at hA
    rw [h2, show encR e f g h = encN e f g h from by unfold encR; rw [if_pos h2]] at hB
    have hxe := enc_inj h1 h2
    have hE1 : ∀ W, (Op.equalIn 10000 94 (.agg (ins a b c d)) (.agg (ins a b c d))).run Try.prog W = .ok true W := fun W => by rw [eq_i, eqI_refl]
    have hE2 : ∀ W, (Op.equalIn 10000 77 (.agg (ins a b c d)) (.agg (ins e f g h))).run Try.prog W = .ok (eqI a b c d e f g h) W := fun W => eq_j _ _ _ _ _ _ _ _ W
    have hE1' : ∀ W, (Op.equalIn 10000 94 (.agg #[.int .i64 a, .int .i64 b, .int .i64 c, .int .i64 d]) (.agg (ins a b c d))).run Try.prog W = .ok true W := hE1
    have hE2' : ∀ W, (Op.equalIn 10000 77 (.agg #[.int .i64 a, .int .i64 b, .int .i64 c, .int .i64 d]) (.agg #[.int .i64 e, .int .i64 f, .int .i64 g, .int .i64 h])).run Try.prog W = .ok (eqI a b c d e f g h) W := hE2
    clear hk h1 h2
    generalize eqI a b c d e f g h = q at *
    generalize encN a b c d = x at *
    generalize encN e f g h = y at *
    have hqq : (q == q) = true := beq_self_eq_true q
    go_enter Try.func11, Try.ntmps11
    go_wp2_with (first
      | (have _z := k1; (with_reducible refine wl_box rfl 77 _ rfl (ins e f g h) rfl ?_); intro w2 k2 b2 s2; have k1b := k1.below b2)
      | ((with_reducible refine wl_box rfl 77 _ rfl (ins a b c d) rfl ?_); intro w1 k1 b1 s1)
      | (with_reducible refine wl_build0 rfl 92 rfl (oc 0 0 (nums .i64 T0 ++ [])) zero_t ?_)
      | ((with_reducible refine wl_box rfl 92 _ rfl (oc 0 0 (nums .i64 T0 ++ [])) rfl ?_); intro w3 k3 b3 s3; have k1c := k1b.below b3; have k2c := k2.below b3)
      | (with_reducible refine wl_load rfl 77 _ rfl w.heap.size rfl 77 (ins a b c d) _ k1c Try.underlying77 rfl (size_j _ rfl) ?_))
    have zt : w.heap.size ≤ w2.heap.size := Nat.le_trans b1.size b2.size
    have B3 := bl_then (bl_then b1 b2) b3
    refine (instr_c a b c d w3).mono ?_
    rintro r w4 ⟨rfl, b4⟩
    have ka4 := k1c.below b4
    have kb4 := k2c.below b4
    have T4 : Tb w4 w2.heap.size 92 [] := .inl (k3.below b4)
    have B4 := bl_then B3 b4
    clear k1 k1b k1c k2 k2c k3 b1 b2 b3 b4 B3
    go_wp2_with fail
    refine (hA.out w2.heap.size w4 T4).mono ?_
    rintro r w5 ⟨rfl, T5, g5⟩
    have ka5 := ka4.grown g5 (fun e => by injection e with e; omega)
    have kb5 := kb4.grown g5 (fun e => by injection e with e; omega)
    have B5 := below_grown B4 B4.size g5 zt
    clear ka4 kb4 T4 B4 g5
    go_wp2_with (first
      | (with_reducible refine wl_load rfl 77 _ rfl w1.heap.size rfl 77 (ins e f g h) _ kb5 Try.underlying77 rfl (size_j _ rfl) ?_))
    refine (instr_c e f g h w5).mono ?_
    rintro r w5b ⟨rfl, b5⟩
    have ka5b := ka5.below b5
    have kb5b := kb5.below b5
    have T5b := T5.below b5
    have B5b := bl_then B5 b5
    clear ka5 kb5 T5 B5 b5
    go_wp2_with fail
    refine (hB.out w2.heap.size w5b T5b).mono ?_
    rintro r w6 ⟨rfl, T6, g6⟩
    have ka6 := ka5b.grown g6 (fun e => by injection e with e; omega)
    have kb6 := kb5b.grown g6 (fun e => by injection e with e; omega)
    have B6 := below_grown B5b B5b.size g6 zt
    clear ka5b kb5b T5b B5b g6
    go_wp2_with fail
    refine (hD.out w2.heap.size w6 T6).mono ?_
    rintro r w7 ⟨rfl, T7, g7⟩
    have ka7 := ka6.grown g7 (fun e => by injection e with e; omega)
    have kb7 := kb6.grown g7 (fun e => by injection e with e; omega)
    have B7 := below_grown B6 B6.size g7 zt
    have z7 := kb7.lt
    have z7' := T7.lt
    clear ka6 kb6 B6 g7 T6
    go_wp2_with (first
      | ((with_reducible refine wl_alloc rfl 94 rfl (ins 0 0 0 0) new_i ?_); intro w8 k8 b8 s8; have T8 := T7.below b8; have ka8 := ka7.below b8; have kb8 := kb7.below b8)
      | ((with_reducible refine wl_store rfl 94 _ _ rfl w7.heap.size rfl (ins a b c d) rfl 94 (ins 0 0 0 0) k8 (size_i _ rfl) rfl (one_i _ _ _ _) ?_); intro w9 k9 g9 s9))
    have TH := Lib.hid (T8.grown g9 (by omega))
    have KIH := Lib.hid k9
    have KAH := Lib.hid (ka8.grown g9 (fun e => by injection e with e; omega))
    have KBH := Lib.hid (kb8.grown g9 (fun e => by injection e with e; omega))
    have BH := Lib.hid (below_grown (bl_then B7 b8) (by have := B7.size; have := b8.size; omega) g9 B7.size)
    clear k8 b8 g9 T7 T8 ka7 kb7 ka8 kb8 B7 k9
    have TB := TH.out.drew
    have KI := KIH.out.drew
    have KA := KAH.out.drew
    have KB := KBH.out.drew
    have HB := bl_drew BH.out
    have cKI0 : w9.drew.cell? ⟨w7.heap.size, 0, none⟩ = some (.int .i64 a) := KI.cellv 0 _ rfl
    have cKI1 : w9.drew.cell? ⟨w7.heap.size, 1, none⟩ = some (.int .i64 b) := KI.cellv 1 _ rfl
    have cKI2 : w9.drew.cell? ⟨w7.heap.size, 2, none⟩ = some (.int .i64 c) := KI.cellv 2 _ rfl
    have cKI3 : w9.drew.cell? ⟨w7.heap.size, 3, none⟩ = some (.int .i64 d) := KI.cellv 3 _ rfl
    have cKA0 : w9.drew.cell? ⟨w.heap.size, 0, none⟩ = some (.int .i64 a) := KA.cellv 0 _ rfl
    have cKA1 : w9.drew.cell? ⟨w.heap.size, 1, none⟩ = some (.int .i64 b) := KA.cellv 1 _ rfl
    have cKA2 : w9.drew.cell? ⟨w.heap.size, 2, none⟩ = some (.int .i64 c) := KA.cellv 2 _ rfl
    have cKA3 : w9.drew.cell? ⟨w.heap.size, 3, none⟩ = some (.int .i64 d) := KA.cellv 3 _ rfl
    have cKB0 : w9.drew.cell? ⟨w1.heap.size, 0, none⟩ = some (.int .i64 e) := KB.cellv 0 _ rfl
    have cKB1 : w9.drew.cell? ⟨w1.heap.size, 1, none⟩ = some (.int .i64 f) := KB.cellv 1 _ rfl
    have cKB2 : w9.drew.cell? ⟨w1.heap.size, 2, none⟩ = some (.int .i64 g) := KB.cellv 2 _ rfl
    have cKB3 : w9.drew.cell? ⟨w1.heap.size, 3, none⟩ = some (.int .i64 h) := KB.cellv 3 _ rfl
    go_region_held3 (fun w' => w'.cell? ⟨w7.heap.size, 0, none⟩ = some (.int .i64 a) ∧ w'.cell? ⟨w7.heap.size, 1, none⟩ = some (.int .i64 b) ∧ w'.cell? ⟨w7.heap.size, 2, none⟩ = some (.int .i64 c) ∧ w'.cell? ⟨w7.heap.size, 3, none⟩ = some (.int .i64 d) ∧ w'.cell? ⟨w.heap.size, 0, none⟩ = some (.int .i64 a) ∧ w'.cell? ⟨w.heap.size, 1, none⟩ = some (.int .i64 b) ∧ w'.cell? ⟨w.heap.size, 2, none⟩ = some (.int .i64 c) ∧ w'.cell? ⟨w.heap.size, 3, none⟩ = some (.int .i64 d) ∧ w'.cell? ⟨w1.heap.size, 0, none⟩ = some (.int .i64 e) ∧ w'.cell? ⟨w1.heap.size, 1, none⟩ = some (.int .i64 f) ∧ w'.cell? ⟨w1.heap.size, 2, none⟩ = some (.int .i64 g) ∧ w'.cell? ⟨w1.heap.size, 3, none⟩ = some (.int .i64 h))
      (first
        | go_keep
        | exact ⟨KI.cellv 0 _ rfl, KI.cellv 1 _ rfl, KI.cellv 2 _ rfl, KI.cellv 3 _ rfl, KA.cellv 0 _ rfl, KA.cellv 1 _ rfl, KA.cellv 2 _ rfl, KA.cellv 3 _ rfl, KB.cellv 0 _ rfl, KB.cellv 1 _ rfl, KB.cellv 2 _ rfl, KB.cellv 3 _ rfl⟩)
      (first
        | (go_at_call 44; refine (instr_c a b c d _).mono ?_; rintro res wa ⟨rfl, ba⟩; have TB := TB.below ba; have KI := KI.below ba; have KA := KA.below ba; have KB := KB.below ba; have HB := bl_then HB ba)
        | (go_at_call 48; refine (awake_c _).mono ?_; rintro res wa ⟨rfl, ba⟩; have TB := TB.below ba; have KI := KI.below ba; have KA := KA.below ba; have KB := KB.below ba; have HB := bl_then HB ba))
    all_goals (
      go_wp2
      go_ret
      exact ⟨rfl, HB⟩)
  · generalize encR a b c d = x at *
    generalize encR e f g h = y at *
    generalize refB a b c d = u at *
    generalize refB e f g h = v at *
    clear hk
    go_enter Try.func11, Try.ntmps11
    go_wp2_with (first
      | (have _z := k1; (with_reducible refine wl_box rfl 77 _ rfl (ins e f g h) rfl ?_); intro w2 k2 b2 s2; have k1b := k1.below b2)
      | ((with_reducible refine wl_box rfl 77 _ rfl (ins a b c d) rfl ?_); intro w1 k1 b1 s1)
      | (with_reducible refine wl_build0 rfl 92 rfl (oc 0 0 (nums .i64 T0 ++ [])) zero_t ?_)
      | ((with_reducible refine wl_box rfl 92 _ rfl (oc 0 0 (nums .i64 T0 ++ [])) rfl ?_); intro w3 k3 b3 s3; have k1c := k1b.below b3; have k2c := k2.below b3)
      | (with_reducible refine wl_load rfl 77 _ rfl w.heap.size rfl 77 (ins a b c d) _ k1c Try.underlying77 rfl (size_j _ rfl) ?_))
    have zt : w.heap.size ≤ w2.heap.size := Nat.le_trans b1.size b2.size
    have B3 := bl_then (bl_then b1 b2) b3
    refine (instr_c a b c d w3).mono ?_
    rintro r w4 ⟨rfl, b4⟩
    have ka4 := k1c.below b4
    have kb4 := k2c.below b4
    have T4 : Tb w4 w2.heap.size 92 [] := .inl (k3.below b4)
    have B4 := bl_then B3 b4
    clear k1 k1b k1c k2 k2c k3 b1 b2 b3 b4 B3
    go_wp2_with fail
    refine (hA.out w2.heap.size w4 T4).mono ?_
    rintro r w5 ⟨rfl, T5, g5⟩
    have ka5 := ka4.grown g5 (fun e => by injection e with e; omega)
    have kb5 := kb4.grown g5 (fun e => by injection e with e; omega)
    have B5 := below_grown B4 B4.size g5 zt
    clear ka4 kb4 T4 B4 g5
    go_wp2_with (first
      | (with_reducible refine wl_load rfl 77 _ rfl w1.heap.size rfl 77 (ins e f g h) _ kb5 Try.underlying77 rfl (size_j _ rfl) ?_))
    refine (instr_c e f g h w5).mono ?_
    rintro r w5b ⟨rfl, b5⟩
    have ka5b := ka5.below b5
    have kb5b := kb5.below b5
    have T5b := T5.below b5
    have B5b := bl_then B5 b5
    clear ka5 kb5 T5 B5 b5
    go_wp2_with fail
    refine (hB.out w2.heap.size w5b T5b).mono ?_
    rintro r w6 ⟨rfl, T6, g6⟩
    have ka6 := ka5b.grown g6 (fun e => by injection e with e; omega)
    have kb6 := kb5b.grown g6 (fun e => by injection e with e; omega)
    have B6 := below_grown B5b B5b.size g6 zt
    clear ka5b kb5b T5b B5b g6
    have T6h := Lib.hid T6
    have B6h := Lib.hid B6
    clear T6 B6 ka6 kb6
    cases u with
    | false =>
      go_wp2_with fail
      refine (awake_c _).mono ?_
      rintro r w9 ⟨rfl, b9⟩
      go_wp2
      go_ret
      exact ⟨rfl, bl_then B6h.out b9⟩
    | true =>
      cases v with
      | false =>
        go_wp2_with fail
        refine (awake_c _).mono ?_
        rintro r w9 ⟨rfl, b9⟩
        go_wp2
        go_ret
        exact ⟨rfl, bl_then B6h.out b9⟩
      | true => exact absurd ⟨rfl, rfl⟩ hno

def Arg (i : Nat) (w : World) (v : Value) : Prop := Ins v
set_option maxRecDepth 100000 in
theorem arg0 {H : Type} {enc : TypeId × Value → H} {W : World} {base : Nat} {v : Value} {d : DataW H} {p : List MemPlace} (hv : Value.okWide Try.prog W .any base 77 v)
    (h : DataW.Trod enc Try.prog W 0 (fun _ => true) true 77 v d p) : Arg 0 W v := ins_of hv h
set_option maxRecDepth 100000 in
theorem arg1 {H : Type} {enc : TypeId × Value → H} {W : World} {base : Nat} {v : Value} {d : DataW H} {p : List MemPlace} (hv : Value.okWide Try.prog W .any base 77 v)
    (h : DataW.Trod enc Try.prog W 0 (fun _ => true) true 77 v d p) : Arg 1 W v := ins_of hv h
set_option maxRecDepth 100000 in
theorem walk (v0 v1 : Value) (w : World) (h0 : Arg 0 w v0) (h1 : Arg 1 w v1) : Calls Try.prog 11 #[v0, v1] w fun e w' => e = .returned (.bool true) ∧ Below w.heap.size w w' := by
  obtain ⟨a, b, c, d, rfl⟩ := h0
  obtain ⟨e, f, g, h, rfl⟩ := h1
  exact main a b c d e f g h w
end Go.Proofs.Ytdokmnpkihmkpaa.IsaBack
