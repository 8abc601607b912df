/- Contracts of package isa (Encode, Decode), and of the reference. -/
import Derived.Test.YtdokmnpkihmkpaaIsaMath
set_option linter.unusedVariables false
namespace Go.Proofs.Ytdokmnpkihmkpaa.Isa3
open Go.RowKit Go.Proofs.Ytdokmnpkihmkpaa.Base Go.Proofs.Ytdokmnpkihmkpaa.Row Go.Proofs.Ytdokmnpkihmkpaa.Once Go.Proofs.Ytdokmnpkihmkpaa.Isa Go.Proofs.Ytdokmnpkihmkpaa.Isa2 Go.Proofs.Ytdokmnpkihmkpaa.Math Go.Proofs.Ytdokmnpkihmkpaa.IsaMath

def encR (op a b n : Int) : Int := if refB op a b n then encN op a b n else 0
theorem fr_below {w w1 w2 : World} {g : Nat} (hb : Below w.heap.size w w1) (hg : w1.grownBy w2 (some g)) : w.grownBy w2 (some g) := World.grownBy.trans (grown_of_below hb _) hg

set_option maxRecDepth 100000 in
set_option maxHeartbeats 2000000 in
theorem encode_c (g : Nat) (T : TypeId) (tail : List Value) (op a b n : Int) (w : World) (h : Tb w g T tail) :
    Calls Try.prog 43 #[.pointer (some ⟨g, 0, none⟩), .agg (ins op a b n)] w fun r w' => r = .returned (.tuple #[.int .u32 (encR op a b n), .bool (refB op a b n)]) ∧ Tb w' g T tail ∧ w.grownBy w' (some g) := by
  have hg := h.lt
  have B1 := bl_alloc (bl_refl w) (.cells (ins op a b n) 94)
  have h1 := h.below B1
  have KD := Blk.new w 94 (ins op a b n)
  have hf := Lib.hid (valid_c g T tail op a b n _ h1)
  rw [val_eq] at hf
  have d0 := KD.cellv 0 (.int .i64 op) rfl
  have d1 := KD.cellv 1 (.int .i64 a) rfl
  have d2 := KD.cellv 2 (.int .i64 b) rfl
  have d3 := KD.cellv 3 (.int .i64 n) rfl
  have KD' := Lib.hid KD
  have B1h := Lib.hid B1
  clear h h1 KD B1
  cases hv : refB op a b n with
  | false =>
    have hr : Hid (encR op a b n = 0) := Lib.hid (by simp [encR, hv])
    rw [hr.out]
    rw [hv] at hf
    clear hv
    go_enter Try.func43, Try.ntmps43
    go_wp2_with fail
    refine hf.out.mono ?_
    rintro r w1 ⟨rfl, k1, g1⟩
    go_wp2_with fail
    go_ret2
    exact ⟨rfl, k1, fr_below B1h.out g1⟩
  | true =>
    have hr : Hid (encR op a b n = encX op a b n) := Lib.hid (by
      obtain ⟨r1, r2, r3, r4, r5, r6, r7, r8⟩ := ref_ranges hv
      rw [enc_eq op a b n r1 r2 r3 r4 r5 r6 r7 r8]
      simp [encR, hv])
    rw [hr.out]
    rw [hv] at hf
    clear hv
    go_enter Try.func43, Try.ntmps43
    go_wp2_with fail
    refine hf.out.mono ?_
    rintro r w1 ⟨rfl, k1, g1⟩
    have KD1 := KD'.out.grown g1 (fun e => by injection e with e; omega)
    have e0 := KD1.cellv 0 (.int .i64 op) rfl
    have e1 := KD1.cellv 1 (.int .i64 a) rfl
    have e2 := KD1.cellv 2 (.int .i64 b) rfl
    have e3 := KD1.cellv 3 (.int .i64 n) rfl
    clear d0 d1 d2 d3
    go_wp2_with fail
    go_ret2
    exact ⟨rfl, k1, fr_below B1h.out g1⟩

theorem sign_c (x : Int) (h0 : 0 ≤ x) (h1 : x < 4294967296) (w : World) :
    Calls Try.prog 68 #[.int .u32 x] w fun e w' => e = .returned (.int .u32 (sgn x)) ∧ w = w' := by
  go_enter Try.func68, Try.ntmps68
  go_wp2
  go_ret
  exact ⟨ret_int (sign_wrap x), rfl⟩
def simm (x : Int) : Int := if 32768 ≤ x % 65536 then x % 65536 - 65536 else x % 65536
/-- An instruction out of a word; nought, where it may not be. -/
def decI (x : Int) : Array Value := if refB (x / 16777216) (x / 1048576 % 16) (x / 65536 % 16) (simm x) then ins (x / 16777216) (x / 1048576 % 16) (x / 65536 % 16) (simm x) else ins 0 0 0 0
def decB (x : Int) : Bool := refB (x / 16777216) (x / 1048576 % 16) (x / 65536 % 16) (simm x)
theorem simm_wrap (x : Int) : wrap32 (sgn x) = simm x := by
  unfold wrap32 sgn simm
  split <;> omega
theorem size_i (v : Array Value) (h : v.size = 4) : (Try.prog.info? 94).map (·.size) = some v.size := by rw [h]; kernel_rfl
theorem new_i : (Try.prog.info? 94).map (fun i => i.zero.map (·.cells)) = some (some (ins 0 0 0 0)) := by kernel_rfl
theorem zero_i : Try.prog.built 94 [] = some (ins 0 0 0 0) := by kernel_rfl
theorem one_i (op a b n : Int) : ∀ v ∈ ins op a b n, v.oneCell' = true := by
  intro v hv
  simp [ins] at hv
  rcases hv with rfl | rfl | rfl | rfl <;> rfl
theorem size_j (v : Array Value) (h : v.size = 4) : (Try.prog.info? 77).map (·.size) = some v.size := by rw [h]; kernel_rfl
theorem new_j : (Try.prog.info? 77).map (fun i => i.zero.map (·.cells)) = some (some (ins 0 0 0 0)) := by kernel_rfl
theorem zero_j : Try.prog.built 77 [] = some (ins 0 0 0 0) := by kernel_rfl

set_option maxRecDepth 100000 in
set_option maxHeartbeats 4000000 in
theorem decode_c (g : Nat) (T : TypeId) (tail : List Value) (x : Int) (w : World) (h : Tb w g T tail) (h0 : 0 ≤ x) (h1 : x < 4294967296) :
    Calls Try.prog 49 #[.pointer (some ⟨g, 0, none⟩), .int .u32 x] w fun r w' => r = .returned (.tuple #[.agg (decI x), .bool (decB x)]) ∧ Tb w' g T tail ∧ w.grownBy w' (some g) := by
  have hg := h.lt
  have ha : bits .and .u32 (x / 1048576) 15 = x / 1048576 % 16 := and_mask32 (x / 1048576) 4 15 (by omega) rfl (by omega) (by omega)
  have hb : bits .and .u32 (x / 65536) 15 = x / 65536 % 16 := and_mask32 (x / 65536) 4 15 (by omega) rfl (by omega) (by omega)
  have hs := Lib.hid (sign_c x h0 h1)
  have hsw := simm_wrap x
  have hw1 : wrap64 (x / 1048576 % 16) = x / 1048576 % 16 := by unfold wrap64; omega
  have hw2 : wrap64 (x / 65536 % 16) = x / 65536 % 16 := by unfold wrap64; omega
  have hw3 : wrap64 (x / 16777216) = x / 16777216 := by unfold wrap64; omega
  have hw4 : wrap64 (simm x) = simm x := by unfold wrap64 simm; split <;> omega
  have hTB := Lib.hid h
  have hdI := Lib.hid (show decI x = if decB x then ins (x / 16777216) (x / 1048576 % 16) (x / 65536 % 16) (simm x) else ins 0 0 0 0 from rfl)
  have hval := Lib.hid (fun w' h' => valid_c g T tail (x / 16777216) (x / 1048576 % 16) (x / 65536 % 16) (simm x) w' h')
  rw [val_eq] at hval
  have hdB : Hid (refB (x / 16777216) (x / 1048576 % 16) (x / 65536 % 16) (simm x) = decB x) := Lib.hid rfl
  rw [hdB.out] at hval
  clear h h0 h1
  generalize decB x = v at *
  cases v with
  | true =>
    rw [if_pos rfl] at hdI
    rw [hdI.out]
    go_enter Try.func49, Try.ntmps49
    go_wp2_with (first
      | ((with_reducible refine wl_alloc rfl 94 rfl (ins 0 0 0 0) new_i ?_); intro w1 k1 b1 s1))
    refine (hs.out _).mono ?_
    rintro r w2 ⟨rfl, rfl⟩
    go_wp2_with (first
      | ((with_reducible refine wl_alloc rfl 94 rfl (ins 0 0 0 0) new_i ?_); intro w3 k3 b3 s3)
      | ((refine wl_store (by rfl) 94 _ _ (by rfl) w1.heap.size (by rfl) (ins (x / 16777216) (x / 1048576 % 16) (x / 65536 % 16) (simm x)) (by rfl) 94 (ins 0 0 0 0) k3 (size_i _ rfl) rfl (one_i _ _ _ _) ?_); intro w4 k4 g4 s4)
      | (refine wl_load (by rfl) 94 _ (by rfl) w1.heap.size (by rfl) 94 (ins (x / 16777216) (x / 1048576 % 16) (x / 65536 % 16) (simm x)) _ k4 Try.underlying94 rfl (size_i _ rfl) ?_))
    have T4 : Tb w4 g T tail := ((hTB.out.below b1).below b3).grown g4 (by omega)
    have z1 := b1.size
    refine (hval.out w4 T4).mono ?_
    rintro r w5 ⟨rfl, T5, g5⟩
    have KR := ((k1.below b3).grown g4 (fun e => by injection e with e; omega)).grown g5 (fun e => by injection e with e; omega)
    have KI := k4.grown g5 (fun e => by injection e with e; omega)
    go_wp2_with (first
      | (refine wl_load (by rfl) 94 _ (by rfl) w1.heap.size (by rfl) 94 (ins (x / 16777216) (x / 1048576 % 16) (x / 65536 % 16) (simm x)) _ KI Try.underlying94 rfl (size_i _ rfl) ?_)
      | ((refine wl_store (by rfl) 94 _ _ (by rfl) w.heap.size (by rfl) (ins (x / 16777216) (x / 1048576 % 16) (x / 65536 % 16) (simm x)) (by rfl) 94 (ins 0 0 0 0) KR (size_i _ rfl) rfl (one_i _ _ _ _) ?_); intro w6 k6 g6 s6))
    refine bodyPost_ret (res_cell_tmp rfl _ _ _ w.heap.size 94 (ins (x / 16777216) (x / 1048576 % 16) (x / 65536 % 16) (simm x)) _ rfl k6 Try.underlying94 rfl (size_i _ rfl)) rfl ⟨rfl, ?_, ?_⟩
    · exact T5.grown g6 (by omega)
    · have BB : Below w.heap.size w w4 := below_grown (bl_then b1 b3) (by have := b3.size; omega) g4 z1
      refine ⟨g6.os.trans (g5.os.trans BB.os), g6.tape.trans (g5.tape.trans BB.tape), g6.output.trans (g5.output.trans BB.output), Nat.le_trans BB.size (Nat.le_trans g5.size g6.size), fun i hi hne => ?_⟩
      rw [g6.block i (by have := BB.size; have := g5.size; omega) (fun e => by injection e with e; omega), g5.block i (by have := BB.size; omega) hne, BB.block i hi]
  | false =>
    rw [if_neg (by decide)] at hdI
    rw [hdI.out]
    go_enter Try.func49, Try.ntmps49
    go_wp2_with (first
      | ((with_reducible refine wl_alloc rfl 94 rfl (ins 0 0 0 0) new_i ?_); intro w1 k1 b1 s1))
    refine (hs.out _).mono ?_
    rintro r w2 ⟨rfl, rfl⟩
    go_wp2_with (first
      | ((with_reducible refine wl_alloc rfl 94 rfl (ins 0 0 0 0) new_i ?_); intro w3 k3 b3 s3)
      | ((refine wl_store (by rfl) 94 _ _ (by rfl) w1.heap.size (by rfl) (ins (x / 16777216) (x / 1048576 % 16) (x / 65536 % 16) (simm x)) (by rfl) 94 (ins 0 0 0 0) k3 (size_i _ rfl) rfl (one_i _ _ _ _) ?_); intro w4 k4 g4 s4)
      | (refine wl_load (by rfl) 94 _ (by rfl) w1.heap.size (by rfl) 94 (ins (x / 16777216) (x / 1048576 % 16) (x / 65536 % 16) (simm x)) _ k4 Try.underlying94 rfl (size_i _ rfl) ?_))
    have T4 : Tb w4 g T tail := ((hTB.out.below b1).below b3).grown g4 (by omega)
    have z1 := b1.size
    refine (hval.out w4 T4).mono ?_
    rintro r w5 ⟨rfl, T5, g5⟩
    have KR := ((k1.below b3).grown g4 (fun e => by injection e with e; omega)).grown g5 (fun e => by injection e with e; omega)
    go_wp2_with (first
      | (with_reducible refine wl_build0 rfl 94 rfl (ins 0 0 0 0) zero_i ?_)
      | ((refine wl_store (by rfl) 94 _ _ (by rfl) w.heap.size (by rfl) (ins 0 0 0 0) (by rfl) 94 (ins 0 0 0 0) KR (size_i _ rfl) rfl (one_i _ _ _ _) ?_); intro w6 k6 g6 s6))
    refine bodyPost_ret (res_cell_tmp rfl _ _ _ w.heap.size 94 (ins 0 0 0 0) _ rfl k6 Try.underlying94 rfl (size_i _ rfl)) rfl ⟨rfl, ?_, ?_⟩
    · exact T5.grown g6 (by omega)
    · have BB : Below w.heap.size w w4 := below_grown (bl_then b1 b3) (by have := b3.size; omega) g4 z1
      refine ⟨g6.os.trans (g5.os.trans BB.os), g6.tape.trans (g5.tape.trans BB.tape), g6.output.trans (g5.output.trans BB.output), Nat.le_trans BB.size (Nat.le_trans g5.size g6.size), fun i hi hne => ?_⟩
      rw [g6.block i (by have := BB.size; have := g5.size; omega) (fun e => by injection e with e; omega), g5.block i (by have := BB.size; omega) hne, BB.block i hi]

set_option maxRecDepth 100000 in
set_option maxHeartbeats 4000000 in
theorem fields_r (op : Int) (w : World) :
    Calls Try.prog 51 #[.int .i64 op] w fun r w' => r = .returned (.tuple #[.bool (fa op), .bool (fb op), .bool (fi op), .bool (fk op)]) ∧ w = w' := by
  have hc : (op < 1) ∨ (1 ≤ op ∧ op ≤ 2) ∨ (3 ≤ op ∧ op ≤ 12) ∨ (op = 13) ∨ (14 ≤ op ∧ op ≤ 17) ∨ (op = 18) ∨ (19 ≤ op ∧ op ≤ 20) ∨ (op = 21) ∨ (op = 22) ∨ (op = 23) ∨ (op = 24) ∨ (24 < op) := by omega
  rcases hc with hc | hc | hc | rfl | hc | rfl | hc | rfl | rfl | rfl | rfl | hc
  · have k1 : fk op = false := by unfold fk; exact decide_eq_false (p := 1 ≤ op ∧ op ≤ 24) (by omega)
    have k2 : fbare op = false := by unfold fbare; exact decide_eq_false (p := op = 18 ∨ op = 22 ∨ op = 24) (by omega)
    have k3 : ftwo op = false := by unfold ftwo; exact decide_eq_false (p := 3 ≤ op ∧ op ≤ 12) (by omega)
    have k4 : fall op = false := by unfold fall; exact decide_eq_false (p := 14 ≤ op ∧ op ≤ 17 ∨ op = 21) (by omega)
    have k5 : (op != 23) = true := by simp; omega
    have r1 : Hid (fa op = false) := Lib.hid (by unfold fa; rw [k1, k2]; rfl)
    have r2 : Hid (fb op = false) := Lib.hid (by unfold fb; rw [k3, k4]; rfl)
    have r3 : Hid (fi op = false) := Lib.hid (by unfold fi; rw [k1, k3, k5]; rfl)
    have r4 : Hid (fk op = false) := Lib.hid k1
    clear k1 k2 k3 k4
    have : decide (1 ≤ op) = false := by simp; omega
    have : decide (op ≤ 24) = true := by simp; omega
    have : decide (3 ≤ op) = false := by simp; omega
    have : decide (op ≤ 12) = true := by simp; omega
    have : decide (14 ≤ op) = false := by simp; omega
    have : decide (op ≤ 17) = true := by simp; omega
    have : (op == 18) = false := by simp; omega
    have : (op == 22) = false := by simp; omega
    have : (op == 24) = false := by simp; omega
    have : (op == 21) = false := by simp; omega
    clear hc
    rw [r1.out, r2.out, r3.out, r4.out]
    go_enter Try.func51, Try.ntmps51
    go_wp2
    exact bodyPost_ret (v := .tuple #[.bool false, .bool false, .bool false, .bool false]) (by simp [results, Try.results51, go_sem]) rfl ⟨rfl, rfl⟩
  · have k1 : fk op = true := by unfold fk; exact decide_eq_true (p := 1 ≤ op ∧ op ≤ 24) (by omega)
    have k2 : fbare op = false := by unfold fbare; exact decide_eq_false (p := op = 18 ∨ op = 22 ∨ op = 24) (by omega)
    have k3 : ftwo op = false := by unfold ftwo; exact decide_eq_false (p := 3 ≤ op ∧ op ≤ 12) (by omega)
    have k4 : fall op = false := by unfold fall; exact decide_eq_false (p := 14 ≤ op ∧ op ≤ 17 ∨ op = 21) (by omega)
    have k5 : (op != 23) = true := by simp; omega
    have r1 : Hid (fa op = true) := Lib.hid (by unfold fa; rw [k1, k2]; rfl)
    have r2 : Hid (fb op = false) := Lib.hid (by unfold fb; rw [k3, k4]; rfl)
    have r3 : Hid (fi op = true) := Lib.hid (by unfold fi; rw [k1, k3, k5]; rfl)
    have r4 : Hid (fk op = true) := Lib.hid k1
    clear k1 k2 k3 k4
    have : decide (1 ≤ op) = true := by simp; omega
    have : decide (op ≤ 24) = true := by simp; omega
    have : decide (3 ≤ op) = false := by simp; omega
    have : decide (op ≤ 12) = true := by simp; omega
    have : decide (14 ≤ op) = false := by simp; omega
    have : decide (op ≤ 17) = true := by simp; omega
    have : (op == 18) = false := by simp; omega
    have : (op == 22) = false := by simp; omega
    have : (op == 24) = false := by simp; omega
    have : (op == 21) = false := by simp; omega
    clear hc
    rw [r1.out, r2.out, r3.out, r4.out]
    go_enter Try.func51, Try.ntmps51
    go_wp2
    exact bodyPost_ret (v := .tuple #[.bool true, .bool false, .bool true, .bool true]) (by simp [results, Try.results51, go_sem]) rfl ⟨rfl, rfl⟩
  · have k1 : fk op = true := by unfold fk; exact decide_eq_true (p := 1 ≤ op ∧ op ≤ 24) (by omega)
    have k2 : fbare op = false := by unfold fbare; exact decide_eq_false (p := op = 18 ∨ op = 22 ∨ op = 24) (by omega)
    have k3 : ftwo op = true := by unfold ftwo; exact decide_eq_true (p := 3 ≤ op ∧ op ≤ 12) (by omega)
    have k4 : fall op = false := by unfold fall; exact decide_eq_false (p := 14 ≤ op ∧ op ≤ 17 ∨ op = 21) (by omega)
    have k5 : (op != 23) = true := by simp; omega
    have r1 : Hid (fa op = true) := Lib.hid (by unfold fa; rw [k1, k2]; rfl)
    have r2 : Hid (fb op = true) := Lib.hid (by unfold fb; rw [k3, k4]; rfl)
    have r3 : Hid (fi op = false) := Lib.hid (by unfold fi; rw [k1, k3, k5]; rfl)
    have r4 : Hid (fk op = true) := Lib.hid k1
    clear k1 k2 k3 k4
    have : decide (1 ≤ op) = true := by simp; omega
    have : decide (op ≤ 24) = true := by simp; omega
    have : decide (3 ≤ op) = true := by simp; omega
    have : decide (op ≤ 12) = true := by simp; omega
    have : decide (14 ≤ op) = false := by simp; omega
    have : decide (op ≤ 17) = true := by simp; omega
    have : (op == 18) = false := by simp; omega
    have : (op == 22) = false := by simp; omega
    have : (op == 24) = false := by simp; omega
    have : (op == 21) = false := by simp; omega
    clear hc
    rw [r1.out, r2.out, r3.out, r4.out]
    go_enter Try.func51, Try.ntmps51
    go_wp2
    exact bodyPost_ret (v := .tuple #[.bool true, .bool true, .bool false, .bool true]) (by simp [results, Try.results51, go_sem]) rfl ⟨rfl, rfl⟩
  · have r1 : Hid (fa 13 = true) := Lib.hid (by decide)
    have r2 : Hid (fb 13 = false) := Lib.hid (by decide)
    have r3 : Hid (fi 13 = true) := Lib.hid (by decide)
    have r4 : Hid (fk 13 = true) := Lib.hid (by decide)
    rw [r1.out, r2.out, r3.out, r4.out]
    go_enter Try.func51, Try.ntmps51
    go_wp2
    exact bodyPost_ret (v := .tuple #[.bool true, .bool false, .bool true, .bool true]) (by simp [results, Try.results51, go_sem]) rfl ⟨rfl, rfl⟩
  · have k1 : fk op = true := by unfold fk; exact decide_eq_true (p := 1 ≤ op ∧ op ≤ 24) (by omega)
    have k2 : fbare op = false := by unfold fbare; exact decide_eq_false (p := op = 18 ∨ op = 22 ∨ op = 24) (by omega)
    have k3 : ftwo op = false := by unfold ftwo; exact decide_eq_false (p := 3 ≤ op ∧ op ≤ 12) (by omega)
    have k4 : fall op = true := by unfold fall; exact decide_eq_true (p := 14 ≤ op ∧ op ≤ 17 ∨ op = 21) (by omega)
    have k5 : (op != 23) = true := by simp; omega
    have r1 : Hid (fa op = true) := Lib.hid (by unfold fa; rw [k1, k2]; rfl)
    have r2 : Hid (fb op = true) := Lib.hid (by unfold fb; rw [k3, k4]; rfl)
    have r3 : Hid (fi op = true) := Lib.hid (by unfold fi; rw [k1, k3, k5]; rfl)
    have r4 : Hid (fk op = true) := Lib.hid k1
    clear k1 k2 k3 k4
    have : decide (1 ≤ op) = true := by simp; omega
    have : decide (op ≤ 24) = true := by simp; omega
    have : decide (3 ≤ op) = true := by simp; omega
    have : decide (op ≤ 12) = false := by simp; omega
    have : decide (14 ≤ op) = true := by simp; omega
    have : decide (op ≤ 17) = true := by simp; omega
    have : (op == 18) = false := by simp; omega
    have : (op == 22) = false := by simp; omega
    have : (op == 24) = false := by simp; omega
    have : (op == 21) = false := by simp; omega
    clear hc
    rw [r1.out, r2.out, r3.out, r4.out]
    go_enter Try.func51, Try.ntmps51
    go_wp2
    exact bodyPost_ret (v := .tuple #[.bool true, .bool true, .bool true, .bool true]) (by simp [results, Try.results51, go_sem]) rfl ⟨rfl, rfl⟩
  · have r1 : Hid (fa 18 = false) := Lib.hid (by decide)
    have r2 : Hid (fb 18 = false) := Lib.hid (by decide)
    have r3 : Hid (fi 18 = true) := Lib.hid (by decide)
    have r4 : Hid (fk 18 = true) := Lib.hid (by decide)
    rw [r1.out, r2.out, r3.out, r4.out]
    go_enter Try.func51, Try.ntmps51
    go_wp2
    exact bodyPost_ret (v := .tuple #[.bool false, .bool false, .bool true, .bool true]) (by simp [results, Try.results51, go_sem]) rfl ⟨rfl, rfl⟩
  · have k1 : fk op = true := by unfold fk; exact decide_eq_true (p := 1 ≤ op ∧ op ≤ 24) (by omega)
    have k2 : fbare op = false := by unfold fbare; exact decide_eq_false (p := op = 18 ∨ op = 22 ∨ op = 24) (by omega)
    have k3 : ftwo op = false := by unfold ftwo; exact decide_eq_false (p := 3 ≤ op ∧ op ≤ 12) (by omega)
    have k4 : fall op = false := by unfold fall; exact decide_eq_false (p := 14 ≤ op ∧ op ≤ 17 ∨ op = 21) (by omega)
    have k5 : (op != 23) = true := by simp; omega
    have r1 : Hid (fa op = true) := Lib.hid (by unfold fa; rw [k1, k2]; rfl)
    have r2 : Hid (fb op = false) := Lib.hid (by unfold fb; rw [k3, k4]; rfl)
    have r3 : Hid (fi op = true) := Lib.hid (by unfold fi; rw [k1, k3, k5]; rfl)
    have r4 : Hid (fk op = true) := Lib.hid k1
    clear k1 k2 k3 k4
    have : decide (1 ≤ op) = true := by simp; omega
    have : decide (op ≤ 24) = true := by simp; omega
    have : decide (3 ≤ op) = true := by simp; omega
    have : decide (op ≤ 12) = false := by simp; omega
    have : decide (14 ≤ op) = true := by simp; omega
    have : decide (op ≤ 17) = false := by simp; omega
    have : (op == 18) = false := by simp; omega
    have : (op == 22) = false := by simp; omega
    have : (op == 24) = false := by simp; omega
    have : (op == 21) = false := by simp; omega
    clear hc
    rw [r1.out, r2.out, r3.out, r4.out]
    go_enter Try.func51, Try.ntmps51
    go_wp2
    exact bodyPost_ret (v := .tuple #[.bool true, .bool false, .bool true, .bool true]) (by simp [results, Try.results51, go_sem]) rfl ⟨rfl, rfl⟩
  · have r1 : Hid (fa 21 = true) := Lib.hid (by decide)
    have r2 : Hid (fb 21 = true) := Lib.hid (by decide)
    have r3 : Hid (fi 21 = true) := Lib.hid (by decide)
    have r4 : Hid (fk 21 = true) := Lib.hid (by decide)
    rw [r1.out, r2.out, r3.out, r4.out]
    go_enter Try.func51, Try.ntmps51
    go_wp2
    exact bodyPost_ret (v := .tuple #[.bool true, .bool true, .bool true, .bool true]) (by simp [results, Try.results51, go_sem]) rfl ⟨rfl, rfl⟩
  · have r1 : Hid (fa 22 = false) := Lib.hid (by decide)
    have r2 : Hid (fb 22 = false) := Lib.hid (by decide)
    have r3 : Hid (fi 22 = true) := Lib.hid (by decide)
    have r4 : Hid (fk 22 = true) := Lib.hid (by decide)
    rw [r1.out, r2.out, r3.out, r4.out]
    go_enter Try.func51, Try.ntmps51
    go_wp2
    exact bodyPost_ret (v := .tuple #[.bool false, .bool false, .bool true, .bool true]) (by simp [results, Try.results51, go_sem]) rfl ⟨rfl, rfl⟩
  · have r1 : Hid (fa 23 = true) := Lib.hid (by decide)
    have r2 : Hid (fb 23 = false) := Lib.hid (by decide)
    have r3 : Hid (fi 23 = false) := Lib.hid (by decide)
    have r4 : Hid (fk 23 = true) := Lib.hid (by decide)
    rw [r1.out, r2.out, r3.out, r4.out]
    go_enter Try.func51, Try.ntmps51
    go_wp2
    exact bodyPost_ret (v := .tuple #[.bool true, .bool false, .bool false, .bool true]) (by simp [results, Try.results51, go_sem]) rfl ⟨rfl, rfl⟩
  · have r1 : Hid (fa 24 = false) := Lib.hid (by decide)
    have r2 : Hid (fb 24 = false) := Lib.hid (by decide)
    have r3 : Hid (fi 24 = true) := Lib.hid (by decide)
    have r4 : Hid (fk 24 = true) := Lib.hid (by decide)
    rw [r1.out, r2.out, r3.out, r4.out]
    go_enter Try.func51, Try.ntmps51
    go_wp2
    exact bodyPost_ret (v := .tuple #[.bool false, .bool false, .bool true, .bool true]) (by simp [results, Try.results51, go_sem]) rfl ⟨rfl, rfl⟩
  · have k1 : fk op = false := by unfold fk; exact decide_eq_false (p := 1 ≤ op ∧ op ≤ 24) (by omega)
    have k2 : fbare op = false := by unfold fbare; exact decide_eq_false (p := op = 18 ∨ op = 22 ∨ op = 24) (by omega)
    have k3 : ftwo op = false := by unfold ftwo; exact decide_eq_false (p := 3 ≤ op ∧ op ≤ 12) (by omega)
    have k4 : fall op = false := by unfold fall; exact decide_eq_false (p := 14 ≤ op ∧ op ≤ 17 ∨ op = 21) (by omega)
    have k5 : (op != 23) = true := by simp; omega
    have r1 : Hid (fa op = false) := Lib.hid (by unfold fa; rw [k1, k2]; rfl)
    have r2 : Hid (fb op = false) := Lib.hid (by unfold fb; rw [k3, k4]; rfl)
    have r3 : Hid (fi op = false) := Lib.hid (by unfold fi; rw [k1, k3, k5]; rfl)
    have r4 : Hid (fk op = false) := Lib.hid k1
    clear k1 k2 k3 k4
    have : decide (1 ≤ op) = true := by simp; omega
    have : decide (op ≤ 24) = false := by simp; omega
    have : decide (3 ≤ op) = true := by simp; omega
    have : decide (op ≤ 12) = false := by simp; omega
    have : decide (14 ≤ op) = true := by simp; omega
    have : decide (op ≤ 17) = false := by simp; omega
    have : (op == 18) = false := by simp; omega
    have : (op == 22) = false := by simp; omega
    have : (op == 24) = false := by simp; omega
    have : (op == 21) = false := by simp; omega
    clear hc
    rw [r1.out, r2.out, r3.out, r4.out]
    go_enter Try.func51, Try.ntmps51
    go_wp2
    exact bodyPost_ret (v := .tuple #[.bool false, .bool false, .bool false, .bool false]) (by simp [results, Try.results51, go_sem]) rfl ⟨rfl, rfl⟩
end Go.Proofs.Ytdokmnpkihmkpaa.Isa3
