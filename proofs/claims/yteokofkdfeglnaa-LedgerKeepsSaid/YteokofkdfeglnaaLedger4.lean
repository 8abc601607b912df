/- Contracts of package ledger (Close at other arguments, New), and the chapter's example. -/
import Derived.Test.YteokofkdfeglnaaLedger3
set_option linter.unusedVariables false
namespace Go.Proofs.Yteokofkdfeglnaa.Ledger4
open Go.RowKit Go.Proofs.Yteokofkdfeglnaa.Base Go.Proofs.Yteokofkdfeglnaa.Row Go.Proofs.Yteokofkdfeglnaa.Ledger Go.Proofs.Yteokofkdfeglnaa.Ledger2 Go.Proofs.Yteokofkdfeglnaa.Ledger3

set_option maxRecDepth 100000 in
theorem close_no1 (g : Nat) (e t : Int) (w : World) (hm : lmay e 0 0 = false) :
    Calls Try.prog 33 #[.pointer (some ⟨g, 0, none⟩), .int .i64 e, .int .i64 t] w fun r w' => r = .returned (.int .i64 1) ∧ w = w' := by
  have hM := Lib.hid (fun w => may_c e 0 0 w)
  rw [hm] at hM
  clear hm
  go_enter_defers Try.func33, Try.ntmps33
  go_wp2_with fail
  refine (hM.out _).mono ?_
  rintro r w1 ⟨rfl, rfl⟩
  go_wp2
  exact ⟨_, results_tmp rfl _ _ _, rfl, rfl⟩
set_option maxRecDepth 100000 in
theorem close_no2 (g : Nat) (e t : Int) (w : World) (hm1 : lmay e 0 0 = true) (hm : lmay t 0 0 = false) :
    Calls Try.prog 33 #[.pointer (some ⟨g, 0, none⟩), .int .i64 e, .int .i64 t] w fun r w' => r = .returned (.int .i64 1) ∧ w = w' := by
  have hM1 := Lib.hid (fun w => may_c e 0 0 w)
  rw [hm1] at hM1
  have hM := Lib.hid (fun w => may_c t 0 0 w)
  rw [hm] at hM
  clear hm hm1
  go_enter_defers Try.func33, Try.ntmps33
  go_wp2_with fail
  refine (hM1.out _).mono ?_
  rintro r w1 ⟨rfl, rfl⟩
  go_wp2_with fail
  refine (hM.out _).mono ?_
  rintro r w1 ⟨rfl, rfl⟩
  go_wp2
  exact ⟨_, results_tmp rfl _ _ _, rfl, rfl⟩
set_option maxRecDepth 100000 in
theorem close_no3 (g : Nat) (e : Int) (w : World) (hm1 : lmay e 0 0 = true) :
    Calls Try.prog 33 #[.pointer (some ⟨g, 0, none⟩), .int .i64 e, .int .i64 e] w fun r w' => r = .returned (.int .i64 1) ∧ w = w' := by
  have hM1 := Lib.hid (fun w => may_c e 0 0 w)
  rw [hm1] at hM1
  clear hm1
  go_enter_defers Try.func33, Try.ntmps33
  go_wp2_with fail
  refine (hM1.out _).mono ?_
  rintro r w1 ⟨rfl, rfl⟩
  go_wp2_with fail
  refine (hM1.out _).mono ?_
  rintro r w1 ⟨rfl, rfl⟩
  go_wp2
  exact ⟨_, results_tmp rfl _ _ _, rfl, rfl⟩
set_option maxRecDepth 100000 in
theorem close_nil (e t : Int) (w : World) :
    Calls Try.prog 33 #[.pointer none, .int .i64 e, .int .i64 t] w fun r w' => r = .returned (.int .i64 1) ∧ w = w' := by
  go_enter_defers Try.func33, Try.ntmps33
  go_wp2
  exact ⟨_, results_tmp rfl _ _ _, rfl, rfl⟩
theorem close_c (g : Nat) (e t : Int) (L : List Int) (w : World) (h : Lg w g 0 L) (hl : L.length = 128) :
    Calls Try.prog 33 #[.pointer (some ⟨g, 0, none⟩), .int .i64 e, .int .i64 t] w fun r w' => r = .returned (.int .i64 (pClose L e t).1) ∧ Lg w' g 0 (pClose L e t).2 ∧ w.grownBy w' (some g) := by
  cases hm : lmay e 0 0 with
  | true =>
    cases hm2 : lmay t 0 0 with
    | true =>
      by_cases het : e = t
      · subst het
        refine (close_no3 g e w hm).mono ?_
        rintro r w1 ⟨rfl, rfl⟩
        exact ⟨by simp [pClose, hm], by simpa [pClose, hm] using h, World.grownBy.refl _ _⟩
      · obtain ⟨e, _, rfl, _, he, _, _, _⟩ := lmay_nat hm
        obtain ⟨t, _, rfl, _, ht, _, _, _⟩ := lmay_nat hm2
        have het' : ¬ e = t := fun h' => het (by rw [h'])
        have hb : ((e : Int) == (t : Int)) = false := by simp; omega
        have hp : pClose L e t = (0, z8 (clk L e t 4) e) := by simp [pClose, hm, hm2, hb]
        rw [hp]
        exact close_yes g e t L w h hl he ht het'
    | false =>
      refine (close_no2 g e t w hm hm2).mono ?_
      rintro r w1 ⟨rfl, rfl⟩
      exact ⟨by simp [pClose, hm2], by simpa [pClose, hm2] using h, World.grownBy.refl _ _⟩
  | false =>
    refine (close_no1 g e t w hm).mono ?_
    rintro r w1 ⟨rfl, rfl⟩
    exact ⟨by simp [pClose, hm], by simpa [pClose, hm] using h, World.grownBy.refl _ _⟩

/-- A number kept between 0 and 512. -/
def mm (n : Int) : Int := if n < 0 then 0 else if 512 < n then 512 else n
def z128 : List Int := List.replicate 128 0
def nk (v : Nat → Int) : Nat → List Int
  | 0 => z128
  | j + 1 => (nk v j).set j (mm (v j))
theorem nk_len (v : Nat → Int) (j : Nat) : (nk v j).length = 128 := by
  induction j with
  | zero => rfl
  | succ j ih => rw [nk, List.length_set, ih]
def v4 (a b c d : Int) : Nat → Int
  | 0 => a
  | 1 => b
  | 2 => c
  | _ => d
def all4 (a b c d : Int) : Array Value := #[.int .i64 a, .int .i64 b, .int .i64 c, .int .i64 d]
theorem zero_led : Try.prog.built 80 [] = some (lc 0 z128) := by kernel_rfl
theorem size_4 : (Try.prog.info? 22).map (·.size) = some 4 := by kernel_rfl
set_option maxRecDepth 100000 in
set_option maxHeartbeats 4000000 in
theorem new_c (a b c d : Int) (w : World) :
    Calls Try.prog 23 #[.agg (all4 a b c d)] w fun r w' => r = .returned (.pointer (some ⟨w.heap.size + 1, 0, none⟩)) ∧ Lg w' (w.heap.size + 1) 0 (nk (v4 a b c d) 4) ∧ Below w.heap.size w w' := by
  have f0 := (Blk.new w 22 (all4 a b c d)).cellv 0 (.int .i64 a) rfl
  have f1 := (Blk.new w 22 (all4 a b c d)).cellv 1 (.int .i64 b) rfl
  have f2 := (Blk.new w 22 (all4 a b c d)).cellv 2 (.int .i64 c) rfl
  have f3 := (Blk.new w 22 (all4 a b c d)).cellv 3 (.int .i64 d) rfl
  go_enter Try.func23, Try.ntmps23
  go_wp2_with (first
    | (with_reducible refine wl_build0 rfl 80 rfl (lc 0 z128) zero_led ?_)
    | ((with_reducible refine wl_box rfl 80 _ rfl (lc 0 z128) rfl ?_); intro w2 k2 b2 s2; have f0 := bl_cell b2 f0; have f1 := bl_cell b2 f1; have f2 := bl_cell b2 f2; have f3 := bl_cell b2 f3))
  have B2 := bl_then (bl_alloc (bl_refl w) (.cells (all4 a b c d) 22)) b2
  have z2 := b2.size
  have k2' : Lg w2 (w.heap.size + 1) 0 (nk (v4 a b c d) 0) := by
    have e : (w.alloc (.cells (all4 a b c d) 22)).heap.size = w.heap.size + 1 := Array.size_push _
    first
      | exact k2
      | (rw [e] at k2; exact k2)
  go_loopw [9] (fun i wr => ∃ (j : Nat), j ≤ 4 ∧ i = .int .i64 j ∧ Lg wr (w.heap.size + 1) 0 (nk (v4 a b c d) j) ∧ w2.grownBy wr (some (w.heap.size + 1))) (fun i _ => 4 - (intOf i).toNat)
  case atStart => exact ⟨0, by omega, rfl, k2', World.grownBy.refl _ _⟩
  case round =>
    obtain ⟨j, hj, rfl, KV, HG⟩ := hrel
    obtain ⟨wo, rfl⟩ : ∃ wo : World, wo = wr := ⟨_, rfl⟩
    clear f0 f1 f2 f3 k2 k2'
    by_cases hlt : j < 4
    · have hcases : j = 0 ∨ j = 1 ∨ j = 2 ∨ j = 3 := by omega
      clear hj hlt
      obtain rfl | rfl | rfl | rfl := hcases
      · have hsz : 2 < (lc 0 (nk (v4 a b c d) 0)).size := by rw [lc_size, nk_len]; omega
        have hszh := Lib.hid hsz
        clear hsz
        have hi : ∀ (p q r s : Value) (W : World), (Instr.index 22 (.agg #[p, q, r, s]) (.int .i64 0)).run Try.prog W = .ok p W := fun _ _ _ _ _ => by kernel_rfl
        by_cases h0 : a < 0
        · have hmm : Hid (mm (v4 a b c d 0) = 0) := Lib.hid (by simp [mm, v4, h0])
          go_wp2_with (first | ((refine wl_set (by rfl) 3 _ _ (by rfl) (w.heap.size + 1) 2 (by rfl) (.int .i64 0) (by rfl) rfl 80 (lc 0 (nk (v4 a b c d) 0)) KV size_int hszh.out ?_); intro w4 k4 g4 s4))
          have k5 : Lg w4 (w.heap.size + 1) 0 (nk (v4 a b c d) (0 + 1)) := by
            have K := (congrArg (fun a => Blk w4 (w.heap.size + 1) 80 a) (lc_set 0 (nk (v4 a b c d) 0) 0 0)).mp k4
            unfold nk
            rw [hmm.out]
            exact K
          clear k4
          go_roundw
          case rel => exact ⟨0 + 1, by omega, by go_num, k5, World.grownBy.trans HG g4⟩
          case measure => first | (simp [intOf]; done) | (simp [intOf]; omega)
        · by_cases h1 : 512 < a
          · have hmm : Hid (mm (v4 a b c d 0) = 512) := Lib.hid (by simp [mm, v4, h0, h1])
            go_wp2_with (first | ((refine wl_set (by rfl) 3 _ _ (by rfl) (w.heap.size + 1) 2 (by rfl) (.int .i64 512) (by rfl) rfl 80 (lc 0 (nk (v4 a b c d) 0)) KV size_int hszh.out ?_); intro w4 k4 g4 s4))
            have k5 : Lg w4 (w.heap.size + 1) 0 (nk (v4 a b c d) (0 + 1)) := by
              have K := (congrArg (fun a => Blk w4 (w.heap.size + 1) 80 a) (lc_set 0 (nk (v4 a b c d) 0) 0 512)).mp k4
              unfold nk
              rw [hmm.out]
              exact K
            clear k4
            go_roundw
            case rel => exact ⟨0 + 1, by omega, by go_num, k5, World.grownBy.trans HG g4⟩
            case measure => first | (simp [intOf]; done) | (simp [intOf]; omega)
          · have hmm : Hid (mm (v4 a b c d 0) = a) := Lib.hid (by simp [mm, v4, h0, h1])
            go_wp2_with (first | ((refine wl_set (by rfl) 3 _ _ (by rfl) (w.heap.size + 1) 2 (by rfl) (.int .i64 a) (by rfl) rfl 80 (lc 0 (nk (v4 a b c d) 0)) KV size_int hszh.out ?_); intro w4 k4 g4 s4))
            have k5 : Lg w4 (w.heap.size + 1) 0 (nk (v4 a b c d) (0 + 1)) := by
              have K := (congrArg (fun a => Blk w4 (w.heap.size + 1) 80 a) (lc_set 0 (nk (v4 a b c d) 0) 0 a)).mp k4
              unfold nk
              rw [hmm.out]
              exact K
            clear k4
            go_roundw
            case rel => exact ⟨0 + 1, by omega, by go_num, k5, World.grownBy.trans HG g4⟩
            case measure => first | (simp [intOf]; done) | (simp [intOf]; omega)
      · have hsz : 3 < (lc 0 (nk (v4 a b c d) 1)).size := by rw [lc_size, nk_len]; omega
        have hszh := Lib.hid hsz
        clear hsz
        have hi : ∀ (p q r s : Value) (W : World), (Instr.index 22 (.agg #[p, q, r, s]) (.int .i64 1)).run Try.prog W = .ok q W := fun _ _ _ _ _ => by kernel_rfl
        by_cases h0 : b < 0
        · have hmm : Hid (mm (v4 a b c d 1) = 0) := Lib.hid (by simp [mm, v4, h0])
          go_wp2_with (first | ((refine wl_set (by rfl) 3 _ _ (by rfl) (w.heap.size + 1) 3 (by rfl) (.int .i64 0) (by rfl) rfl 80 (lc 0 (nk (v4 a b c d) 1)) KV size_int hszh.out ?_); intro w4 k4 g4 s4))
          have k5 : Lg w4 (w.heap.size + 1) 0 (nk (v4 a b c d) (1 + 1)) := by
            have K := (congrArg (fun a => Blk w4 (w.heap.size + 1) 80 a) (lc_set 0 (nk (v4 a b c d) 1) 1 0)).mp k4
            unfold nk
            rw [hmm.out]
            exact K
          clear k4
          go_roundw
          case rel => exact ⟨1 + 1, by omega, by go_num, k5, World.grownBy.trans HG g4⟩
          case measure => first | (simp [intOf]; done) | (simp [intOf]; omega)
        · by_cases h1 : 512 < b
          · have hmm : Hid (mm (v4 a b c d 1) = 512) := Lib.hid (by simp [mm, v4, h0, h1])
            go_wp2_with (first | ((refine wl_set (by rfl) 3 _ _ (by rfl) (w.heap.size + 1) 3 (by rfl) (.int .i64 512) (by rfl) rfl 80 (lc 0 (nk (v4 a b c d) 1)) KV size_int hszh.out ?_); intro w4 k4 g4 s4))
            have k5 : Lg w4 (w.heap.size + 1) 0 (nk (v4 a b c d) (1 + 1)) := by
              have K := (congrArg (fun a => Blk w4 (w.heap.size + 1) 80 a) (lc_set 0 (nk (v4 a b c d) 1) 1 512)).mp k4
              unfold nk
              rw [hmm.out]
              exact K
            clear k4
            go_roundw
            case rel => exact ⟨1 + 1, by omega, by go_num, k5, World.grownBy.trans HG g4⟩
            case measure => first | (simp [intOf]; done) | (simp [intOf]; omega)
          · have hmm : Hid (mm (v4 a b c d 1) = b) := Lib.hid (by simp [mm, v4, h0, h1])
            go_wp2_with (first | ((refine wl_set (by rfl) 3 _ _ (by rfl) (w.heap.size + 1) 3 (by rfl) (.int .i64 b) (by rfl) rfl 80 (lc 0 (nk (v4 a b c d) 1)) KV size_int hszh.out ?_); intro w4 k4 g4 s4))
            have k5 : Lg w4 (w.heap.size + 1) 0 (nk (v4 a b c d) (1 + 1)) := by
              have K := (congrArg (fun a => Blk w4 (w.heap.size + 1) 80 a) (lc_set 0 (nk (v4 a b c d) 1) 1 b)).mp k4
              unfold nk
              rw [hmm.out]
              exact K
            clear k4
            go_roundw
            case rel => exact ⟨1 + 1, by omega, by go_num, k5, World.grownBy.trans HG g4⟩
            case measure => first | (simp [intOf]; done) | (simp [intOf]; omega)
      · have hsz : 4 < (lc 0 (nk (v4 a b c d) 2)).size := by rw [lc_size, nk_len]; omega
        have hszh := Lib.hid hsz
        clear hsz
        have hi : ∀ (p q r s : Value) (W : World), (Instr.index 22 (.agg #[p, q, r, s]) (.int .i64 2)).run Try.prog W = .ok r W := fun _ _ _ _ _ => by kernel_rfl
        by_cases h0 : c < 0
        · have hmm : Hid (mm (v4 a b c d 2) = 0) := Lib.hid (by simp [mm, v4, h0])
          go_wp2_with (first | ((refine wl_set (by rfl) 3 _ _ (by rfl) (w.heap.size + 1) 4 (by rfl) (.int .i64 0) (by rfl) rfl 80 (lc 0 (nk (v4 a b c d) 2)) KV size_int hszh.out ?_); intro w4 k4 g4 s4))
          have k5 : Lg w4 (w.heap.size + 1) 0 (nk (v4 a b c d) (2 + 1)) := by
            have K := (congrArg (fun a => Blk w4 (w.heap.size + 1) 80 a) (lc_set 0 (nk (v4 a b c d) 2) 2 0)).mp k4
            unfold nk
            rw [hmm.out]
            exact K
          clear k4
          go_roundw
          case rel => exact ⟨2 + 1, by omega, by go_num, k5, World.grownBy.trans HG g4⟩
          case measure => first | (simp [intOf]; done) | (simp [intOf]; omega)
        · by_cases h1 : 512 < c
          · have hmm : Hid (mm (v4 a b c d 2) = 512) := Lib.hid (by simp [mm, v4, h0, h1])
            go_wp2_with (first | ((refine wl_set (by rfl) 3 _ _ (by rfl) (w.heap.size + 1) 4 (by rfl) (.int .i64 512) (by rfl) rfl 80 (lc 0 (nk (v4 a b c d) 2)) KV size_int hszh.out ?_); intro w4 k4 g4 s4))
            have k5 : Lg w4 (w.heap.size + 1) 0 (nk (v4 a b c d) (2 + 1)) := by
              have K := (congrArg (fun a => Blk w4 (w.heap.size + 1) 80 a) (lc_set 0 (nk (v4 a b c d) 2) 2 512)).mp k4
              unfold nk
              rw [hmm.out]
              exact K
            clear k4
            go_roundw
            case rel => exact ⟨2 + 1, by omega, by go_num, k5, World.grownBy.trans HG g4⟩
            case measure => first | (simp [intOf]; done) | (simp [intOf]; omega)
          · have hmm : Hid (mm (v4 a b c d 2) = c) := Lib.hid (by simp [mm, v4, h0, h1])
            go_wp2_with (first | ((refine wl_set (by rfl) 3 _ _ (by rfl) (w.heap.size + 1) 4 (by rfl) (.int .i64 c) (by rfl) rfl 80 (lc 0 (nk (v4 a b c d) 2)) KV size_int hszh.out ?_); intro w4 k4 g4 s4))
            have k5 : Lg w4 (w.heap.size + 1) 0 (nk (v4 a b c d) (2 + 1)) := by
              have K := (congrArg (fun a => Blk w4 (w.heap.size + 1) 80 a) (lc_set 0 (nk (v4 a b c d) 2) 2 c)).mp k4
              unfold nk
              rw [hmm.out]
              exact K
            clear k4
            go_roundw
            case rel => exact ⟨2 + 1, by omega, by go_num, k5, World.grownBy.trans HG g4⟩
            case measure => first | (simp [intOf]; done) | (simp [intOf]; omega)
      · have hsz : 5 < (lc 0 (nk (v4 a b c d) 3)).size := by rw [lc_size, nk_len]; omega
        have hszh := Lib.hid hsz
        clear hsz
        have hi : ∀ (p q r s : Value) (W : World), (Instr.index 22 (.agg #[p, q, r, s]) (.int .i64 3)).run Try.prog W = .ok s W := fun _ _ _ _ _ => by kernel_rfl
        by_cases h0 : d < 0
        · have hmm : Hid (mm (v4 a b c d 3) = 0) := Lib.hid (by simp [mm, v4, h0])
          go_wp2_with (first | ((refine wl_set (by rfl) 3 _ _ (by rfl) (w.heap.size + 1) 5 (by rfl) (.int .i64 0) (by rfl) rfl 80 (lc 0 (nk (v4 a b c d) 3)) KV size_int hszh.out ?_); intro w4 k4 g4 s4))
          have k5 : Lg w4 (w.heap.size + 1) 0 (nk (v4 a b c d) (3 + 1)) := by
            have K := (congrArg (fun a => Blk w4 (w.heap.size + 1) 80 a) (lc_set 0 (nk (v4 a b c d) 3) 3 0)).mp k4
            unfold nk
            rw [hmm.out]
            exact K
          clear k4
          go_roundw
          case rel => exact ⟨3 + 1, by omega, by go_num, k5, World.grownBy.trans HG g4⟩
          case measure => first | (simp [intOf]; done) | (simp [intOf]; omega)
        · by_cases h1 : 512 < d
          · have hmm : Hid (mm (v4 a b c d 3) = 512) := Lib.hid (by simp [mm, v4, h0, h1])
            go_wp2_with (first | ((refine wl_set (by rfl) 3 _ _ (by rfl) (w.heap.size + 1) 5 (by rfl) (.int .i64 512) (by rfl) rfl 80 (lc 0 (nk (v4 a b c d) 3)) KV size_int hszh.out ?_); intro w4 k4 g4 s4))
            have k5 : Lg w4 (w.heap.size + 1) 0 (nk (v4 a b c d) (3 + 1)) := by
              have K := (congrArg (fun a => Blk w4 (w.heap.size + 1) 80 a) (lc_set 0 (nk (v4 a b c d) 3) 3 512)).mp k4
              unfold nk
              rw [hmm.out]
              exact K
            clear k4
            go_roundw
            case rel => exact ⟨3 + 1, by omega, by go_num, k5, World.grownBy.trans HG g4⟩
            case measure => first | (simp [intOf]; done) | (simp [intOf]; omega)
          · have hmm : Hid (mm (v4 a b c d 3) = d) := Lib.hid (by simp [mm, v4, h0, h1])
            go_wp2_with (first | ((refine wl_set (by rfl) 3 _ _ (by rfl) (w.heap.size + 1) 5 (by rfl) (.int .i64 d) (by rfl) rfl 80 (lc 0 (nk (v4 a b c d) 3)) KV size_int hszh.out ?_); intro w4 k4 g4 s4))
            have k5 : Lg w4 (w.heap.size + 1) 0 (nk (v4 a b c d) (3 + 1)) := by
              have K := (congrArg (fun a => Blk w4 (w.heap.size + 1) 80 a) (lc_set 0 (nk (v4 a b c d) 3) 3 d)).mp k4
              unfold nk
              rw [hmm.out]
              exact K
            clear k4
            go_roundw
            case rel => exact ⟨3 + 1, by omega, by go_num, k5, World.grownBy.trans HG g4⟩
            case measure => first | (simp [intOf]; done) | (simp [intOf]; omega)
    · obtain rfl : j = 4 := by omega
      clear hlt hj
      go_wp2
      go_ret
      exact ⟨rfl, KV, below_grown B2 B2.size HG (by omega)⟩

theorem grown_lt {w w1 w2 : World} {g : Nat} (h : Below w.heap.size w w1) (hg : w1.grownBy w2 (some g)) (hlt : w.heap.size ≤ g) : Below w.heap.size w w2 := below_grown h h.size hg hlt

set_option maxRecDepth 100000 in
set_option maxHeartbeats 4000000 in
theorem awake_c (w : World) : Calls Try.prog 29 #[] w fun e w' => e = .returned (.bool true) ∧ Below w.heap.size w w' := by
  obtain ⟨L0, hL0⟩ : ∃ L, nk (v4 10 0 0 0) 4 = L := ⟨_, rfl⟩
  have l0 : L0.length = 128 := by rw [← hL0, nk_len]
  obtain ⟨L1, hL1⟩ : ∃ L, (pMove L0 0 1 0 4).2 = L := ⟨_, rfl⟩
  have l1 : L1.length = 128 := by rw [← hL1, move_len, l0]
  have m1 : (pMove L0 0 1 0 4).1 = 0 := by rw [← hL0]; decide +kernel
  obtain ⟨L2, hL2⟩ : ∃ L, (pTake L1 1 0 5).2 = L := ⟨_, rfl⟩
  have l2 : L2.length = 128 := by rw [← hL2, Ledger2.take_len, l1]
  have m2 : (pTake L1 1 0 5).1 = 21 := by rw [← hL1, ← hL0]; decide +kernel
  obtain ⟨L3, hL3⟩ : ∃ L, (pTake L2 1 0 4).2 = L := ⟨_, rfl⟩
  have l3 : L3.length = 128 := by rw [← hL3, Ledger2.take_len, l2]
  have m3 : (pTake L2 1 0 4).1 = 0 := by rw [← hL2, ← hL1, ← hL0]; decide +kernel
  have m4 : pLeft L3 1 0 = 0 := by rw [← hL3, ← hL2, ← hL1, ← hL0]; decide +kernel
  have m5 : pLeft L3 0 0 = 6 := by rw [← hL3, ← hL2, ← hL1, ← hL0]; decide +kernel
  have hN := Lib.hid (new_c 10 0 0 0 w)
  rw [hL0] at hN
  have hM := Lib.hid (fun g w h => move_c g 0 1 0 4 L0 w h l0)
  rw [hL1, m1] at hM
  have hT := Lib.hid (fun g w h => take_c g 1 0 5 L1 w h l1)
  rw [hL2, m2] at hT
  have hU := Lib.hid (fun g w h => take_c g 1 0 4 L2 w h l2)
  rw [hL3, m3] at hU
  have hV := Lib.hid (fun g w h => left_c g 1 0 L3 w h l3)
  rw [m4] at hV
  have hW := Lib.hid (fun g w h => left_c g 0 0 L3 w h l3)
  rw [m5] at hW
  clear hL0 hL1 hL2 hL3 m1 m2 m3 m4 m5
  go_enter Try.func29, Try.ntmps29
  go_wp2_with fail
  refine hN.out.mono ?_
  rintro r w1 ⟨rfl, k1, b1⟩
  go_wp2_with fail
  refine (hM.out _ _ k1).mono ?_
  rintro r w2 ⟨rfl, k2, g2⟩
  have b2 := grown_lt b1 g2 (by omega)
  go_wp2_with fail
  refine (hT.out _ _ k2).mono ?_
  rintro r w3 ⟨rfl, k3, g3⟩
  have b3 := grown_lt b2 g3 (by omega)
  go_wp2_with fail
  refine (hU.out _ _ k3).mono ?_
  rintro r w4 ⟨rfl, k4, g4⟩
  have b4 := grown_lt b3 g4 (by omega)
  go_wp2_with fail
  refine (hV.out _ _ k4).mono ?_
  rintro r w5 ⟨rfl, k5, g5⟩
  have b5 := grown_lt b4 g5 (by omega)
  go_wp2_with fail
  refine (hW.out _ _ k5).mono ?_
  rintro r w6 ⟨rfl, k6, g6⟩
  have b6 := grown_lt b5 g6 (by omega)
  go_wp2
  go_ret
  exact ⟨rfl, b6⟩
end Go.Proofs.Yteokofkdfeglnaa.Ledger4
