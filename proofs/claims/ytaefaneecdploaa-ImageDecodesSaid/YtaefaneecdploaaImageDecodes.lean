/- ImageDecodes: at every slice of bytes the law's text returns true. -/
import Derived.Test.YtaefaneecdploaaImageAwake
set_option linter.unusedVariables false
namespace Go.Proofs.Ytaefaneecdploaa.ImageDecodes
open Go.RowKit Go.Proofs.Ytaefaneecdploaa.Base Go.Proofs.Ytaefaneecdploaa.Math Go.Proofs.Ytaefaneecdploaa.Row Go.Proofs.Ytaefaneecdploaa.Image Go.Proofs.Ytaefaneecdploaa.ImageRef Go.Proofs.Ytaefaneecdploaa.ImageCode Go.Proofs.Ytaefaneecdploaa.ImageAwake

set_option maxHeartbeats 8000000 in
theorem main (A : Option Addr) (n c : Nat) (xs : List Int) (w : World) (hr : Rd w .u8 A n xs) (hx : ∀ x ∈ xs, 0 ≤ x ∧ x < 256) (hnc : n ≤ c) (ys : List Int) (m : Nat) (hm : m ≤ 3000) (hmn : m ≤ n) (hys : ys = xs.take m) (h3 : n ≤ 3000 → m = n) (h4 : 3000 < n → m = 3000) :
    Calls Try.prog 11 #[.slice A n c] w fun e w' => e = .returned (.bool true) ∧ Below w.heap.size w w' := by
  have hR : Rd w .u8 A m ys := by subst hys; exact hr.take hmn
  have hy : Hid (∀ x ∈ ys, 0 ≤ x ∧ x < 256) := Lib.hid (by subst hys; exact fun x h => hx x (List.mem_of_mem_take h))
  have hnm := hr.max
  clear hys hr hx
  by_cases hn : 3000 < n
  · obtain rfl := h4 hn
    by_cases hok : okB ys = true
    · obtain ⟨v1, v2, v3, v4⟩ := (yes_all hok).out
      obtain ⟨E1, hE⟩ : ∃ E1, dE ys = E1 := ⟨_, rfl⟩
      obtain ⟨P1, hP⟩ : ∃ P1, dP ys = P1 := ⟨_, rfl⟩
      obtain ⟨WS, hW⟩ : ∃ WS, dW ys = WS := ⟨_, rfl⟩
      have HV : Hid (okB ys = true ∧ dE ys = E1 ∧ dP ys = P1 ∧ dW ys = WS) := Lib.hid ⟨hok, hE, hP, hW⟩
      clear v1 v2 v3 v4 hE hP hW hok
      go_enter Try.func11, Try.ntmps11
      go_wp2_with fail
      refine (Image.decode_c A 3000 c ys _ hR hy.out (by omega) (by omega)).mono ?_
      rintro e w1 ⟨⟨A1, n1, c1, rfl, hr1, hnc1⟩, b1⟩
      rw [HV.out.1, HV.out.2.1, HV.out.2.2.1]
      rw [HV.out.2.2.2] at hr1
      have hR1 := hR.below b1
      simp only [if_true]
      go_wp2_with (first
        | ((with_reducible refine wl_alloc rfl 64 rfl (row3 0 0 (.slice none 0 0)) new64 ?_); intro w2 k2 b2 s2)
        | ((with_reducible refine wl_store rfl 64 _ _ rfl w1.heap.size rfl (row3 E1 P1 (.slice A1 n1 c1)) rfl 64 (row3 0 0 (.slice none 0 0)) k2 (size64 _ rfl) rfl (one3 _ _ _ _ _) ?_); intro w3 k3 g3 s3))
      have b13 := below_grown b2 b2.size g3 (Nat.le_refl _)
      have hR3 := hR1.below b13
      have hr3 := hr1.below b13
      have B3 := bl_then b1 b13
      clear hR hR1 hr1 b1 b2 k2 g3 b13
      refine (ImageRef.refdecode_c A 3000 c ys _ hR3 hy.out (by omega)).mono ?_
      rintro e w4 ⟨⟨A4, n4, c4, rfl, hr4, hnc4⟩, b4⟩
      rw [HV.out.1, HV.out.2.1, HV.out.2.2.1]
      rw [HV.out.2.2.2] at hr4
      have k4 := k3.below b4
      have hr3' := hr3.below b4
      have B4 := bl_then B3 b4
      clear b4 k3 hr3 B3 hR3
      go_wp2_with (first
        | ((with_reducible refine wl_alloc rfl 61 rfl (row3 0 0 (.slice none 0 0)) new61 ?_); intro w5 k5 b5 s5; have k4' := k4.below b5)
        | ((with_reducible refine wl_store rfl 61 _ _ rfl w4.heap.size rfl (row3 E1 P1 (.slice A4 n4 c4)) rfl 61 (row3 0 0 (.slice none 0 0)) k5 (size61 _ rfl) rfl (one3 _ _ _ _ _) ?_); intro w6 k6 g6 s6; have k4'' := k4'.grown g6 (fun e => by injection e with e; have := k4.lt; omega))
        | ((with_reducible refine wl_load_on rfl 64 _ rfl w1.heap.size rfl 64 (row3 E1 P1 (.slice A1 n1 c1)) _ k4'' Try.underlying64 rfl (size64 _ rfl) ?hop ?_); (case hop => exact ⟨_, _, rfl, rfl, rfl⟩))
        | ((with_reducible refine wl_load_on rfl 61 _ rfl w4.heap.size rfl 61 (row3 E1 P1 (.slice A4 n4 c4)) _ k6 Try.underlying61 rfl (size61 _ rfl) ?hop ?_); (case hop => exact ⟨_, _, rfl, rfl, rfl⟩)))
      have b46 := below_grown b5 b5.size g6 (Nat.le_refl _)
      have B6 := bl_then B4 b46
      have hra := hr3'.below b46
      have hrb := hr4.below b46
      clear hr3' hr4 B4 b5 g6 k6 k5 k4 k4' k4'' b46
      refine (same_yes E1 P1 A1 A4 n1 n4 c1 c4 WS _ hra hrb).mono ?_
      rintro e w7 ⟨rfl, b7⟩
      have B7 := bl_then B6 b7
      clear b7 B6 hra hrb
      go_wp2_with fail
      refine (ImageAwake.awake_c _).mono ?_
      rintro e w8 ⟨rfl, b8⟩
      go_wp2
      go_ret
      exact ⟨rfl, bl_then B7 b8⟩
    · have HV : Hid (okB ys = false ∧ dE ys = 0 ∧ dP ys = 0 ∧ dW ys = []) := no_all (by simpa using hok)
      clear hok
      go_enter Try.func11, Try.ntmps11
      go_wp2_with fail
      refine (Image.decode_c A 3000 c ys _ hR hy.out (by omega) (by omega)).mono ?_
      rintro e w1 ⟨⟨A1, n1, c1, rfl, hr1, hnc1⟩, b1⟩
      rw [HV.out.1, HV.out.2.1, HV.out.2.2.1]
      rw [HV.out.2.2.2] at hr1
      have hR1 := hR.below b1
      simp only [Bool.false_eq_true, if_false]
      go_wp2_with (first
        | ((with_reducible refine wl_alloc rfl 64 rfl (row3 0 0 (.slice none 0 0)) new64 ?_); intro w2 k2 b2 s2)
        | ((with_reducible refine wl_store rfl 64 _ _ rfl w1.heap.size rfl (row3 0 0 (.slice A1 n1 c1)) rfl 64 (row3 0 0 (.slice none 0 0)) k2 (size64 _ rfl) rfl (one3 _ _ _ _ _) ?_); intro w3 k3 g3 s3))
      have b13 := below_grown b2 b2.size g3 (Nat.le_refl _)
      have hR3 := hR1.below b13
      have hr3 := hr1.below b13
      have B3 := bl_then b1 b13
      clear hR hR1 hr1 b1 b2 k2 g3 b13
      refine (ImageRef.refdecode_c A 3000 c ys _ hR3 hy.out (by omega)).mono ?_
      rintro e w4 ⟨⟨A4, n4, c4, rfl, hr4, hnc4⟩, b4⟩
      rw [HV.out.1, HV.out.2.1, HV.out.2.2.1]
      rw [HV.out.2.2.2] at hr4
      have k4 := k3.below b4
      have hr3' := hr3.below b4
      have B4 := bl_then B3 b4
      clear b4 k3 hr3 B3 hR3
      go_wp2_with (first
        | ((with_reducible refine wl_alloc rfl 61 rfl (row3 0 0 (.slice none 0 0)) new61 ?_); intro w5 k5 b5 s5; have k4' := k4.below b5)
        | ((with_reducible refine wl_store rfl 61 _ _ rfl w4.heap.size rfl (row3 0 0 (.slice A4 n4 c4)) rfl 61 (row3 0 0 (.slice none 0 0)) k5 (size61 _ rfl) rfl (one3 _ _ _ _ _) ?_); intro w6 k6 g6 s6; have k4'' := k4'.grown g6 (fun e => by injection e with e; have := k4.lt; omega))
        | ((with_reducible refine wl_load_on rfl 64 _ rfl w1.heap.size rfl 64 (row3 0 0 (.slice A1 n1 c1)) _ k4'' Try.underlying64 rfl (size64 _ rfl) ?hop ?_); (case hop => exact ⟨_, _, rfl, rfl, rfl⟩))
        | ((with_reducible refine wl_load_on rfl 61 _ rfl w4.heap.size rfl 61 (row3 0 0 (.slice A4 n4 c4)) _ k6 Try.underlying61 rfl (size61 _ rfl) ?hop ?_); (case hop => exact ⟨_, _, rfl, rfl, rfl⟩)))
      have b46 := below_grown b5 b5.size g6 (Nat.le_refl _)
      have B6 := bl_then B4 b46
      have hra := hr3'.below b46
      have hrb := hr4.below b46
      clear hr3' hr4 B4 b5 g6 k6 k5 k4 k4' k4'' b46
      refine (same_yes 0 0 A1 none n1 0 c1 0 [] _ hra (Rd.nil _ _ _)).mono ?_
      rintro e w7 ⟨rfl, b7⟩
      have B7 := bl_then B6 b7
      clear b7 B6 hra hrb
      go_wp2_with fail
      refine (ImageAwake.awake_c _).mono ?_
      rintro e w8 ⟨rfl, b8⟩
      go_wp2
      go_ret
      exact ⟨rfl, bl_then B7 b8⟩
  · obtain rfl := h3 (by omega)
    by_cases hok : okB ys = true
    · obtain ⟨v1, v2, v3, v4⟩ := (yes_all hok).out
      obtain ⟨E1, hE⟩ : ∃ E1, dE ys = E1 := ⟨_, rfl⟩
      obtain ⟨P1, hP⟩ : ∃ P1, dP ys = P1 := ⟨_, rfl⟩
      obtain ⟨WS, hW⟩ : ∃ WS, dW ys = WS := ⟨_, rfl⟩
      have HV : Hid (okB ys = true ∧ dE ys = E1 ∧ dP ys = P1 ∧ dW ys = WS) := Lib.hid ⟨hok, hE, hP, hW⟩
      clear v1 v2 v3 v4 hE hP hW hok
      go_enter Try.func11, Try.ntmps11
      go_wp2_with fail
      refine (Image.decode_c A m c ys _ hR hy.out (by omega) (by omega)).mono ?_
      rintro e w1 ⟨⟨A1, n1, c1, rfl, hr1, hnc1⟩, b1⟩
      rw [HV.out.1, HV.out.2.1, HV.out.2.2.1]
      rw [HV.out.2.2.2] at hr1
      have hR1 := hR.below b1
      simp only [if_true]
      go_wp2_with (first
        | ((with_reducible refine wl_alloc rfl 64 rfl (row3 0 0 (.slice none 0 0)) new64 ?_); intro w2 k2 b2 s2)
        | ((with_reducible refine wl_store rfl 64 _ _ rfl w1.heap.size rfl (row3 E1 P1 (.slice A1 n1 c1)) rfl 64 (row3 0 0 (.slice none 0 0)) k2 (size64 _ rfl) rfl (one3 _ _ _ _ _) ?_); intro w3 k3 g3 s3))
      have b13 := below_grown b2 b2.size g3 (Nat.le_refl _)
      have hR3 := hR1.below b13
      have hr3 := hr1.below b13
      have B3 := bl_then b1 b13
      clear hR hR1 hr1 b1 b2 k2 g3 b13
      refine (ImageRef.refdecode_c A m c ys _ hR3 hy.out (by omega)).mono ?_
      rintro e w4 ⟨⟨A4, n4, c4, rfl, hr4, hnc4⟩, b4⟩
      rw [HV.out.1, HV.out.2.1, HV.out.2.2.1]
      rw [HV.out.2.2.2] at hr4
      have k4 := k3.below b4
      have hr3' := hr3.below b4
      have B4 := bl_then B3 b4
      clear b4 k3 hr3 B3 hR3
      go_wp2_with (first
        | ((with_reducible refine wl_alloc rfl 61 rfl (row3 0 0 (.slice none 0 0)) new61 ?_); intro w5 k5 b5 s5; have k4' := k4.below b5)
        | ((with_reducible refine wl_store rfl 61 _ _ rfl w4.heap.size rfl (row3 E1 P1 (.slice A4 n4 c4)) rfl 61 (row3 0 0 (.slice none 0 0)) k5 (size61 _ rfl) rfl (one3 _ _ _ _ _) ?_); intro w6 k6 g6 s6; have k4'' := k4'.grown g6 (fun e => by injection e with e; have := k4.lt; omega))
        | ((with_reducible refine wl_load_on rfl 64 _ rfl w1.heap.size rfl 64 (row3 E1 P1 (.slice A1 n1 c1)) _ k4'' Try.underlying64 rfl (size64 _ rfl) ?hop ?_); (case hop => exact ⟨_, _, rfl, rfl, rfl⟩))
        | ((with_reducible refine wl_load_on rfl 61 _ rfl w4.heap.size rfl 61 (row3 E1 P1 (.slice A4 n4 c4)) _ k6 Try.underlying61 rfl (size61 _ rfl) ?hop ?_); (case hop => exact ⟨_, _, rfl, rfl, rfl⟩)))
      have b46 := below_grown b5 b5.size g6 (Nat.le_refl _)
      have B6 := bl_then B4 b46
      have hra := hr3'.below b46
      have hrb := hr4.below b46
      clear hr3' hr4 B4 b5 g6 k6 k5 k4 k4' k4'' b46
      refine (same_yes E1 P1 A1 A4 n1 n4 c1 c4 WS _ hra hrb).mono ?_
      rintro e w7 ⟨rfl, b7⟩
      have B7 := bl_then B6 b7
      clear b7 B6 hra hrb
      go_wp2_with fail
      refine (ImageAwake.awake_c _).mono ?_
      rintro e w8 ⟨rfl, b8⟩
      go_wp2
      go_ret
      exact ⟨rfl, bl_then B7 b8⟩
    · have HV : Hid (okB ys = false ∧ dE ys = 0 ∧ dP ys = 0 ∧ dW ys = []) := no_all (by simpa using hok)
      clear hok
      go_enter Try.func11, Try.ntmps11
      go_wp2_with fail
      refine (Image.decode_c A m c ys _ hR hy.out (by omega) (by omega)).mono ?_
      rintro e w1 ⟨⟨A1, n1, c1, rfl, hr1, hnc1⟩, b1⟩
      rw [HV.out.1, HV.out.2.1, HV.out.2.2.1]
      rw [HV.out.2.2.2] at hr1
      have hR1 := hR.below b1
      simp only [Bool.false_eq_true, if_false]
      go_wp2_with (first
        | ((with_reducible refine wl_alloc rfl 64 rfl (row3 0 0 (.slice none 0 0)) new64 ?_); intro w2 k2 b2 s2)
        | ((with_reducible refine wl_store rfl 64 _ _ rfl w1.heap.size rfl (row3 0 0 (.slice A1 n1 c1)) rfl 64 (row3 0 0 (.slice none 0 0)) k2 (size64 _ rfl) rfl (one3 _ _ _ _ _) ?_); intro w3 k3 g3 s3))
      have b13 := below_grown b2 b2.size g3 (Nat.le_refl _)
      have hR3 := hR1.below b13
      have hr3 := hr1.below b13
      have B3 := bl_then b1 b13
      clear hR hR1 hr1 b1 b2 k2 g3 b13
      refine (ImageRef.refdecode_c A m c ys _ hR3 hy.out (by omega)).mono ?_
      rintro e w4 ⟨⟨A4, n4, c4, rfl, hr4, hnc4⟩, b4⟩
      rw [HV.out.1, HV.out.2.1, HV.out.2.2.1]
      rw [HV.out.2.2.2] at hr4
      have k4 := k3.below b4
      have hr3' := hr3.below b4
      have B4 := bl_then B3 b4
      clear b4 k3 hr3 B3 hR3
      go_wp2_with (first
        | ((with_reducible refine wl_alloc rfl 61 rfl (row3 0 0 (.slice none 0 0)) new61 ?_); intro w5 k5 b5 s5; have k4' := k4.below b5)
        | ((with_reducible refine wl_store rfl 61 _ _ rfl w4.heap.size rfl (row3 0 0 (.slice A4 n4 c4)) rfl 61 (row3 0 0 (.slice none 0 0)) k5 (size61 _ rfl) rfl (one3 _ _ _ _ _) ?_); intro w6 k6 g6 s6; have k4'' := k4'.grown g6 (fun e => by injection e with e; have := k4.lt; omega))
        | ((with_reducible refine wl_load_on rfl 64 _ rfl w1.heap.size rfl 64 (row3 0 0 (.slice A1 n1 c1)) _ k4'' Try.underlying64 rfl (size64 _ rfl) ?hop ?_); (case hop => exact ⟨_, _, rfl, rfl, rfl⟩))
        | ((with_reducible refine wl_load_on rfl 61 _ rfl w4.heap.size rfl 61 (row3 0 0 (.slice A4 n4 c4)) _ k6 Try.underlying61 rfl (size61 _ rfl) ?hop ?_); (case hop => exact ⟨_, _, rfl, rfl, rfl⟩)))
      have b46 := below_grown b5 b5.size g6 (Nat.le_refl _)
      have B6 := bl_then B4 b46
      have hra := hr3'.below b46
      have hrb := hr4.below b46
      clear hr3' hr4 B4 b5 g6 k6 k5 k4 k4' k4'' b46
      refine (same_yes 0 0 A1 none n1 0 c1 0 [] _ hra (Rd.nil _ _ _)).mono ?_
      rintro e w7 ⟨rfl, b7⟩
      have B7 := bl_then B6 b7
      clear b7 B6 hra hrb
      go_wp2_with fail
      refine (ImageAwake.awake_c _).mono ?_
      rintro e w8 ⟨rfl, b8⟩
      go_wp2
      go_ret
      exact ⟨rfl, bl_then B7 b8⟩

theorem walk (a0 : Option Addr) (len cap : Nat) (z : List Int) (w : World) (w0 : IsRow .u8 w a0 len cap z) (y0 : len * 1 ≤ 140737488351232) :
    Calls Try.prog 11 #[.slice a0 len cap] w fun e w' => e = .returned (.bool true) ∧ Below w.heap.size w w' := by
  obtain ⟨hr, hl, hm, hw⟩ := Rd.of_row w0
  exact main a0 len cap (z.take len) w hr (fun x h => wf_u8_range (hw x h)) hl _ (Nat.min len 3000) (Nat.min_le_right _ _) (Nat.min_le_left _ _) rfl (fun h => by simp only [Nat.min_def]; split <;> omega) (fun h => by simp only [Nat.min_def]; split <;> omega)
end Go.Proofs.Ytaefaneecdploaa.ImageDecodes
