/- The example of the chapter: the law's own awake. -/
import Derived.Test.YtaefaneecdploaaImageCode
set_option linter.unusedVariables false
namespace Go.Proofs.Ytaefaneecdploaa.ImageAwake
open Go.RowKit Go.Proofs.Ytaefaneecdploaa.Base Go.Proofs.Ytaefaneecdploaa.Math Go.Proofs.Ytaefaneecdploaa.Row Go.Proofs.Ytaefaneecdploaa.Image Go.Proofs.Ytaefaneecdploaa.ImageRef Go.Proofs.Ytaefaneecdploaa.ImageCode

theorem ex_ok : okB (flat (img 0 1 [7])) = true := by decide +kernel
theorem ex_E : dE (flat (img 0 1 [7])) = 0 := by decide +kernel
theorem ex_P : dP (flat (img 0 1 [7])) = 1 := by decide +kernel
theorem ex_W : dW (flat (img 0 1 [7])) = [7] := by decide +kernel
theorem ex_range : ∀ x ∈ flat (img 0 1 [7]), 0 ≤ x ∧ x < 256 := flat_range _ (by intro x hx; simp [img] at hx; rcases hx with rfl | rfl | rfl | rfl <;> omega)

set_option maxHeartbeats 4000000 in
theorem awake_c (w : World) : Calls Try.prog 45 #[] w fun e w' => e = .returned (.bool true) ∧ Below w.heap.size w w' := by
  have hR1 : Rd (w.alloc (.cells #[.int .u32 7] 22)) .u32 (some ⟨w.heap.size, 0, none⟩) 1 [7] := ⟨rfl, by omega, fun _ => ⟨_, rfl, fun j hj => by
    obtain rfl : j = 0 := by omega
    exact (Blk.new w 22 #[.int .u32 7]).cell 0⟩⟩
  have hsp16 := Lib.hid (size16 (V16 p16) (by simp [V16, nums, p16]))
  have hszz : Hid ((V16 z16).size = (V16 p16).size) := Lib.hid (by simp [V16, nums, z16, p16])
  have HR := Lib.hid hR1
  clear hR1
  go_enter Try.func45, Try.ntmps45
  go_wp2_with fail
  refine (encode_yes 0 1 _ 1 1 [7] _ (by omega) HR.out (by intro x hx; simp at hx; subst hx; omega) (by decide)).mono ?_
  rintro e w1 ⟨⟨A1, c1, rfl, HO1⟩, b1⟩
  have B1 := bl_then (bl_alloc (bl_refl w) _) b1
  have hc1 := own_cap HO1
  have hRd := Lib.hid (Rd.of_own HO1)
  clear HO1 b1 HR
  simp only [Nat.reduceMul, Nat.reduceAdd] at hRd hc1 ⊢
  go_wp2_with fail
  refine (Image.decode_c A1 20 c1 _ w1 hRd.out ex_range hc1 (by omega)).mono ?_
  rintro e w2 ⟨⟨A2, n2, c2, rfl, hr2, hnc⟩, b2⟩
  rw [ex_W] at hr2
  obtain rfl : 1 = n2 := hr2.len
  obtain ⟨ad, rfl, hc2⟩ := hr2.at_ 0 (by omega)
  rw [show ad.add 0 = ad from by unfold Addr.add; simp] at hc2
  rw [ex_ok, ex_E, ex_P]
  have B2 := bl_then B1 b2
  have hc2' : w2.cell? ad = some (.int .u32 7) := hc2
  clear b2 B1 hr2 hRd hc2
  simp only [if_true]
  go_wp2_with (first
    | ((with_reducible refine wl_alloc rfl 64 rfl (row3 0 0 (.slice none 0 0)) new64 ?_); intro w3 k3 b3 s3; have hc3 := bl_cell b3 hc2')
    | ((with_reducible refine wl_store rfl 64 _ _ rfl w2.heap.size rfl (row3 0 1 (.slice (some ad) 1 c2)) rfl 64 (row3 0 0 (.slice none 0 0)) k3 (size64 _ rfl) rfl (one3 _ _ _ _ _) ?_); intro w4 k4 g4 s4)
    | (with_reducible refine wl_load rfl 64 _ rfl w2.heap.size rfl 64 (row3 0 1 (.slice (some ad) 1 c2)) _ k4 Try.underlying64 rfl (size64 _ rfl) ?_))
  have B4 := below_grown (bl_then B2 b3) (Nat.le_trans B2.size b3.size) g4 B2.size
  have hc4 : w4.cell? ad = some (.int .u32 7) := by
    have := below_grown b3 b3.size g4 (Nat.le_refl _)
    exact bl_cell this hc2'
  refine (page_one ad c2 w4 hnc hc4).mono ?_
  rintro e w5 ⟨rfl, b5⟩
  have B5 := bl_then B4 b5
  clear b5 B4 g4 k4 k3 hc4 hc3 hc2' B2 b3
  have q20 : Hid (True) := trivial
  go_wp2_with (first
    | ((with_reducible refine wl_alloc rfl 77 rfl (V16 z16) new16 ?_); intro w6 k6 b6 s6)
    | ((with_reducible refine wl_store rfl 77 _ _ rfl w5.heap.size rfl (V16 p16) rfl 77 (V16 z16) k6 hsp16.out hszz.out (V16_one _) ?_); intro w7 k7 g7 s7; have hc7 := k7.cellv 0 (.int .u32 7) rfl))
  go_ret
  exact ⟨rfl, below_grown (bl_then B5 b6) (Nat.le_trans B5.size b6.size) g7 B5.size⟩
end Go.Proofs.Ytaefaneecdploaa.ImageAwake
