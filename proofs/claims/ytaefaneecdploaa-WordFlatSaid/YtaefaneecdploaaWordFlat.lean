/- WordFlat: at every slice of numbers the law's text returns true. -/
import Derived.Test.YtaefaneecdploaaRef01
set_option linter.unusedVariables false
namespace Go.Proofs.Ytaefaneecdploaa.WordFlat
open Go.RowKit Go.Proofs.Ytaefaneecdploaa.Base Go.Proofs.Ytaefaneecdploaa.Math Go.Proofs.Ytaefaneecdploaa.Word Go.Proofs.Ytaefaneecdploaa.Ref01

theorem b4_range (x : Int) (h0 : 0 ≤ x) (h1 : x < 4294967296) : ∀ y ∈ b4 x, 0 ≤ y ∧ y < 256 := by
  intro y hy
  simp only [b4, List.mem_cons, List.not_mem_nil, or_false] at hy
  omega
theorem flat_range (xs : List Int) (hx : ∀ x ∈ xs, 0 ≤ x ∧ x < 4294967296) : ∀ y ∈ flat xs, 0 ≤ y ∧ y < 256 := by
  intro y hy
  obtain ⟨x, hx1, hy1⟩ := List.mem_flatMap.1 hy
  exact b4_range x (hx x hx1).1 (hx x hx1).2 y hy1
theorem flat_get (xs : List Int) (k j : Nat) (hj : j < 4) (hk : k < xs.length) : (flat xs)[4 * k + j]? = (b4 (xs[k]?.getD 0))[j]? := by
  induction xs generalizing k with
  | nil => simp at hk
  | cons x xs ih =>
    have hf : flat (x :: xs) = b4 x ++ flat xs := by simp [flat]
    rw [hf]
    cases k with
    | zero => rw [List.getElem?_append_left (by show 4 * 0 + j < 4; omega)]; simp
    | succ k =>
      have hl : (b4 x).length = 4 := rfl
      rw [List.getElem?_append_right (by rw [hl]; omega), hl, show 4 * (k + 1) + j - 4 = 4 * k + j from by omega, ih k (by simpa using hk)]
      simp
theorem w4_flat (xs : List Int) (hx : ∀ x ∈ xs, 0 ≤ x ∧ x < 4294967296) (k : Nat) (hk : k < xs.length) : w4 (flat xs) k = xs[k]?.getD 0 := by
  have hr := getD_mem_range hx (by omega) k
  have e0 := flat_get xs k 0 (by omega) hk
  have e1 := flat_get xs k 1 (by omega) hk
  have e2 := flat_get xs k 2 (by omega) hk
  have e3 := flat_get xs k 3 (by omega) hk
  unfold w4
  rw [Nat.add_zero] at e0
  rw [e0, e1, e2, e3]
  simp [b4]
  omega
theorem words_flat (xs : List Int) (hx : ∀ x ∈ xs, 0 ≤ x ∧ x < 4294967296) : words (flat xs) = xs := by
  apply List.ext_getElem
  · simp [words, flat_length]; omega
  · intro i h1 h2
    simp only [words, List.getElem_map, List.getElem_range]
    rw [w4_flat xs hx i h2, List.getElem?_eq_getElem h2]; rfl

set_option maxHeartbeats 1000000 in
theorem main (A : Option Addr) (n c : Nat) (xs : List Int) (w : World) (hr : Rd w .u32 A n xs) (hx : ∀ x ∈ xs, 0 ≤ x ∧ x < 4294967296) (hnc : n ≤ c) (ys : List Int) (m : Nat) (hm : m ≤ 300) (hmn : m ≤ n) (hys : ys = xs.take m) (h3 : n ≤ 300 → m = n) (h4 : 300 < n → m = 300) :
    Calls Try.prog 5 #[.slice A n c] w fun e w' => e = .returned (.bool true) ∧ Below w.heap.size w w' := by
  have hR : Rd w .u32 A m ys := by subst hys; exact hr.take hmn
  have hy : ∀ x ∈ ys, 0 ≤ x ∧ x < 4294967296 := by subst hys; exact fun x h => hx x (List.mem_of_mem_take h)
  have hfr := flat_range ys hy
  have hwf := Lib.hid (words_flat ys hy)
  have hws : Hid ((words (flat ys)).length = m) := Lib.hid (by rw [hwf.out, hR.len])
  have hb1 : Hid ((flat ys == flat ys) = true) := Lib.hid (by simp)
  have hb2 : Hid ((ys == ys) = true) := Lib.hid (by simp)
  have hnm := hr.max
  clear hys hr hx
  by_cases hn : 300 < n
  · obtain rfl := h4 hn
    go_enter Try.func5, Try.ntmps5
    go_wp2_with fail
    refine (flat_c A _ _ ys _ hR hy (by omega)).mono ?_
    rintro e w1 ⟨⟨A1, c1, rfl, HO1⟩, b1⟩
    have hR1 := hR.below b1
    go_wp2_with fail
    refine (refflat_c A _ _ ys _ hR1 hy (by omega)).mono ?_
    rintro e w2 ⟨⟨A2, c2, rfl, HO2⟩, b2⟩
    have HO1' := own_below HO1 b2
    have B2 := bl_then b1 b2
    have hc1 : 4 * 300 ≤ c1 := own_cap HO1'
    have hR2 := hR1.below b2
    clear HO1 b1 b2 hR1
    go_wp2_with fail
    refine (sameb_c A1 A2 _ _ c1 c2 _ _ _ (Rd.of_own HO1') (Rd.of_own HO2)).mono ?_
    rintro e w3 ⟨rfl, b3⟩
    rw [hb1.out]
    have HO1'' := own_below HO1' b3
    have B3 := bl_then B2 b3
    have hR3 := hR2.below b3
    clear HO1' HO2 b3 B2 hR2
    go_wp2_with fail
    refine (words_c A1 _ c1 _ _ (Rd.of_own HO1'') hfr hc1 (by omega)).mono ?_
    rintro e w4 ⟨⟨A3, c3, rfl, HO3⟩, b4⟩
    rw [hws.out] at HO3 ⊢
    rw [hwf.out] at HO3
    have B4 := bl_then B3 b4
    have hR4 := hR3.below b4
    clear HO1'' b4 B3 hR3
    go_wp2_with fail
    refine (same_c A3 A _ _ c3 _ _ _ _ (Rd.of_own HO3) hR4).mono ?_
    rintro e w5 ⟨rfl, b5⟩
    rw [hb2.out]
    have B5 := bl_then B4 b5
    clear b5 B4 hR4 HO3
    go_wp2_with fail
    refine (awake_c _).mono ?_
    rintro e w6 ⟨rfl, b6⟩
    go_wp2_with fail
    go_ret
    exact ⟨rfl, bl_then B5 b6⟩
  · obtain rfl := h3 (by omega)
    go_enter Try.func5, Try.ntmps5
    go_wp2_with fail
    refine (flat_c A _ _ ys _ hR hy (by omega)).mono ?_
    rintro e w1 ⟨⟨A1, c1, rfl, HO1⟩, b1⟩
    have hR1 := hR.below b1
    go_wp2_with fail
    refine (refflat_c A _ _ ys _ hR1 hy (by omega)).mono ?_
    rintro e w2 ⟨⟨A2, c2, rfl, HO2⟩, b2⟩
    have HO1' := own_below HO1 b2
    have B2 := bl_then b1 b2
    have hc1 : 4 * m ≤ c1 := own_cap HO1'
    have hR2 := hR1.below b2
    clear HO1 b1 b2 hR1
    go_wp2_with fail
    refine (sameb_c A1 A2 _ _ c1 c2 _ _ _ (Rd.of_own HO1') (Rd.of_own HO2)).mono ?_
    rintro e w3 ⟨rfl, b3⟩
    rw [hb1.out]
    have HO1'' := own_below HO1' b3
    have B3 := bl_then B2 b3
    have hR3 := hR2.below b3
    clear HO1' HO2 b3 B2 hR2
    go_wp2_with fail
    refine (words_c A1 _ c1 _ _ (Rd.of_own HO1'') hfr hc1 (by omega)).mono ?_
    rintro e w4 ⟨⟨A3, c3, rfl, HO3⟩, b4⟩
    rw [hws.out] at HO3 ⊢
    rw [hwf.out] at HO3
    have B4 := bl_then B3 b4
    have hR4 := hR3.below b4
    clear HO1'' b4 B3 hR3
    go_wp2_with fail
    refine (same_c A3 A _ _ c3 _ _ _ _ (Rd.of_own HO3) hR4).mono ?_
    rintro e w5 ⟨rfl, b5⟩
    rw [hb2.out]
    have B5 := bl_then B4 b5
    clear b5 B4 hR4 HO3
    go_wp2_with fail
    refine (awake_c _).mono ?_
    rintro e w6 ⟨rfl, b6⟩
    go_wp2_with fail
    go_ret
    exact ⟨rfl, bl_then B5 b6⟩

theorem walk (a0 : Option Addr) (len cap : Nat) (z : List Int) (w : World) (w0 : IsRow .u32 w a0 len cap z) (y0 : len * 4 ≤ 140737488351232) :
    Calls Try.prog 5 #[.slice a0 len cap] w fun e w' => e = .returned (.bool true) ∧ Below w.heap.size w w' := by
  obtain ⟨hr, hl, hm, hw⟩ := Rd.of_row w0
  exact main a0 len cap (z.take len) w hr (fun x h => wf_u32_range (hw x h)) hl _ (Nat.min len 300) (Nat.min_le_right _ _) (Nat.min_le_left _ _) rfl (fun h => by simp only [Nat.min_def]; split <;> omega) (fun h => by simp only [Nat.min_def]; split <;> omega)
end Go.Proofs.Ytaefaneecdploaa.WordFlat
