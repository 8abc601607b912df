/- WordWords: at every slice of bytes the law's text returns true. -/
import Derived.Test.YtaefaneecdploaaRef01
set_option linter.unusedVariables false
namespace Go.Proofs.Ytaefaneecdploaa.WordWords
open Go.RowKit Go.Proofs.Ytaefaneecdploaa.Base Go.Proofs.Ytaefaneecdploaa.Math Go.Proofs.Ytaefaneecdploaa.Word Go.Proofs.Ytaefaneecdploaa.Ref01

theorem w4_range (xs : List Int) (hx : ∀ x ∈ xs, 0 ≤ x ∧ x < 256) (j : Nat) : 0 ≤ w4 xs j ∧ w4 xs j < 4294967296 := by
  have h0 := getD_mem_range hx (by omega) (4 * j)
  have h1 := getD_mem_range hx (by omega) (4 * j + 1)
  have h2 := getD_mem_range hx (by omega) (4 * j + 2)
  have h3 := getD_mem_range hx (by omega) (4 * j + 3)
  unfold w4; omega
theorem words_range (xs : List Int) (hx : ∀ x ∈ xs, 0 ≤ x ∧ x < 256) : ∀ y ∈ words xs, 0 ≤ y ∧ y < 4294967296 := by
  intro y hy
  obtain ⟨j, _, rfl⟩ := List.mem_map.1 hy
  exact w4_range xs hx j
/-- The bytes of the words: those that came in, noughts behind. -/
theorem flat_words_get (xs : List Int) (hx : ∀ x ∈ xs, 0 ≤ x ∧ x < 256) (i : Nat) (hi : i < 4 * ((xs.length + 3) / 4)) : (flat (words xs))[i]?.getD 0 = xs[i]?.getD 0 := by
  have hlen : (words xs).length = (xs.length + 3) / 4 := by simp [words]
  obtain ⟨k, j, hj, rfl⟩ : ∃ k j, j < 4 ∧ i = 4 * k + j := ⟨i / 4, i % 4, by omega, by omega⟩
  have hk : k < (words xs).length := by omega
  rw [flat_get (words xs) k j hj hk]
  have hw : (words xs)[k]?.getD 0 = w4 xs k := by
    rw [List.getElem?_eq_getElem hk]; simp [words]
  rw [hw]
  have h0 := getD_mem_range hx (by omega) (4 * k)
  have h1 := getD_mem_range hx (by omega) (4 * k + 1)
  have h2 := getD_mem_range hx (by omega) (4 * k + 2)
  have h3 := getD_mem_range hx (by omega) (4 * k + 3)
  rcases (show j = 0 ∨ j = 1 ∨ j = 2 ∨ j = 3 by omega) with rfl | rfl | rfl | rfl <;> simp [b4, w4] <;> omega
theorem flat_words_take (xs : List Int) (hx : ∀ x ∈ xs, 0 ≤ x ∧ x < 256) : (flat (words xs)).take xs.length = xs := by
  have hl : (flat (words xs)).length = 4 * ((xs.length + 3) / 4) := by rw [flat_length]; simp [words]
  apply List.ext_getElem
  · rw [List.length_take, hl]; omega
  · intro i h1 h2
    have h := flat_words_get xs hx i (by omega)
    rw [List.getElem?_eq_getElem (by omega), List.getElem?_eq_getElem h2] at h
    rw [List.getElem_take]
    simpa using h

set_option maxRecDepth 100000 in
set_option maxHeartbeats 1000000 in
theorem main (A : Option Addr) (n c : Nat) (xs : List Int) (w : World) (hr : Rd w .u8 A n xs) (hx : ∀ x ∈ xs, 0 ≤ x ∧ x < 256) (hnc : n ≤ c) (ys : List Int) (m : Nat) (hm : m ≤ 900) (hmn : m ≤ n) (hys : ys = xs.take m) (h3 : n ≤ 900 → m = n) (h4 : 900 < n → m = 900) :
    Calls Try.prog 6 #[.slice A n c] w fun e w' => e = .returned (.bool true) ∧ Below w.heap.size w w' := by
  have hR : Rd w .u8 A m ys := by subst hys; exact hr.take hmn
  have hy : ∀ x ∈ ys, 0 ≤ x ∧ x < 256 := by subst hys; exact fun x h => hx x (List.mem_of_mem_take h)
  obtain ⟨L, hL⟩ : ∃ L, L = (words ys).length := ⟨_, rfl⟩
  have hL1 : L = (m + 3) / 4 := by rw [hL]; simp [words, hR.len]
  have hL2 : m ≤ 4 * L := by omega
  have hL3 : 4 * L ≤ m + 3 := by omega
  have hws : Hid ((words ys).length = L) := Lib.hid hL.symm
  have hwr := words_range ys hy
  have hb1 : Hid ((words ys == words ys) = true) := Lib.hid (by simp)
  have hb2 : Hid ((ys == ys) = true) := Lib.hid (by simp)
  have htk : Hid ((flat (words ys)).take m = ys) := Lib.hid (by have := flat_words_take ys hy; rwa [hR.len] at this)
  have hz : Hid (∀ i, m ≤ i → i < 4 * L → (flat (words ys))[i]?.getD 0 = 0) := Lib.hid (fun i h1 h2 => by
    rw [flat_words_get ys hy i (by rw [hR.len]; omega)]
    exact getD_out ys i (by rw [hR.len]; omega))
  have hnm := hr.max
  clear hys hr hx hL hL1
  by_cases hn : 900 < n
  · obtain rfl := h4 hn
    clear h3 h4
    go_enter Try.func6, Try.ntmps6
    go_wp2_with fail
    refine (words_c A _ _ ys _ hR hy (by omega) (by omega)).mono ?_
    rintro e w1 ⟨⟨A1, c1, rfl, HO1⟩, b1⟩
    rw [hws.out] at HO1 ⊢
    have hR1 := hR.below b1
    go_wp2_with fail
    refine (refwords_c A _ _ ys _ hR1 hy (by omega)).mono ?_
    rintro e w2 ⟨⟨A2, c2, rfl, HO2⟩, b2⟩
    rw [hws.out] at HO2 ⊢
    have HO1' := own_below HO1 b2
    have B2 := bl_then b1 b2
    have hR2 := hR1.below b2
    clear HO1 b1 b2 hR1
    go_wp2_with fail
    refine (same_c A1 A2 _ _ c1 c2 _ _ _ (Rd.of_own HO1') (Rd.of_own HO2)).mono ?_
    rintro e w3 ⟨rfl, b3⟩
    rw [hb1.out]
    have HO1'' := own_below HO1' b3
    have B3 := bl_then B2 b3
    have hR3 := hR2.below b3
    clear HO1' HO2 b3 B2 hR2
    go_wp2_with fail
    refine (flat_c A1 _ c1 _ _ (Rd.of_own HO1'') hwr (by omega)).mono ?_
    rintro e w4 ⟨⟨A3, c3, rfl, HO3⟩, b4⟩
    have B4 := bl_then B3 b4
    have hR4 := hR3.below b4
    have hc3 := own_cap HO3
    clear HO1'' b4 B3 hR3
    have hq1 : decide ((4 * (L : Int)) < 900) = false := by simp; omega
    have hq2 : decide (903 < (4 * (L : Int))) = false := by simp; omega
    go_wp2_with fail
    have hR5 : Rd w4 .u8 A3 900 ys := by have := (Rd.of_own HO3).take hL2; rwa [htk.out] at this
    refine (sameb_c A3 A _ _ _ _ _ _ _ hR5 hR4).mono ?_
    rintro e w5 ⟨rfl, b5⟩
    rw [hb2.out]
    have HO5 := own_below HO3 b5
    have B5 := bl_then B4 b5
    clear b5 B4 hR4 HO3 hR5
    go_wp2_with fail
    go_loopw [5] (fun i wr => ∃ k : Nat, 900 ≤ k ∧ k ≤ 4 * L ∧ i = .int .i64 k ∧ w5 = wr) (fun i _ => 4 * L - (intOf i).toNat)
    case atStart => exact ⟨900, by omega, by omega, rfl, rfl⟩
    case round =>
      obtain ⟨k, hk1, hk2, rfl, rfl⟩ := hrel
      by_cases hlt : k < 4 * L
      · exfalso; omega
      · clear HO5
        go_wp2_with fail
        refine (awake_c _).mono ?_
        rintro e w6 ⟨rfl, b6⟩
        go_wp2_with fail
        go_ret
        exact ⟨rfl, bl_then B5 b6⟩
  · obtain rfl := h3 (by omega)
    clear h3 h4
    go_enter Try.func6, Try.ntmps6
    go_wp2_with fail
    refine (words_c A _ _ ys _ hR hy (by omega) (by omega)).mono ?_
    rintro e w1 ⟨⟨A1, c1, rfl, HO1⟩, b1⟩
    rw [hws.out] at HO1 ⊢
    have hR1 := hR.below b1
    go_wp2_with fail
    refine (refwords_c A _ _ ys _ hR1 hy (by omega)).mono ?_
    rintro e w2 ⟨⟨A2, c2, rfl, HO2⟩, b2⟩
    rw [hws.out] at HO2 ⊢
    have HO1' := own_below HO1 b2
    have B2 := bl_then b1 b2
    have hR2 := hR1.below b2
    clear HO1 b1 b2 hR1
    go_wp2_with fail
    refine (same_c A1 A2 _ _ c1 c2 _ _ _ (Rd.of_own HO1') (Rd.of_own HO2)).mono ?_
    rintro e w3 ⟨rfl, b3⟩
    rw [hb1.out]
    have HO1'' := own_below HO1' b3
    have B3 := bl_then B2 b3
    have hR3 := hR2.below b3
    clear HO1' HO2 b3 B2 hR2
    go_wp2_with fail
    refine (flat_c A1 _ c1 _ _ (Rd.of_own HO1'') hwr (by omega)).mono ?_
    rintro e w4 ⟨⟨A3, c3, rfl, HO3⟩, b4⟩
    have B4 := bl_then B3 b4
    have hR4 := hR3.below b4
    have hc3 := own_cap HO3
    clear HO1'' b4 B3 hR3
    have hq1 : decide ((4 * (L : Int)) < (m : Int)) = false := by simp; omega
    have hq2 : decide ((m : Int) + 3 < (4 * (L : Int))) = false := by simp; omega
    go_wp2_with fail
    have hR5 : Rd w4 .u8 A3 m ys := by have := (Rd.of_own HO3).take hL2; rwa [htk.out] at this
    refine (sameb_c A3 A _ _ _ _ _ _ _ hR5 hR4).mono ?_
    rintro e w5 ⟨rfl, b5⟩
    rw [hb2.out]
    have HO5 := own_below HO3 b5
    have B5 := bl_then B4 b5
    clear b5 B4 hR4 HO3 hR5
    go_wp2_with fail
    go_loopw [5] (fun i wr => ∃ k : Nat, m ≤ k ∧ k ≤ 4 * L ∧ i = .int .i64 k ∧ w5 = wr) (fun i _ => 4 * L - (intOf i).toNat)
    case atStart => exact ⟨m, by omega, by omega, rfl, rfl⟩
    case round =>
      obtain ⟨k, hk1, hk2, rfl, rfl⟩ := hrel
      by_cases hlt : k < 4 * L
      · obtain ⟨ad, rfl, hca⟩ := (Rd.of_own HO5).at_ k hlt
        rw [hz.out k hk1 hlt] at hca
        clear HO5
        go_wp2_with fail
        go_roundw
        case rel => exact ⟨k + 1, by omega, by omega, by go_num, trivial⟩
        case measure => first | (simp [intOf]; done) | (simp [intOf]; omega)
      · clear HO5
        go_wp2_with fail
        refine (awake_c _).mono ?_
        rintro e w6 ⟨rfl, b6⟩
        go_wp2_with fail
        go_ret
        exact ⟨rfl, bl_then B5 b6⟩

theorem walk (a0 : Option Addr) (len cap : Nat) (z : List Int) (w : World) (w0 : IsRow .u8 w a0 len cap z) (y0 : len * 1 ≤ 140737488351232) :
    Calls Try.prog 6 #[.slice a0 len cap] w fun e w' => e = .returned (.bool true) ∧ Below w.heap.size w w' := by
  obtain ⟨hr, hl, hm, hw⟩ := Rd.of_row w0
  exact main a0 len cap (z.take len) w hr (fun x h => wf_u8_range (hw x h)) hl _ (Nat.min len 900) (Nat.min_le_right _ _) (Nat.min_le_left _ _) rfl (fun h => by simp only [Nat.min_def]; split <;> omega) (fun h => by simp only [Nat.min_def]; split <;> omega)
end Go.Proofs.Ytaefaneecdploaa.WordWords
