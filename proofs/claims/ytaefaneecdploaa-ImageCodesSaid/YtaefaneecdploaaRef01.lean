/- Contracts of the reference's functions for chapter 1. -/
import Derived.Test.YtaefaneecdploaaWord
set_option linter.unusedVariables false
namespace Go.Proofs.Ytaefaneecdploaa.Ref01
open Go.RowKit Go.Proofs.Ytaefaneecdploaa.Base Go.Proofs.Ytaefaneecdploaa.Math

theorem beq_of_all {n : Nat} {xs ys : List Int} (hx : xs.length = n) (hy : ys.length = n) (h : ∀ j, j < n → xs[j]?.getD 0 = ys[j]?.getD 0) : (xs == ys) = true := by
  rw [beq_iff_eq]
  apply List.ext_getElem (by omega)
  intro i h1 h2
  have := h i (by omega)
  simpa [List.getElem?_eq_getElem h1, List.getElem?_eq_getElem h2] using this

theorem sameb_c (A B : Option Addr) (n m c d : Nat) (xs ys : List Int) (w : World) (ha : Rd w .u8 A n xs) (hb : Rd w .u8 B m ys) :
    Calls Try.prog 24 #[.slice A n c, .slice B m d] w fun e w' => e = .returned (.bool (xs == ys)) ∧ Below w.heap.size w w' := by
  have hn := ha.max
  have hm := hb.max
  by_cases hnm : n = m
  · subst hnm
    have hfin : Hid ((∀ j, j < n → xs[j]?.getD 0 = ys[j]?.getD 0) → (xs == ys) = true) := Lib.hid (beq_of_all ha.len hb.len)
    have hne : Hid (∀ j, j < n → ¬ xs[j]?.getD 0 = ys[j]?.getD 0 → (xs == ys) = false) := Lib.hid (fun j _ hj => by rw [beq_eq_false_iff_ne]; rintro rfl; exact hj rfl)
    go_enter Try.func24, Try.ntmps24
    go_wp2
    go_loopw [5] (fun i wr => ∃ k : Nat, k ≤ n ∧ i = .int .i64 k ∧ Hid (∀ j, j < k → xs[j]?.getD 0 = ys[j]?.getD 0) ∧ Below w.heap.size w wr) (fun i _ => n - (intOf i).toNat)
    case atStart => exact ⟨0, Nat.zero_le _, rfl, Lib.hid (fun j hj => absurd hj (by omega)), bl_refl _⟩
    case round =>
      obtain ⟨k, hk, rfl, HK, HB⟩ := hrel
      by_cases hlt : k < n
      · obtain ⟨ad, rfl, hca⟩ := (ha.below HB).at_ k hlt
        obtain ⟨bd, rfl, hcb⟩ := (hb.below HB).at_ k hlt
        clear ha hb
        by_cases hxy : xs[k]?.getD 0 = ys[k]?.getD 0
        · have hq : (xs[k]?.getD 0 != ys[k]?.getD 0) = false := by simp [hxy]
          have hxy' := Lib.hid hxy
          clear hxy
          go_wp2
          go_quiet (fail)
          go_wp2
          go_roundw
          case rel => exact ⟨k + 1, by omega, by go_num, Lib.hid (all_succ HK.out hxy'.out), bl_drewN HB _⟩
          case measure => simp [intOf]; omega
        · have hq : (xs[k]?.getD 0 != ys[k]?.getD 0) = true := by simpa using hxy
          have hr := Lib.hid (hne.out k hlt hxy)
          clear hxy
          go_wp2
          go_quiet (fail)
          go_wp2
          go_ret
          exact ⟨ret_bool hr.out.symm, bl_drewN HB _⟩
      · obtain rfl : k = n := by omega
        have hr := Lib.hid (hfin.out HK.out)
        go_wp2
        go_ret
        exact ⟨ret_bool hr.out.symm, HB⟩
  · have h1 : ((n : Int) != (m : Int)) = true := by simp; omega
    have hr : Hid ((xs == ys) = false) := Lib.hid (by rw [beq_eq_false_iff_ne]; rintro rfl; exact hnm (by rw [← ha.len, ← hb.len]))
    go_enter Try.func24, Try.ntmps24
    go_wp2
    go_ret
    exact ⟨ret_bool hr.out.symm, bl_refl _⟩

theorem same_c (A B : Option Addr) (n m c d : Nat) (xs ys : List Int) (w : World) (ha : Rd w .u32 A n xs) (hb : Rd w .u32 B m ys) :
    Calls Try.prog 26 #[.slice A n c, .slice B m d] w fun e w' => e = .returned (.bool (xs == ys)) ∧ Below w.heap.size w w' := by
  have hn := ha.max
  have hm := hb.max
  by_cases hnm : n = m
  · subst hnm
    have hfin : Hid ((∀ j, j < n → xs[j]?.getD 0 = ys[j]?.getD 0) → (xs == ys) = true) := Lib.hid (beq_of_all ha.len hb.len)
    have hne : Hid (∀ j, j < n → ¬ xs[j]?.getD 0 = ys[j]?.getD 0 → (xs == ys) = false) := Lib.hid (fun j _ hj => by rw [beq_eq_false_iff_ne]; rintro rfl; exact hj rfl)
    go_enter Try.func26, Try.ntmps26
    go_wp2
    go_loopw [5] (fun i wr => ∃ k : Nat, k ≤ n ∧ i = .int .i64 k ∧ Hid (∀ j, j < k → xs[j]?.getD 0 = ys[j]?.getD 0) ∧ Below w.heap.size w wr) (fun i _ => n - (intOf i).toNat)
    case atStart => exact ⟨0, Nat.zero_le _, rfl, Lib.hid (fun j hj => absurd hj (by omega)), bl_refl _⟩
    case round =>
      obtain ⟨k, hk, rfl, HK, HB⟩ := hrel
      by_cases hlt : k < n
      · obtain ⟨ad, rfl, hca⟩ := (ha.below HB).at_ k hlt
        obtain ⟨bd, rfl, hcb⟩ := (hb.below HB).at_ k hlt
        clear ha hb
        by_cases hxy : xs[k]?.getD 0 = ys[k]?.getD 0
        · have hq : (xs[k]?.getD 0 != ys[k]?.getD 0) = false := by simp [hxy]
          have hxy' := Lib.hid hxy
          clear hxy
          go_wp2
          go_quiet (fail)
          go_wp2
          go_roundw
          case rel => exact ⟨k + 1, by omega, by go_num, Lib.hid (all_succ HK.out hxy'.out), bl_drewN HB _⟩
          case measure => simp [intOf]; omega
        · have hq : (xs[k]?.getD 0 != ys[k]?.getD 0) = true := by simpa using hxy
          have hr := Lib.hid (hne.out k hlt hxy)
          clear hxy
          go_wp2
          go_quiet (fail)
          go_wp2
          go_ret
          exact ⟨ret_bool hr.out.symm, bl_drewN HB _⟩
      · obtain rfl : k = n := by omega
        have hr := Lib.hid (hfin.out HK.out)
        go_wp2
        go_ret
        exact ⟨ret_bool hr.out.symm, HB⟩
  · have h1 : ((n : Int) != (m : Int)) = true := by simp; omega
    have hr : Hid ((xs == ys) = false) := Lib.hid (by rw [beq_eq_false_iff_ne]; rintro rfl; exact hnm (by rw [← ha.len, ← hb.len]))
    go_enter Try.func26, Try.ntmps26
    go_wp2
    go_ret
    exact ⟨ret_bool hr.out.symm, bl_refl _⟩

theorem refbyte_c (x i : Int) (h0 : 0 ≤ x) (h1 : x < 4294967296) (h2 : -9223372036854775808 ≤ i) (h3 : i ≤ 9223372036854775807) (w : World) :
    Calls Try.prog 21 #[.int .u32 x, .int .i64 i] w fun e w' => e = .returned (.int .u8 (x / 256 ^ (i % 4).toNat % 256)) ∧ w = w' := by
  go_enter Try.func21, Try.ntmps21
  obtain ⟨J, hJ⟩ : ∃ J : Nat, (i % 4).toNat = J := ⟨_, rfl⟩
  have e : (wrap64 (i.tmod 4 + 4)).tmod 4 = (J : Int) := by rw [mod4]; omega
  have hJ3 : J < 4 := by omega
  have HJ := Lib.hid hJ
  clear hJ
  go_wp2
  clear e
  go_loop [0, 1] (fun y j => ∃ r q : Nat, r + q ≤ J ∧ J ≤ r + q ∧ j = .int .i64 q ∧ y = .int .u32 (x / 256 ^ r)) (fun _ j => (intOf j).toNat)
  case atStart => exact ⟨0, J, by omega, by omega, rfl, by simp⟩
  case round =>
    obtain ⟨r, q, hr1, hr2, rfl, rfl⟩ := hrel
    have hb := div_pow_range x h0 h1 r
    obtain ⟨hb0, hb1⟩ := hb
    have hs := Lib.hid (div_pow_succ x r)
    by_cases hq : 0 < q
    · go_wp2
      go_round
      case rel => exact ⟨r + 1, q - 1, by omega, by omega, by congr 1; omega, by rw [← hs.out]⟩
      case measure => simp [intOf]; omega
    · obtain rfl : q = 0 := by omega
      obtain rfl : r = J := by omega
      go_wp2
      go_ret
      exact ⟨ret_int (by rw [HJ.out]), rfl⟩

open Go.Proofs.Ytaefaneecdploaa.Word (info_u8 info_u32)
set_option maxHeartbeats 1000000 in
theorem refflat_c (A : Option Addr) (n c : Nat) (xs : List Int) (w : World) (hr : Rd w .u32 A n xs) (hx : ∀ x ∈ xs, 0 ≤ x ∧ x < 4294967296) (hn : n ≤ 35184372088831) :
    Calls Try.prog 25 #[.slice A n c] w fun e w' => (∃ A1 c1, e = .returned (.slice A1 (4 * n) c1) ∧ w'.ownsRow w.heap.size 5 1 (.slice A1 (4 * n) c1) (4 * n) (nums .u8 (flat xs))) ∧ Below w.heap.size w w' := by
  have hnm := hr.max
  have hlx := hr.len
  go_enter Try.func25, Try.ntmps25
  go_wp2
  go_loopw [3, 4] (fun v i wr => ∃ (k : Nat) (A1 : Option Addr) (c1 : Nat), k ≤ n ∧ i = .int .i64 k ∧ v = .slice A1 (4 * k) c1 ∧ wr.ownsRow w.heap.size 5 1 (.slice A1 (4 * k) c1) (4 * k) (nums .u8 (flat (xs.take k))) ∧ Below w.heap.size w wr) (fun _ i _ => n - (intOf i).toNat)
  case atStart => exact ⟨0, _, _, Nat.zero_le _, rfl, rfl, own_nil _ _ _ _, bl_refl _⟩
  case round =>
    obtain ⟨k, A1, c1, hk, rfl, rfl, HO, HB⟩ := hrel
    by_cases hlt : k < n
    · obtain ⟨wo, rfl⟩ : ∃ wo : World, wo = wr := ⟨_, rfl⟩
      have hrg := getD_mem_range hx (by omega) k
      obtain ⟨hr0, hr1⟩ := hrg
      have htk := Lib.hid (take_snoc xs k (by omega))
      have hcell0 := Lib.hid (hr.at_ k hlt)
      generalize xs[k]?.getD 0 = y at *
      go_wp2
      go_loopw [3, 5] (fun v j wr => ∃ (q : Nat) (A1 : Option Addr) (c1 : Nat), q ≤ 4 ∧ j = .int .i64 q ∧ v = .slice A1 (4 * k + q) c1 ∧ wr.ownsRow w.heap.size 5 1 (.slice A1 (4 * k + q) c1) (4 * k + q) (nums .u8 (flat (xs.take k) ++ (b4 y).take q)) ∧ Below w.heap.size w wr) (fun _ j _ => 4 - (intOf j).toNat)
      case atStart => exact ⟨0, A1, c1, by omega, rfl, rfl, by simpa using HO, HB⟩
      case round =>
        clear HO HB
        obtain ⟨q, A1, c1, hq, rfl, rfl, HO, HB⟩ := hrel
        by_cases hq4 : q < 4
        · obtain ⟨ad, rfl, hc0⟩ := hcell0.out
          have hca := bl_cell HB hc0
          clear hc0
          have hbt := Lib.hid (b4_take y hr0 hr1 q hq4)
          have hbr : 0 ≤ y / 256 ^ ((q : Int) % 4).toNat % 256 ∧ y / 256 ^ ((q : Int) % 4).toNat % 256 < 256 := by omega
          go_wp2_with fail
          refine (refbyte_c y q hr0 hr1 (by omega) (by omega) _).mono ?_
          rintro e w2 ⟨rfl, rfl⟩
          generalize y / 256 ^ ((q : Int) % 4).toNat % 256 = z at *
          go_wp2_with (at_builtin; refine app_own (w0 := w) w.heap.size 1 1 (.int .u8 0) rfl _ _ 34 5 rfl Try.underlying34 info_u8 rfl Nat.one_pos Nat.one_pos (.slice A1 (4 * k + q) c1) (4 * k + q) (nums .u8 (flat (xs.take k) ++ (b4 y).take q)) rfl (HO.alloc _) ⟨wr.heap.size, 0, none⟩ 1 1 (nums .u8 [z]) rfl rfl ?d0 (nums_one _ _) ?d1 ?d2 ?d3 ?_)
          case d0 => exact row_news (heap_alloc_new _ _)
          case d1 => omega
          case d2 => exact bl_alloc HB _
          case d3 => have := HB.size; simp; omega
          intro A2 c2 w4 HO4 HB4 hs4 _
          rw [← nums_append, List.append_assoc, ← hbt.out] at HO4
          clear HO HB
          go_wp2
          go_roundw
          case rel => exact ⟨q + 1, A2, c2, by omega, by go_num, rfl, HO4, HB4⟩
          case measure => simp [intOf]; omega
        · obtain rfl : q = 4 := by omega
          rw [show (b4 y).take 4 = b4 y from rfl, ← flat_snoc, ← htk.out] at HO
          go_wp2
          go_roundw
          case rel => exact ⟨k + 1, A1, c1, by omega, by go_num, rfl, HO, HB⟩
          case measure => simp [intOf]; omega
    · obtain rfl : k = n := by omega
      rw [List.take_of_length_le (by omega)] at HO
      go_wp2
      go_ret
      exact ⟨⟨A1, c1, rfl, HO⟩, HB⟩

set_option maxHeartbeats 1000000 in
theorem refwords_c (A : Option Addr) (n c : Nat) (xs : List Int) (w : World) (hr : Rd w .u8 A n xs) (hx : ∀ x ∈ xs, 0 ≤ x ∧ x < 256) (hn : n ≤ 35184372088000) :
    Calls Try.prog 28 #[.slice A n c] w fun e w' => (∃ A1 c1, e = .returned (.slice A1 (words xs).length c1) ∧ w'.ownsRow w.heap.size 22 1 (.slice A1 (words xs).length c1) (words xs).length (nums .u32 (words xs))) ∧ Below w.heap.size w w' := by
  have hnm := hr.max
  have hlx := hr.len
  go_enter Try.func28, Try.ntmps28
  go_wp2
  go_loopw [3, 4] (fun v i wr => ∃ (k : Nat) (A1 : Option Addr) (c1 : Nat), 4 * k ≤ n + 3 ∧ i = .int .i64 ((4 * k : Nat) : Int) ∧ v = .slice A1 k c1 ∧ wr.ownsRow w.heap.size 22 1 (.slice A1 k c1) k (nums .u32 (wordsTo xs k)) ∧ Below w.heap.size w wr) (fun _ i _ => n - (intOf i).toNat)
  case atStart => exact ⟨0, none, 0, by omega, rfl, rfl, own_nil _ _ _ _, bl_refl _⟩
  case round =>
    obtain ⟨k, A1, c1, hk, rfl, rfl, HO, HB⟩ := hrel
    by_cases hlt : 4 * k < n
    · obtain ⟨wo, rfl⟩ : ∃ wo : World, wo = wr := ⟨_, rfl⟩
      have hfour := Lib.hid (wpart_four xs k)
      have hcell0 := Lib.hid (hr.below HB)
      have hwt := Lib.hid (wordsTo_succ xs k)
      go_wp2
      go_loopw [5, 6] (fun v j wr => ∃ q : Nat, q ≤ 4 ∧ j = .int .i64 (3 - (q : Int)) ∧ v = .int .u32 (wpart xs k q) ∧ wo = wr) (fun _ j _ => (intOf j + 1).toNat)
      case atStart => exact ⟨0, by omega, rfl, rfl, rfl⟩
      case round =>
        obtain ⟨q, hq, rfl, rfl, rfl⟩ := hrel
        by_cases hq4 : q < 4
        · have hp := wpart_small xs hx k q hq4
          obtain ⟨hp0, hp1⟩ := hp
          have hpart : Hid (wpart xs k (q + 1) = wpart xs k q * 256 + xs[4 * k + (3 - q)]?.getD 0) := Lib.hid rfl
          have hrg := getD_mem_range hx (by omega) (4 * k + (3 - q))
          obtain ⟨hrg0, hrg1⟩ := hrg
          generalize wpart xs k q = z at *
          by_cases hin : 4 * k + (3 - q) < n
          · obtain ⟨ad, rfl, hca⟩ := hcell0.out.at_ (4 * k + (3 - q)) hin
            have hix : (4 * (k : Int) + (3 - (q : Int))).toNat = 4 * k + (3 - q) := by omega
            have hin2 : 4 * (k : Int) + (3 - (q : Int)) < (n : Int) := by omega
            generalize xs[4 * k + (3 - q)]?.getD 0 = y at *
            go_wp2
            go_roundw
            case rel => exact ⟨q + 1, by omega, by congr 1; omega, by rw [hpart.out], trivial⟩
            case measure => simp [intOf]; omega
          · have hz := getD_out xs (4 * k + (3 - q)) (by omega)
            have hin2 : (n : Int) ≤ 4 * (k : Int) + (3 - (q : Int)) := by omega
            rw [hz] at hpart
            clear hz hrg0 hrg1
            go_wp2
            go_roundw
            case rel => exact ⟨q + 1, by omega, by congr 1; omega, by rw [hpart.out]; simp, trivial⟩
            case measure => simp [intOf]; omega
        · obtain rfl : q = 4 := by omega
          rw [hfour.out]
          go_wp2_with (at_builtin; refine app_own (w0 := w) w.heap.size 1 4 (.int .u32 0) rfl _ _ 33 22 rfl Try.underlying33 info_u32 rfl Nat.one_pos (by decide) (.slice A1 k c1) k (nums .u32 (wordsTo xs k)) rfl (HO.alloc _) ⟨wo.heap.size, 0, none⟩ 1 1 (nums .u32 [w4 xs k]) rfl rfl ?d0 (nums_one _ _) ?d1 ?d2 ?d3 ?_)
          case d0 => exact row_news (heap_alloc_new _ _)
          case d1 => omega
          case d2 => exact bl_alloc HB _
          case d3 => have := HB.size; simp; omega
          intro A2 c2 w4 HO4 HB4 hs4 _
          rw [← nums_append, ← hwt.out] at HO4
          clear HO HB
          go_wp2
          go_roundw
          case rel => exact ⟨k + 1, A2, c2, by omega, by congr 1, rfl, HO4, HB4⟩
          case measure => simp [intOf]; omega
    · have hk := words_eq xs k (by omega)
      have hkl : (words xs).length = k := by rw [← hk]; simp [wordsTo]
      rw [hk] at HO
      have HK := Lib.hid hkl
      clear hk hkl
      go_wp2
      go_ret
      exact ⟨⟨A1, c1, by rw [HK.out]; rfl, by rw [HK.out]; exact HO⟩, HB⟩

set_option maxHeartbeats 800000 in
theorem with_c (x i b : Int) (h0 : 0 ≤ x) (h1 : x < 4294967296) (h2 : -9223372036854775808 ≤ i) (h3 : i ≤ 9223372036854775807) (hb0 : 0 ≤ b) (hb1 : b < 256) (w : World) :
    Calls Try.prog 22 #[.int .u32 x, .int .i64 i, .int .u8 b] w fun e w' => e = .returned (.int .u32 (x + (b - x / 256 ^ (i % 4).toNat % 256) * 256 ^ (i % 4).toNat)) ∧ Below w.heap.size w w' := by
  obtain ⟨J, hJ⟩ : ∃ J : Nat, (i % 4).toNat = J := ⟨_, rfl⟩
  have e : (wrap64 (i.tmod 4 + 4)).tmod 4 = (J : Int) := by rw [mod4]; omega
  have hJ3 : J < 4 := by omega
  have hval : Hid (w4 ((b4 x).set J b) 0 = x + (b - x / 256 ^ (i % 4).toNat % 256) * 256 ^ (i % 4).toNat) := Lib.hid (by
    rw [hJ]
    match J, hJ3 with
    | 0, _ => simp [w4, b4]; omega
    | 1, _ => simp [w4, b4]; omega
    | 2, _ => simp [w4, b4]; omega
    | 3, _ => simp [w4, b4]; omega)
  have hset : Hid ((nums .u8 (b4 x)).set J (.int .u8 b) = nums .u8 ((b4 x).set J b)) := Lib.hid (by simp [nums, List.map_set])
  have hfl : Hid (flat [x] = b4 x) := Lib.hid (by simp [flat])
  have hwd : Hid (words ((b4 x).set J b) = [w4 ((b4 x).set J b) 0]) := Lib.hid (by simp [words, b4, List.range_succ])
  have hrng : Hid (∀ y ∈ (b4 x).set J b, 0 ≤ y ∧ y < 256) := Lib.hid (by
    intro y hy
    rcases List.mem_or_eq_of_mem_set hy with h | rfl
    · simp only [b4, List.mem_cons, List.not_mem_nil, or_false] at h
      omega
    · omega)
  have HJ := Lib.hid hJ
  clear hJ
  go_enter Try.func22, Try.ntmps22
  go_wp2_with fail
  refine (refflat_c (some ⟨w.heap.size, 0, none⟩) 1 1 [x] _ ⟨rfl, by omega, fun _ => ⟨_, rfl, fun j hj => ?_⟩⟩ (by intro y hy; simp at hy; omega) (by omega)).mono ?_
  · obtain rfl : j = 0 := by omega
    exact row_news (cs := #[.int .u32 x]) (heap_alloc_new _ _) 0 _ rfl
  rintro e1 w1 ⟨⟨A1, c1, rfl, HO⟩, HB⟩
  have HB1 := bl_then (bl_alloc (bl_refl w) _) HB
  clear HB
  rw [hfl.out] at HO
  simp only [Nat.mul_one] at HO
  obtain ⟨g, cap, hv, hgb, hgl⟩ := HO.form (by omega)
  injection hv with hA hn hc
  subst hA
  subst hc
  have hcell : w1.cell? ⟨g, J, none⟩ = some ((nums .u8 (b4 x))[J]?.getD undef) := by
    rw [HO.cellAt J (by omega), List.getElem?_eq_getElem (by rw [nums_length]; show J < 4; omega)]; rfl
  have hfr := HO.frozenAt J
  have hst := HO.stored J (.int .u8 b)
  obtain ⟨HO2, hg2⟩ := hst
  rw [hset.out] at HO2
  have hgb' : w.heap.size + 1 ≤ g := by simpa using hgb
  clear HO hgb
  go_wp2_with fail
  refine (refwords_c (some ⟨g, 0, none⟩) 4 c1 ((b4 x).set J b) _ (Rd.of_own HO2) hrng.out (by omega)).mono ?_
  rintro e3 w3 ⟨⟨A3, c3, rfl, HO3⟩, HB3⟩
  rw [hwd.out] at HO3 ⊢
  simp only [List.length_cons, List.length_nil, Nat.zero_add] at HO3 ⊢
  rw [hval.out] at HO3
  obtain ⟨ad, rfl, hc0⟩ := (Rd.of_own HO3).at_ 0 (by omega)
  have HB4 : Below w.heap.size w w3 := bl_then (bl_set HB1 (by show w.heap.size ≤ g; omega) _) HB3
  rw [show ad.add 0 = ad from by unfold Addr.add; simp] at hc0
  simp only [List.getElem?_cons_zero, Option.getD_some] at hc0
  generalize hz0 : x + (b - x / 256 ^ (i % 4).toNat % 256) * 256 ^ (i % 4).toNat = z at *
  have hz := Lib.hid hz0
  clear HO2 HO3 HB3 hcell hfr hz0
  go_wp2_with fail
  go_ret
  exact ⟨ret_int hz.out.symm, HB4⟩
end Go.Proofs.Ytaefaneecdploaa.Ref01
