/- Contracts of package slots (more), and of the reference's comparison. -/
import Derived.Test.YtcomgmgmpmjnkaaSlots
set_option linter.unusedVariables false
namespace Go.Proofs.Ytcomgmgmpmjnkaa.Slots2
open Go.RowKit Go.Proofs.Ytcomgmgmpmjnkaa.Base Go.Proofs.Ytcomgmgmpmjnkaa.Row Go.Proofs.Ytcomgmgmpmjnkaa.App Go.Proofs.Ytcomgmgmpmjnkaa.Slots

theorem beq_of_all {n : Nat} {xs ys : List Int} (hx : xs.length = n) (hy : ys.length = n) (h : ∀ j, j < n → xs[j]?.getD 0 = ys[j]?.getD 0) : (xs == ys) = true := by
  rw [beq_iff_eq]
  apply List.ext_getElem (by omega)
  intro i h1 h2
  have := h i (by omega)
  simpa [List.getElem?_eq_getElem h1, List.getElem?_eq_getElem h2] using this

set_option maxRecDepth 100000 in
theorem same_c (A B : Option Addr) (n m c d : Nat) (xs ys : List Int) (w : World) (ha : Rd w .i64 A n xs) (hb : Rd w .i64 B m ys) :
    Calls Try.prog 43 #[.slice A n c, .slice B m d] w fun e w' => e = .returned (.bool (xs == ys)) ∧ Below w.heap.size w w' := by
  have hn := ha.max
  have hm := hb.max
  by_cases hnm : n = m
  · subst hnm
    have hfin : Hid ((∀ j, j < n → xs[j]?.getD 0 = ys[j]?.getD 0) → (xs == ys) = true) := Lib.hid (beq_of_all ha.len hb.len)
    have hne : Hid (∀ j, j < n → ¬ xs[j]?.getD 0 = ys[j]?.getD 0 → (xs == ys) = false) := Lib.hid (fun j _ hj => by rw [beq_eq_false_iff_ne]; rintro rfl; exact hj rfl)
    go_enter Try.func43, Try.ntmps43
    go_wp2
    go_loopw [5] (fun i wr => ∃ k : Nat, k ≤ n ∧ i = .int .i64 k ∧ Hid (∀ j, j < k → xs[j]?.getD 0 = ys[j]?.getD 0) ∧ Below w.heap.size w wr) (fun i _ => n - (intOf i).toNat)
    case atStart => exact ⟨0, Nat.zero_le _, rfl, Lib.hid (fun j hj => absurd hj (by omega)), bl_refl _⟩
    case round =>
      obtain ⟨k, hk, rfl, HK, HB⟩ := hrel
      by_cases hlt : k < n
      · obtain ⟨ad, rfl, hca⟩ := (ha.below HB).at_ k hlt
        obtain ⟨bd, rfl, hcb⟩ := (hb.below HB).at_ k hlt
        clear ha hb
        by_cases hxy : xs[k]?.getD 0 = ys[k]?.getD 0
        · have hq : (xs[k]?.getD 0 != ys[k]?.getD 0) = false := by simp [hxy]
          have hxy' := Lib.hid hxy
          clear hxy
          go_wp2
          go_quiet (fail)
          go_wp2
          go_roundw
          case rel => exact ⟨k + 1, by omega, by go_num, Lib.hid (all_succ HK.out hxy'.out), bl_drewN HB _⟩
          case measure => simp [intOf]; omega
        · have hq : (xs[k]?.getD 0 != ys[k]?.getD 0) = true := by simpa using hxy
          have hr := Lib.hid (hne.out k hlt hxy)
          clear hxy
          go_wp2
          go_quiet (fail)
          go_wp2
          go_ret
          exact ⟨ret_bool hr.out.symm, bl_drewN HB _⟩
      · obtain rfl : k = n := by omega
        have hr := Lib.hid (hfin.out HK.out)
        go_wp2
        go_ret
        exact ⟨ret_bool hr.out.symm, HB⟩
  · have h1 : ((n : Int) != (m : Int)) = true := by simp; omega
    have hr : Hid ((xs == ys) = false) := Lib.hid (by rw [beq_eq_false_iff_ne]; rintro rfl; exact hnm (by rw [← ha.len, ← hb.len]))
    go_enter Try.func43, Try.ntmps43
    go_wp2
    go_ret
    exact ⟨ret_bool hr.out.symm, bl_refl _⟩


set_option maxRecDepth 100000 in
set_option maxHeartbeats 2000000 in
theorem next_no (A : Option Addr) (c : Nat) (t : Int) (w : World) :
    Calls Try.prog 40 #[.agg (rv A 0 c t)] w fun r w' => r = .returned (.tuple #[.agg (rv A 0 c t), .int .i64 0, .bool false]) ∧ Below w.heap.size w w' := by
  go_enter Try.func40, Try.ntmps40
  go_wp2_with (first
    | ((with_reducible refine wl_box rfl 96 _ rfl (rv A 0 c t) rfl ?_); intro w1 k1 b1 s1)
    | ((with_reducible refine wl_alloc rfl 96 rfl (rv none 0 0 0) new_v ?_); intro w2 k2 b2 s2; have k1' := k1.below b2; have f0 := k1'.cellv 0 (.slice A 0 c) rfl)
    | (with_reducible refine wl_load rfl 96 _ rfl w.heap.size rfl 96 (rv A 0 c t) _ k1' Try.underlying96 rfl (size_v _ rfl) ?_)
    | ((with_reducible refine wl_store rfl 96 _ _ rfl w1.heap.size rfl (rv A 0 c t) rfl 96 (rv none 0 0 0) k2 (size_v _ rfl) rfl (one_v _ _ _ _) ?_); intro w3 k3 g3 s3))
  refine bodyPost_ret (res_cell_tmp2 rfl _ _ _ w1.heap.size 96 (rv A 0 c t) _ rfl k3 Try.underlying96 rfl (size_v _ rfl)) rfl ⟨rfl, ?_⟩
  exact below_grown (bl_then b1 b2) (Nat.le_trans b1.size b2.size) g3 (by omega)

/-- May slots be? -/
def okL (l : List Int) : Bool := decide (l.length ≤ 32) && l.all (fun x => decide (0 ≤ x ∧ x < 16))
def OfPost (l : List Int) (n : Nat) (w w' : World) (r : Ending) : Prop :=
  ((okL l = true ∧ ∃ A1 c1, r = .returned (.tuple #[.agg (rv A1 n c1 0), .bool true]) ∧ w'.ownsRow w.heap.size 3 1 (.slice A1 n c1) n (nums .i64 l)) ∨
   (okL l = false ∧ r = .returned (.tuple #[.agg (rv none 0 0 0), .bool false]))) ∧ Below w.heap.size w w'
theorem okL_yes (l : List Int) (n : Nat) (hl : l.length = n) (hn : n ≤ 32) (h : ∀ j, j < n → 0 ≤ l[j]?.getD 0 ∧ l[j]?.getD 0 < 16) : okL l = true := by
  unfold okL
  rw [Bool.and_eq_true, decide_eq_true_eq, List.all_eq_true]
  refine ⟨by omega, fun x hx => ?_⟩
  obtain ⟨j, hj, rfl⟩ := List.getElem_of_mem hx
  have := h j (by omega)
  rw [List.getElem?_eq_getElem hj] at this
  simpa using this
theorem okL_no (l : List Int) (j : Nat) (hj : j < l.length) (h : ¬ (0 ≤ l[j]?.getD 0 ∧ l[j]?.getD 0 < 16)) : okL l = false := by
  unfold okL
  rw [Bool.and_eq_false_iff]
  right
  rw [List.all_eq_false]
  refine ⟨l[j], List.getElem_mem _, ?_⟩
  rw [List.getElem?_eq_getElem hj] at h
  simpa using h
theorem okL_long (l : List Int) (h : 32 < l.length) : okL l = false := by
  unfold okL
  rw [decide_eq_false (by omega)]; rfl

set_option maxRecDepth 100000 in
set_option maxHeartbeats 4000000 in
theorem of_c (A : Option Addr) (n c : Nat) (l : List Int) (w : World) (hr : Rd w .i64 A n l) (hA : A = none → c = 0) :
    Calls Try.prog 38 #[.slice A n c] w fun r w' => OfPost l n w w' r := by
  have hmx := hr.max
  have hlen := Lib.hid hr.len
  have hA' := Lib.hid hA
  clear hA
  by_cases hlong : 32 < n
  · have hq : decide (32 < (n : Int)) = true := by simp; omega
    have hno := Lib.hid (okL_long l (by rw [hlen.out]; exact hlong))
    clear hr hlong
    go_enter Try.func38, Try.ntmps38
    go_wp2_with (first
      | ((with_reducible refine wl_alloc rfl 96 rfl (rv none 0 0 0) new_v ?_); intro w1 k1 b1 s1)
      | (with_reducible refine wl_build0 rfl 96 rfl (rv none 0 0 0) zero_v ?_)
      | ((with_reducible refine wl_store rfl 96 _ _ rfl w.heap.size rfl (rv none 0 0 0) rfl 96 (rv none 0 0 0) k1 (size_v _ rfl) rfl (one_v _ _ _ _) ?_); intro w3 k3 g3 s3))
    refine bodyPost_ret (res_cell_tmp rfl _ _ _ w.heap.size 96 (rv none 0 0 0) _ rfl k3 Try.underlying96 rfl (size_v _ rfl)) rfl ⟨.inr ⟨hno.out, rfl⟩, ?_⟩
    exact below_grown b1 b1.size g3 (Nat.le_refl _)
  · have hq : decide (32 < (n : Int)) = false := by simp; omega
    go_enter Try.func38, Try.ntmps38
    go_wp2_with (first
      | ((with_reducible refine wl_alloc rfl 96 rfl (rv none 0 0 0) new_v ?_); intro w1 k1 b1 s1))
    have hr1 := hr.below b1
    clear hr
    go_loopw [12] (fun i wr => ∃ k : Nat, k ≤ n ∧ i = .int .i64 k ∧ Hid (∀ j, j < k → 0 ≤ l[j]?.getD 0 ∧ l[j]?.getD 0 < 16) ∧ w1 = wr) (fun i _ => n - (intOf i).toNat)
    case atStart => exact ⟨0, by omega, rfl, Lib.hid (fun j hj => absurd hj (by omega)), rfl⟩
    case round =>
      obtain ⟨k, hk, rfl, HK, rfl⟩ := hrel
      by_cases hlt : k < n
      · have hq1 : decide ((k : Int) < (n : Int)) = true := by simp; omega
        obtain ⟨ad, rfl, hca⟩ := hr1.at_ k hlt
        have hnoF : Hid (¬ (0 ≤ l[k]?.getD 0 ∧ l[k]?.getD 0 < 16) → okL l = false) := Lib.hid (okL_no l k (by rw [hlen.out]; exact hlt))
        have hsucc : Hid ((0 ≤ l[k]?.getD 0 ∧ l[k]?.getD 0 < 16) → ∀ j, j < k + 1 → 0 ≤ l[j]?.getD 0 ∧ l[j]?.getD 0 < 16) := Lib.hid (fun h j hj => by
          rcases Nat.lt_or_ge j k with h' | h'
          · exact HK.out j h'
          · obtain rfl : j = k := by omega
            exact h)
        generalize l[k]?.getD 0 = y at *
        by_cases h0 : 0 ≤ y
        · have q0 : decide (y < 0) = false := by simp; omega
          by_cases h1 : y < 16
          · have q1 : decide (16 ≤ y) = false := by simp; omega
            have HK' := Lib.hid (hsucc.out ⟨h0, h1⟩)
            go_wp2
            go_roundw
            case rel => exact ⟨k + 1, by omega, by go_num, HK', trivial⟩
            case measure => first | (simp [intOf]; done) | (simp [intOf]; omega)
          · have q1 : decide (16 ≤ y) = true := by simp; omega
            have hno := Lib.hid (hnoF.out (fun h => h1 h.2))
            go_wp2_with (first
              | (with_reducible refine wl_build0 rfl 96 rfl (rv none 0 0 0) zero_v ?_)
              | ((with_reducible refine wl_store rfl 96 _ _ rfl w.heap.size rfl (rv none 0 0 0) rfl 96 (rv none 0 0 0) k1 (size_v _ rfl) rfl (one_v _ _ _ _) ?_); intro w3 k3 g3 s3))
            refine bodyPost_ret (res_cell_tmp rfl _ _ _ w.heap.size 96 (rv none 0 0 0) _ rfl k3 Try.underlying96 rfl (size_v _ rfl)) rfl ⟨.inr ⟨hno.out, rfl⟩, ?_⟩
            exact below_grown b1 b1.size g3 (Nat.le_refl _)
        · have q0 : decide (y < 0) = true := by simp; omega
          have hno := Lib.hid (hnoF.out (fun h => h0 h.1))
          go_wp2_with (first
            | (with_reducible refine wl_build0 rfl 96 rfl (rv none 0 0 0) zero_v ?_)
            | ((with_reducible refine wl_store rfl 96 _ _ rfl w.heap.size rfl (rv none 0 0 0) rfl 96 (rv none 0 0 0) k1 (size_v _ rfl) rfl (one_v _ _ _ _) ?_); intro w3 k3 g3 s3))
          refine bodyPost_ret (res_cell_tmp rfl _ _ _ w.heap.size 96 (rv none 0 0 0) _ rfl k3 Try.underlying96 rfl (size_v _ rfl)) rfl ⟨.inr ⟨hno.out, rfl⟩, ?_⟩
          exact below_grown b1 b1.size g3 (Nat.le_refl _)
      · obtain rfl : k = n := by omega
        have hq1 : decide ((k : Int) < (k : Int)) = false := by simp
        have hyes := Lib.hid (okL_yes l k hlen.out (by omega) HK.out)
        go_wp2_with fail
        refine (clone_c A k c l _ hr1 hA'.out (by omega)).mono ?_
        rintro r w4 ⟨⟨A4, c4, rfl, HO4⟩, b4⟩
        have k4 := k1.below b4
        have B4 := bl_then b1 b4
        have s4 := b4.size
        go_wp2_with (first
          | ((with_reducible refine wl_store rfl 96 _ _ rfl w.heap.size rfl (rv A4 k c4 0) rfl 96 (rv none 0 0 0) k4 (size_v _ rfl) rfl (one_v _ _ _ _) ?_); intro w5 k5 g5 s5))
        refine bodyPost_ret (res_cell_tmp rfl _ _ _ w.heap.size 96 (rv A4 k c4 0) _ rfl k5 Try.underlying96 rfl (size_v _ rfl)) rfl ⟨.inl ⟨hyes.out, A4, c4, rfl, ?_⟩, ?_⟩
        · exact own_mono (own_kept HO4 g5 (by omega)) b1.size
        · exact below_grown B4 B4.size g5 (Nat.le_refl _)

end Go.Proofs.Ytcomgmgmpmjnkaa.Slots2
