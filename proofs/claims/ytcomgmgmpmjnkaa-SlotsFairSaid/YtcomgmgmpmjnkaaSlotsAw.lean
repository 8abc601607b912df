/- The reference's words on slots, and the chapter's example. -/
import Derived.Test.YtcomgmgmpmjnkaaSlots5
set_option linter.unusedVariables false
namespace Go.Proofs.Ytcomgmgmpmjnkaa.SlotsAw
open Go.RowKit Go.Proofs.Ytcomgmgmpmjnkaa.Base Go.Proofs.Ytcomgmgmpmjnkaa.Row Go.Proofs.Ytcomgmgmpmjnkaa.App Go.Proofs.Ytcomgmgmpmjnkaa.Slots Go.Proofs.Ytcomgmgmpmjnkaa.Slots2 Go.Proofs.Ytcomgmgmpmjnkaa.Slots3 Go.Proofs.Ytcomgmgmpmjnkaa.Slots4 Go.Proofs.Ytcomgmgmpmjnkaa.Slots5

theorem next_at (A : Option Addr) (n c t t' : Nat) (x : Int) (l : List Int) (w : World) (hr : Rd w .i64 A n l) (ht : t < n) (ht' : (t + 1) % n = t') (hx : l[t]?.getD 0 = x) :
    Calls Try.prog 40 #[.agg (rv A n c t)] w fun r w' => r = .returned (.tuple #[.agg (rv A n c t'), .int .i64 x, .bool true]) ∧ Below w.heap.size w w' := by
  subst ht' hx
  exact next_yes A n c t l w hr ht
theorem share_at (A : Option Addr) (n c : Nat) (t env : Int) (m : Nat) (l : List Int) (w : World) (hr : Rd w .i64 A n l) (hm : count l env n = m) :
    Calls Try.prog 42 #[.agg (rv A n c t), .int .i64 env] w fun r w' => r = .returned (.int .i64 (m : Nat)) ∧ Below w.heap.size w w' := by
  subst hm
  exact share_c A n c t env l w hr

theorem rot_get (l : List Int) (t n k : Nat) (hl : l.length = n) (ht : t < n) (hk : k < n) : (rot l t)[k]?.getD 0 = nth l n t k := by
  unfold rot nth
  rcases Nat.lt_or_ge k (n - t) with h | h
  · rw [List.getElem?_append_left (by rw [List.length_drop, hl]; exact h), List.getElem?_drop, Nat.mod_eq_of_lt (by omega)]
  · rw [List.getElem?_append_right (by rw [List.length_drop, hl]; exact h), List.length_drop, hl, List.getElem?_take, if_pos (by omega), show (t + k) % n = k - (n - t) from by
      rw [show t + k = (k - (n - t)) + n by omega, Nat.add_mod_right, Nat.mod_eq_of_lt (by omega)]]
theorem rot_len (l : List Int) (t : Nat) : (rot l t).length = l.length := by
  unfold rot
  rw [List.length_append, List.length_drop, List.length_take]; omega
theorem rot_zero (l : List Int) : rot l 0 = l := by simp [rot]
theorem rot_next (l : List Int) (t n : Nat) (hl : l.length = n) (ht : t < n) : rot l ((t + 1) % n) = nx (rot l t) := by
  have h1 : rot l t = l[t] :: (l.drop (t + 1) ++ l.take t) := by
    unfold rot
    rw [List.drop_eq_getElem_cons (by omega)]; rfl
  rw [h1]
  unfold nx
  rw [List.tail_cons, List.take_succ_cons, List.take_zero]
  rcases Nat.lt_or_ge (t + 1) n with h | h
  · rw [Nat.mod_eq_of_lt h]
    unfold rot
    rw [List.append_assoc, ← List.take_succ_eq_append_getElem]
  · have e : t + 1 = n := by omega
    rw [e, Nat.mod_self, rot_zero, List.drop_of_length_le (by omega), List.nil_append, ← List.take_succ_eq_append_getElem (by omega), e, List.take_of_length_le (by omega)]
theorem rot_without (l : List Int) (env : Int) (t : Nat) : rot (fil l env) (wat l env t) = fil (rot l t) env := by
  have hd : fil l env = fil (l.take t) env ++ fil (l.drop t) env := by
    unfold fil
    rw [← List.filter_append, List.take_append_drop]
  have hr : fil (rot l t) env = fil (l.drop t) env ++ fil (l.take t) env := by
    unfold fil rot
    rw [List.filter_append]
  rw [hr]
  unfold wat
  split
  · rename_i h
    rw [hd, List.length_append] at h
    have h0 : fil (l.drop t) env = [] := List.length_eq_zero_iff.1 (by omega)
    rw [rot_zero, hd, h0, List.append_nil, List.nil_append]
  · rw [hd]
    unfold rot
    rw [List.drop_left, List.take_left]
theorem wat_lt (l : List Int) (env : Int) (t : Nat) : wat l env t < (fil l env).length ∨ wat l env t = 0 := by
  unfold wat
  split
  · exact .inr rfl
  · rename_i h
    left
    have : (fil (l.take t) env).length ≤ (fil l env).length := by
      unfold fil
      exact ((List.take_sublist t l).filter _).length_le
    omega
/-- The first place with an environment, if there is one, else n. -/
def fst (l : List Int) (env : Int) : Nat := l.findIdx (· == env)
theorem fst_le (l : List Int) (env : Int) : fst l env ≤ l.length := List.findIdx_le_length
theorem fst_no (l : List Int) (env : Int) (j : Nat) (hj : j < fst l env) : ¬ l[j]?.getD 0 = env := by
  have h1 : j < l.length := Nat.lt_of_lt_of_le hj (fst_le l env)
  have := List.not_of_lt_findIdx hj
  rw [List.getElem?_eq_getElem h1]
  simpa using this
theorem fst_yes (l : List Int) (env : Int) (h : fst l env < l.length) : l[fst l env]?.getD 0 = env := by
  have h2 : (l[fst l env] == env) = true := List.findIdx_getElem (w := h)
  rw [List.getElem?_eq_getElem h]
  exact eq_of_beq h2

set_option maxRecDepth 100000 in
set_option maxHeartbeats 4000000 in
theorem awake_c (w : World) : Calls Try.prog 39 #[] w fun e w' => e = .returned (.bool true) ∧ Below w.heap.size w w' := by
  have hrd : Rd (w.alloc (.cells #[.int .i64 1, .int .i64 2, .int .i64 1] 3)) .i64 (some ⟨w.heap.size, 0, none⟩) 3 [1, 2, 1] := ⟨rfl, by omega, fun _ => ⟨_, rfl, fun j hj => by
    refine row_news (cs := #[.int .i64 1, .int .i64 2, .int .i64 1]) (heap_alloc_new _ _) j _ ?_
    match j, hj with
    | 0, _ => rfl
    | 1, _ => rfl
    | 2, _ => rfl⟩⟩
  have B0 := bl_alloc (bl_refl w) (.cells #[.int .i64 1, .int .i64 2, .int .i64 1] 3)
  go_enter Try.func39, Try.ntmps39
  go_wp2_with fail
  refine (of_c (some ⟨w.heap.size, 0, none⟩) 3 3 [1, 2, 1] _ hrd (by intro h; cases h)).mono ?_
  rintro r w1 ⟨⟨_, A1, c1, rfl, HO⟩ | ⟨h, _⟩, b1⟩
  rotate_left
  · exact absurd h (by decide)
  have R1 := Rd.of_own HO
  have B1 := bl_then B0 b1
  clear hrd B0 b1 HO
  have z0 := B1.size
  go_wp2_with (first
    | ((with_reducible refine wl_alloc rfl 96 rfl (rv none 0 0 0) new_v ?_); intro w2 k2 b2 s2)
    | ((with_reducible refine wl_store rfl 96 _ _ rfl w1.heap.size rfl (rv A1 3 c1 0) rfl 96 (rv none 0 0 0) k2 (size_v _ rfl) rfl (one_v _ _ _ _) ?_); intro w3 k3 g3 s3)
    | (with_reducible refine wl_load rfl 96 _ rfl w1.heap.size rfl 96 (rv A1 3 c1 0) _ k3 Try.underlying96 rfl (size_v _ rfl) ?_))
  have B3 := below_grown b2 b2.size g3 (Nat.le_refl _)
  refine (next_at A1 3 c1 0 1 1 [1, 2, 1] w3 (R1.below B3) (by omega) rfl rfl).mono ?_
  rintro r w4 ⟨rfl, b4⟩
  have k4 := k3.below b4
  have B4 := bl_then B3 b4
  clear k2 b2 g3 k3 B3 b4
  go_wp2_with (first
    | ((with_reducible refine wl_store rfl 96 _ _ rfl w1.heap.size rfl (rv A1 3 c1 1) rfl 96 (rv A1 3 c1 0) k4 (size_v _ rfl) rfl (one_v _ _ _ _) ?_); intro w5 k5 g5 s5)
    | (with_reducible refine wl_load rfl 96 _ rfl w1.heap.size rfl 96 (rv A1 3 c1 1) _ k5 Try.underlying96 rfl (size_v _ rfl) ?_))
  have B5 := below_grown B4 B4.size g5 (Nat.le_refl _)
  refine (next_at A1 3 c1 1 2 2 [1, 2, 1] w5 (R1.below B5) (by omega) rfl rfl).mono ?_
  rintro r w6 ⟨rfl, b6⟩
  have B6 := bl_then B5 b6
  clear k4 B4 g5 k5 B5 b6
  go_wp2_with (first
    | ((with_reducible refine wl_alloc rfl 96 rfl (rv none 0 0 0) new_v ?_); intro w7 k7 b7 s7)
    | ((with_reducible refine wl_store rfl 96 _ _ rfl w6.heap.size rfl (rv A1 3 c1 2) rfl 96 (rv none 0 0 0) k7 (size_v _ rfl) rfl (one_v _ _ _ _) ?_); intro w8 k8 g8 s8)
    | (with_reducible refine wl_load rfl 96 _ rfl w6.heap.size rfl 96 (rv A1 3 c1 2) _ k8 Try.underlying96 rfl (size_v _ rfl) ?_))
  have B8 := below_grown (bl_then B6 b7) (by have := B6.size; have := b7.size; omega) g8 B6.size
  refine (without_c A1 3 c1 2 1 [1, 2, 1] w8 (R1.below B8) (by omega) (by omega)).mono ?_
  rintro r w9 ⟨⟨A2, c2, rfl, HO2⟩, b9⟩
  rw [show wat [1, 2, 1] 1 2 = 0 from by decide] at *
  rw [show (fil [1, 2, 1] 1).length = 1 from by decide, show fil [1, 2, 1] 1 = [2] from by decide] at *
  have R2 := Rd.of_own HO2
  have k9 := k8.below b9
  have B9 := bl_then B8 b9
  clear k7 b7 g8 k8 B8 b9 HO2
  go_wp2_with fail
  refine (next_at A2 1 c2 0 0 2 [2] w9 R2 (by omega) rfl rfl).mono ?_
  rintro r w10 ⟨rfl, b10⟩
  have k10 := k9.below b10
  have B10 := bl_then B9 b10
  clear k9 B9 b10 R2
  have sz := B10.size
  have s6 := B6.size
  have k6lt := k10.lt
  go_wp2_with (first
    | ((with_reducible refine wl_alloc rfl 96 rfl (rv none 0 0 0) new_v ?_); intro w11 k11 b11 s11; have k10b := k10.below b11)
    | ((with_reducible refine wl_store rfl 96 _ _ rfl w10.heap.size rfl (rv A2 1 c2 0) rfl 96 (rv none 0 0 0) k11 (size_v _ rfl) rfl (one_v _ _ _ _) ?_); intro w12 k12 g12 s12; have k10c := k10b.grown g12 (fun e => by injection e with e; omega))
    | ((with_reducible refine wl_load_on rfl 96 _ rfl w6.heap.size rfl 96 (rv A1 3 c1 2) _ k10c Try.underlying96 rfl (size_v _ rfl) ?hop ?_)))
  have B12 := below_grown (bl_then B10 b11) (by have := b11.size; omega) g12 (by omega)
  go_wp2_with fail
  refine (share_at A1 3 c1 2 1 2 [1, 2, 1] w12 (R1.below B12) (by decide)).mono ?_
  rintro r w13 ⟨rfl, b13⟩
  go_wp2
  go_ret
  exact ⟨rfl, bl_then B1 (bl_then B12 b13)⟩
end Go.Proofs.Ytcomgmgmpmjnkaa.SlotsAw
