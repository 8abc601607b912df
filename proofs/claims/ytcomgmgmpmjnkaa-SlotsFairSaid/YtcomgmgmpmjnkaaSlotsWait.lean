/- SlotsWait: at all slots and every environment the law's text returns true. -/
import Derived.Test.YtcomgmgmpmjnkaaSlotsAw
set_option linter.unusedVariables false
namespace Go.Proofs.Ytcomgmgmpmjnkaa.SlotsWait
open Go.RowKit Go.Proofs.Ytcomgmgmpmjnkaa.Base Go.Proofs.Ytcomgmgmpmjnkaa.Row Go.Proofs.Ytcomgmgmpmjnkaa.App Go.Proofs.Ytcomgmgmpmjnkaa.Slots Go.Proofs.Ytcomgmgmpmjnkaa.Slots2 Go.Proofs.Ytcomgmgmpmjnkaa.Slots3 Go.Proofs.Ytcomgmgmpmjnkaa.Slots4 Go.Proofs.Ytcomgmgmpmjnkaa.Slots5 Go.Proofs.Ytcomgmgmpmjnkaa.SlotsAw

theorem okL_len (l : List Int) (h : okL l = true) : l.length ≤ 32 := by
  unfold okL at h
  rw [Bool.and_eq_true, decide_eq_true_eq] at h
  exact h.1
theorem okL_range (l : List Int) (h : okL l = true) (j : Nat) (hj : j < l.length) : 0 ≤ l[j]?.getD 0 ∧ l[j]?.getD 0 < 16 := by
  unfold okL at h
  rw [Bool.and_eq_true, List.all_eq_true] at h
  have := h.2 (l[j]) (List.getElem_mem _)
  rw [List.getElem?_eq_getElem hj]
  simpa using this
theorem nth_zero (l : List Int) (n k : Nat) (hk : k < n) : nth l n 0 k = l[k]?.getD 0 := by
  unfold nth
  rw [Nat.zero_add, Nat.mod_eq_of_lt hk]
theorem count_none (l : List Int) (env : Int) (h : ∀ j, j < l.length → ¬ l[j]?.getD 0 = env) : count l env l.length = 0 := by
  unfold count
  rw [List.take_length, List.length_eq_zero_iff, List.filter_eq_nil_iff]
  intro x hx
  obtain ⟨j, hj, rfl⟩ := List.getElem_of_mem hx
  have := h j hj
  rw [List.getElem?_eq_getElem hj] at this
  simpa using this
theorem count_some (l : List Int) (env : Int) (j : Nat) (hj : j < l.length) (h : l[j]?.getD 0 = env) : 0 < count l env l.length := by
  unfold count
  rw [List.take_length, List.length_pos_iff_exists_mem]
  rw [List.getElem?_eq_getElem hj] at h
  exact ⟨l[j], List.mem_filter.2 ⟨List.getElem_mem _, by simpa using h⟩⟩
theorem wait_at (A : Option Addr) (n c t : Nat) (env : Int) (l : List Int) (w : World) (hr : Rd w .i64 A n l) (hn : n ≤ 1000) (ht : t ≤ 1000) (m : Nat) (x : Int) (b : Bool) (hm : m ≤ n) (hno : ∀ j, j < m → ¬ nth l n t j = env) (hyes : m < n → nth l n t m = env) (hx : wN n m = x) (hb : wB n m = b) :
    Calls Try.prog 44 #[.agg (rv A n c t), .int .i64 env] w fun r w' => r = .returned (.tuple #[.int .i64 x, .bool b]) ∧ Below w.heap.size w w' := by
  subst hx hb
  exact wait_c A n c t env l w hr hn ht m hm hno hyes

theorem row_none {w : World} {k : IntKind} {A : Option Addr} {n c : Nat} {z : List Int} (h : IsRow k w A n c z) : A = none → c = 0 := by
  rintro rfl
  rcases h with ⟨_, _, h, _⟩ | ⟨x, h, _⟩
  · exact h
  · cases h

set_option maxRecDepth 100000 in
set_option maxHeartbeats 4000000 in
theorem main (A : Option Addr) (n c : Nat) (env : Int) (l : List Int) (w : World) (hr : Rd w .i64 A n l) (hA : A = none → c = 0) :
    Calls Try.prog 10 #[.slice A n c, .int .i64 env] w fun e w' => e = .returned (.bool true) ∧ Below w.heap.size w w' := by
  have hlen := Lib.hid hr.len
  have hmx := hr.max
  have hO := Lib.hid (of_c A n c l w hr hA)
  clear hr hA
  go_enter Try.func10, Try.ntmps10
  go_wp2_with fail
  refine hO.out.mono ?_
  rintro r w1 ⟨⟨hok, A1, c1, rfl, HO⟩ | ⟨hok, rfl⟩, b1⟩
  · have R1 := Rd.of_own HO
    have hn := okL_len l hok
    rw [hlen.out] at hn
    have hok := Lib.hid hok
    clear HO
    obtain ⟨m, hm⟩ : ∃ m, fst l env = m := ⟨_, rfl⟩
    have hmle : m ≤ n := by rw [← hm, ← hlen.out]; exact fst_le l env
    have hno := Lib.hid (show ∀ j, j < m → ¬ l[j]?.getD 0 = env from fun j hj => fst_no l env j (by rw [hm]; exact hj))
    have hyes := Lib.hid (show m < n → l[m]?.getD 0 = env from fun h => by have := fst_yes l env (by rw [hm, hlen.out]; exact h); rwa [hm] at this)
    have hwait : Hid (∀ (x : Int) (b : Bool), wN n m = x → wB n m = b → ∀ w', Rd w' .i64 A1 n l → Calls Try.prog 44 #[.agg (rv A1 n c1 0), .int .i64 env] w' fun r w'' => r = .returned (.tuple #[.int .i64 x, .bool b]) ∧ Below w'.heap.size w' w'') := Lib.hid (fun x b hx hb w' hr' =>
      wait_at A1 n c1 0 env l w' hr' (by omega) (by omega) m x b hmle (fun j hj => by rw [nth_zero l n j (by omega)]; exact hno.out j hj) (fun h => by rw [nth_zero l n m h]; exact hyes.out h) hx hb)
    clear hm
    by_cases hmn : m < n
    · have hw1 : Hid (wN n m = m) := Lib.hid (by simp [wN, hmn])
      have hw2 : Hid (wB n m = true) := Lib.hid (by simp [wB, hmn])
      have hcp := Lib.hid (count_some l env m (by rw [hlen.out]; exact hmn) (hyes.out hmn))
      rw [hlen.out] at hcp
      go_wp2_with (first
        | ((with_reducible refine wl_alloc rfl 96 rfl (rv none 0 0 0) new_v ?_); intro w2 k2 b2 s2)
        | ((with_reducible refine wl_store rfl 96 _ _ rfl w1.heap.size rfl (rv A1 n c1 0) rfl 96 (rv none 0 0 0) k2 (size_v _ rfl) rfl (one_v _ _ _ _) ?_); intro w3 k3 g3 s3)
        | (with_reducible refine wl_load rfl 96 _ rfl w1.heap.size rfl 96 (rv A1 n c1 0) _ k3 Try.underlying96 rfl (size_v _ rfl) ?_))
      have B3 := below_grown b2 b2.size g3 (Nat.le_refl _)
      refine (hwait.out m true hw1.out hw2.out w3 (R1.below B3)).mono ?_
      rintro r w4 ⟨rfl, b4⟩
      have k4 := k3.below b4
      have B4 := bl_then B3 b4
      clear k2 b2 g3 k3 B3 b4
      go_wp2_with fail
      go_loopw [9, 10, 11, 12] (fun i _ _ _ wr => ∃ k : Nat, k ≤ m ∧ i = .int .i64 k ∧ Blk wr w1.heap.size 96 (rv A1 n c1 k) ∧ Below w1.heap.size w1 wr) (fun i _ _ _ _ => m - (intOf i).toNat)
      case atStart => exact ⟨0, by omega, rfl, k4, B4⟩
      case round =>
        clear k4 B4
        obtain ⟨k, hk, rfl, KV, HB⟩ := hrel
        obtain ⟨wo, rfl⟩ : ∃ wo : World, wo = wr := ⟨_, rfl⟩
        have kvlt := KV.lt
        by_cases hlt : k < m
        · have hq : decide ((k : Int) < (m : Int)) = true := by simp; omega
          have hne : (l[k]?.getD 0 == env) = false := by simpa using hno.out k hlt
          have hnx := Lib.hid (next_at A1 n c1 k (k + 1) (l[k]?.getD 0) l wo (R1.below HB) (by omega) (Nat.mod_eq_of_lt (by omega)) rfl)
          generalize l[k]?.getD 0 = y at *
          go_wp2_with (with_reducible refine wl_load rfl 96 _ rfl w1.heap.size rfl 96 (rv A1 n c1 k) _ KV Try.underlying96 rfl (size_v _ rfl) ?_)
          refine hnx.out.mono ?_
          rintro r w5 ⟨rfl, b5⟩
          have K5 := KV.below b5
          have HB5 := bl_then HB b5
          have z5 := b5.size
          go_wp2_with (first
            | ((with_reducible refine wl_alloc rfl 96 rfl (rv none 0 0 0) new_v ?_); intro w6 k6 b6 s6; have K6 := K5.below b6)
            | ((with_reducible refine wl_store rfl 96 _ _ rfl w5.heap.size rfl (rv A1 n c1 ((k + 1 : Nat) : Int)) rfl 96 (rv none 0 0 0) k6 (size_v _ rfl) rfl (one_v _ _ _ _) ?_); intro w7 k7 g7 s7; have K7 := K6.grown g7 (fun e => by injection e with e; omega))
            | (with_reducible refine wl_load rfl 96 _ rfl w5.heap.size rfl 96 (rv A1 n c1 ((k + 1 : Nat) : Int)) _ k7 Try.underlying96 rfl (size_v _ rfl) ?_)
            | ((with_reducible refine wl_store rfl 96 _ _ rfl w1.heap.size rfl (rv A1 n c1 ((k + 1 : Nat) : Int)) rfl 96 (rv A1 n c1 k) K7 (size_v _ rfl) rfl (one_v _ _ _ _) ?_); intro w8 k8 g8 s8))
          go_roundw
          case rel => exact ⟨k + 1, by omega, by go_num, k8, below_grown (below_grown (bl_then HB5 b6) (by have := HB5.size; have := b6.size; omega) g7 HB5.size) (by have := HB5.size; have := b6.size; omega) g8 (Nat.le_refl _)⟩
          case measure => first | (simp [intOf]; done) | (simp [intOf]; omega)
        · obtain rfl : k = m := by omega
          have hq : decide ((k : Int) < (k : Int)) = false := by simp
          have hnx := Lib.hid (next_at A1 n c1 k ((k + 1) % n) env l wo (R1.below HB) (by omega) rfl (hyes.out hmn))
          generalize (k + 1) % n = k' at *
          go_wp2_with (with_reducible refine wl_load rfl 96 _ rfl w1.heap.size rfl 96 (rv A1 n c1 k) _ KV Try.underlying96 rfl (size_v _ rfl) ?_)
          refine hnx.out.mono ?_
          rintro r w5 ⟨rfl, b5⟩
          have K5 := KV.below b5
          have HB5 := bl_then HB b5
          have z5 := b5.size
          go_wp2_with (first
            | ((with_reducible refine wl_alloc rfl 96 rfl (rv none 0 0 0) new_v ?_); intro w6 k6 b6 s6; have K6 := K5.below b6)
            | ((with_reducible refine wl_store rfl 96 _ _ rfl w5.heap.size rfl (rv A1 n c1 k') rfl 96 (rv none 0 0 0) k6 (size_v _ rfl) rfl (one_v _ _ _ _) ?_); intro w7 k7 g7 s7; have K7 := K6.grown g7 (fun e => by injection e with e; omega))
            | (with_reducible refine wl_load_on rfl 96 _ rfl w1.heap.size rfl 96 (rv A1 n c1 k) _ K7 Try.underlying96 rfl (size_v _ rfl) ?hop ?_))
          have HB7 := below_grown (bl_then HB5 b6) (by have := HB5.size; have := b6.size; omega) g7 HB5.size
          have hgt : decide (0 < (count l env n : Int)) = true := by have := hcp.out; simp; omega
          refine (share_at A1 n c1 k env _ l w7 (R1.below HB7) rfl).mono ?_
          rintro r w8 ⟨rfl, b8⟩
          go_wp2_with fail
          refine (awake_c _).mono ?_
          rintro r w9 ⟨rfl, b9⟩
          go_wp2
          go_ret
          exact ⟨rfl, bl_then b1 (bl_then (bl_then HB7 b8) b9)⟩
    · have hw1 : Hid (wN n m = 0) := Lib.hid (by simp [wN, hmn])
      have hw2 : Hid (wB n m = false) := Lib.hid (by simp [wB, hmn])
      have hc0 : Hid (count l env n = 0) := Lib.hid (by have := count_none l env (fun j hj => hno.out j (by rw [hlen.out] at hj; omega)); rwa [hlen.out] at this)
      go_wp2_with (first
        | ((with_reducible refine wl_alloc rfl 96 rfl (rv none 0 0 0) new_v ?_); intro w2 k2 b2 s2)
        | ((with_reducible refine wl_store rfl 96 _ _ rfl w1.heap.size rfl (rv A1 n c1 0) rfl 96 (rv none 0 0 0) k2 (size_v _ rfl) rfl (one_v _ _ _ _) ?_); intro w3 k3 g3 s3)
        | (with_reducible refine wl_load rfl 96 _ rfl w1.heap.size rfl 96 (rv A1 n c1 0) _ k3 Try.underlying96 rfl (size_v _ rfl) ?_))
      have B3 := below_grown b2 b2.size g3 (Nat.le_refl _)
      refine (hwait.out 0 false hw1.out hw2.out w3 (R1.below B3)).mono ?_
      rintro r w4 ⟨rfl, b4⟩
      have k4 := k3.below b4
      have B4 := bl_then B3 b4
      clear k2 b2 g3 k3 B3 b4
      go_wp2_with (first | (refine wl_load_on rfl 96 _ rfl w1.heap.size rfl 96 (rv A1 n c1 0) _ k4 Try.underlying96 rfl (size_v _ rfl) (by exact ⟨_, _, rfl, rfl, rfl⟩) ?_))
      refine (share_at A1 n c1 0 env 0 l w4 (R1.below B4) hc0.out).mono ?_
      rintro r w5 ⟨rfl, b5⟩
      go_wp2_with fail
      refine (awake_c _).mono ?_
      rintro r w6 ⟨rfl, b6⟩
      go_wp2
      go_ret
      exact ⟨rfl, bl_then b1 (bl_then (bl_then B4 b5) b6)⟩
  · clear hok
    go_wp2_with (first
      | ((with_reducible refine wl_alloc rfl 96 rfl (rv none 0 0 0) new_v ?_); intro w2 k2 b2 s2)
      | ((with_reducible refine wl_store rfl 96 _ _ rfl w1.heap.size rfl (rv none 0 0 0) rfl 96 (rv none 0 0 0) k2 (size_v _ rfl) rfl (one_v _ _ _ _) ?_); intro w3 k3 g3 s3)
      | (with_reducible refine wl_load rfl 96 _ rfl w1.heap.size rfl 96 (rv none 0 0 0) _ k3 Try.underlying96 rfl (size_v _ rfl) ?_))
    have B3 := below_grown b2 b2.size g3 (Nat.le_refl _)
    refine (wait_at none 0 0 0 env [] w3 (Rd.nil _ _ _) (by omega) (by omega) 0 0 false (by omega) (fun j hj => absurd hj (by omega)) (fun h => absurd h (by omega)) rfl rfl).mono ?_
    rintro r w4 ⟨rfl, b4⟩
    have k4 := k3.below b4
    have B4 := bl_then B3 b4
    clear k2 b2 g3 k3 B3 b4
    go_wp2_with (first | (refine wl_load_on rfl 96 _ rfl w1.heap.size rfl 96 (rv none 0 0 0) _ k4 Try.underlying96 rfl (size_v _ rfl) (by exact ⟨_, _, rfl, rfl, rfl⟩) ?_))
    refine (share_at none 0 0 0 env 0 [] w4 (Rd.nil _ _ _) rfl).mono ?_
    rintro r w5 ⟨rfl, b5⟩
    go_wp2_with fail
    refine (awake_c _).mono ?_
    rintro r w6 ⟨rfl, b6⟩
    go_wp2
    go_ret
    exact ⟨rfl, bl_then b1 (bl_then (bl_then B4 b5) b6)⟩

theorem walk (a0 : Option Addr) (len cap : Nat) (z : List Int) (a1 : Int) (w : World) (w0 : IsRow .i64 w a0 len cap z) (y0 : len * 8 ≤ 140737488351232) (w1 : (Lit.int .i64 a1).wf = true) :
    Calls Try.prog 10 #[.slice a0 len cap, .int .i64 a1] w fun e w' => e = .returned (.bool true) ∧ Below w.heap.size w w' := by
  obtain ⟨hr, hl, hm, hw⟩ := Rd.of_row w0
  exact main a0 len cap a1 (z.take len) w hr (row_none w0)
end Go.Proofs.Ytcomgmgmpmjnkaa.SlotsWait
