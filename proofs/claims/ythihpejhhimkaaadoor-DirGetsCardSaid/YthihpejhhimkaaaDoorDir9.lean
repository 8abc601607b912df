/- Contract of the eighth layer's reference: Of. -/
import Derived.Test.YthihpejhhimkaaaDoorDir8
set_option linter.unusedVariables false
namespace Go.Proofs.YthihpejhhimkaaaDoor.Dir9
open Go.RowKit Go.Proofs.YthihpejhhimkaaaDoor.Base Go.Proofs.YthihpejhhimkaaaDoor.Row Go.Proofs.YthihpejhhimkaaaDoor.App Go.Proofs.YthihpejhhimkaaaDoor.Multi Go.Proofs.YthihpejhhimkaaaDoor.StEq Go.Proofs.YthihpejhhimkaaaDoor.Held Go.Proofs.YthihpejhhimkaaaDoor.Out Go.Proofs.YthihpejhhimkaaaDoor.HeldW Go.Proofs.YthihpejhhimkaaaDoor.HeldX Go.Proofs.YthihpejhhimkaaaDoor.DiskMath Go.Proofs.YthihpejhhimkaaaDoor.Dir3 Go.Proofs.YthihpejhhimkaaaDoor.Dir4 Go.Proofs.YthihpejhhimkaaaDoor.Dir5

theorem rinfo_d : (Tryd.prog.info? 25).map (fun i => (i.zero, i.size, i.bytes)) = some (some (.agg (bc zb)), 64, 64) := by kernel_rfl
theorem rnew_d : (Tryd.prog.info? 25).map (fun i => i.zero.map (·.cells)) = some (some (bc zb)) := by kernel_rfl
theorem rsize_d : (Tryd.prog.info? 25).map (·.size) = some 64 := by kernel_rfl
theorem rsz_bc (x : Bk) : (Tryd.prog.info? 25).map (·.size) = some (bc x).size := by rw [bc_size]; exact rsize_d
theorem rzero_d : Tryd.prog.built 25 [] = some (bc zb) := by kernel_rfl
/-- The first k bytes, noughts behind. -/
def pre (xs : List Int) (k : Nat) : List Int := (List.range 64).map (fun i => if i < k then xs[i]?.getD 0 else 0)
def ofB (xs : List Int) : Bk := ⟨pre xs 64, by simp [pre]⟩
theorem pre_len (xs : List Int) (k : Nat) : (pre xs k).length = 64 := by simp [pre]
theorem pre_get (xs : List Int) (k i : Nat) (h : i < 64) : (pre xs k)[i]? = some (if i < k then xs[i]?.getD 0 else 0) := by
  unfold pre
  rw [List.getElem?_map, List.getElem?_range h]; rfl
theorem pre_zero (xs : List Int) : (nums .u8 (pre xs 0)).toArray = bc zb := by
  apply Array.ext_getElem?
  intro i
  rw [bc, List.getElem?_toArray, List.getElem?_toArray]
  rcases Nat.lt_or_ge i 64 with h | h
  · unfold bv nums
    rw [List.getElem?_map, List.getElem?_map, pre_get _ _ _ h]
    show _ = Option.map _ (List.replicate 64 (0 : Int))[i]?
    rw [List.getElem?_replicate, if_pos h]
    simp
  · rw [List.getElem?_eq_none (by rw [nums_length, pre_len]; exact h), List.getElem?_eq_none (by rw [bv_len]; exact h)]
theorem pre_set (xs : List Int) (k : Nat) : (nums .u8 (pre xs k)).toArray.setIfInBounds k (.int .u8 (xs[k]?.getD 0)) = (nums .u8 (pre xs (k + 1))).toArray := by
  apply Array.ext_getElem?
  intro i
  rw [Array.getElem?_setIfInBounds]
  rw [List.getElem?_toArray, List.getElem?_toArray, List.size_toArray, nums_length, pre_len]
  rcases Nat.lt_or_ge i 64 with h | h
  · unfold nums
    rw [List.getElem?_map, List.getElem?_map, pre_get _ _ _ h, pre_get _ _ _ h]
    by_cases hk : k = i
    · subst hk
      rw [if_pos rfl, if_pos h]
      simp
    · rw [if_neg hk]
      have e : (i < k + 1) = (i < k) := by rw [eq_iff_iff]; omega
      simp only [e]
  · have e1 : (nums .u8 (pre xs k))[i]? = none := List.getElem?_eq_none (by rw [nums_length, pre_len]; exact h)
    have e2 : (nums .u8 (pre xs (k + 1)))[i]? = none := List.getElem?_eq_none (by rw [nums_length, pre_len]; exact h)
    rw [e1, e2]
    by_cases hk : k = i
    · rw [if_pos hk, if_neg (by omega)]
    · rw [if_neg hk]
theorem pre_end (xs : List Int) (k : Nat) (h : k = 64 ∨ k = xs.length) : pre xs k = pre xs 64 := by
  unfold pre
  apply List.map_congr_left
  intro i hi
  rw [List.mem_range] at hi
  rw [if_pos hi]
  rcases h with rfl | rfl
  · rw [if_pos hi]
  · by_cases h2 : i < xs.length
    · rw [if_pos h2]
    · rw [if_neg h2, List.getElem?_eq_none (by omega)]; rfl
theorem pre_sz (xs : List Int) (k : Nat) : (nums .u8 (pre xs k)).toArray.size = 64 := by rw [List.size_toArray, nums_length, pre_len]

set_option maxRecDepth 100000 in
set_option maxHeartbeats 2000000 in
theorem of_c (A : Option Addr) (n c : Nat) (xs : List Int) (w : World) (hr : Rd w .u8 A n xs) :
    Calls Tryd.prog 8 #[.slice A n c] w fun r w' => r = .returned (.agg (bc (ofB xs))) ∧ Below w.heap.size w w' := by
  have hmx := hr.max
  have hln := Lib.hid hr.len
  go_enter Tryd.func8, Tryd.ntmps8
  go_wp2_with (first
    | (have _k := k1; (with_reducible refine wl_alloc rfl 25 rfl (bc zb) rnew_d ?_); intro w2 k2 b2 s2)
    | ((with_reducible refine wl_alloc rfl 25 rfl (bc zb) rnew_d ?_); intro w1 k1 b1 s1)
    | (refine wl_build0 rfl 25 rfl (bc zb) rzero_d ?_)
    | ((refine wl_store rfl 25 _ _ rfl w1.heap.size rfl (bc zb) rfl 25 (bc zb) k2 (rsz_bc _) rfl (bc_one _) ?_); intro w3 k3 g3 s3))
  have K1 := (k1.below b2).grown g3 (fun e => by injection e with e; omega)
  have B3 := below_grown (bl_then b1 b2) (by have := b1.size; have := b2.size; omega) g3 (by omega)
  have z1 := k1.lt
  rw [← pre_zero xs] at k3
  clear k1 k2 b1 b2 g3
  go_loopw [4] (fun i wr => ∃ k : Nat, k ≤ n ∧ k ≤ 64 ∧ i = .int .i64 k ∧ Blk wr w1.heap.size 25 (nums .u8 (pre xs k)).toArray ∧ Blk wr w.heap.size 25 (bc zb) ∧ Below w.heap.size w wr) (fun i _ => 64 - (intOf i).toNat)
  case atStart => exact ⟨0, by omega, by omega, rfl, k3, K1, B3⟩
  case round =>
    clear K1 B3 k3
    obtain ⟨k, hk, hk2, rfl, KX, KR, HB⟩ := hrel
    obtain ⟨wo, rfl⟩ : ∃ wo : World, wo = wr := ⟨_, rfl⟩
    have hstop : (k < n ∧ k < 64) ∨ ((decide ((k : Int) < (n : Int)) = false ∧ (k = 64 ∨ k = xs.length)) ∨ (decide ((k : Int) < (n : Int)) = true ∧ decide ((k : Int) < 64) = false ∧ decide (k < 64) = false ∧ (k = 64 ∨ k = xs.length))) := by
      have := hln.out
      by_cases h1 : k < n
      · by_cases h2 : k < 64
        · exact .inl ⟨h1, h2⟩
        · exact .inr (.inr ⟨by simp; omega, by simp; omega, by simp; omega, by omega⟩)
      · exact .inr (.inl ⟨by simp; omega, by omega⟩)
    rcases hstop with ⟨hlt, hlt2⟩ | hstop
    · have hq : decide ((k : Int) < (n : Int)) = true := by simp; omega
      have hq2 : decide ((k : Int) < 64) = true := by simp; omega
      have hq3 : (k : Int) < (n : Int) := by omega
      have hq4 : (k : Int) < 64 := by omega
      obtain ⟨ad, rfl, c0⟩ := (hr.below HB).at_ k hlt
      have hps := Lib.hid (pre_set xs k)
      generalize xs[k]?.getD 0 = v at *
      go_wp2_with (first
        | ((refine wl_set rfl 5 _ _ rfl w1.heap.size k rfl (.int .u8 v) rfl rfl 25 (nums .u8 (pre xs k)).toArray KX (by kernel_rfl) (by rw [pre_sz]; exact hlt2) ?_); intro w3 k3 g3 s3))
      rw [hps.out] at k3
      go_roundw
      case rel => exact ⟨k + 1, by omega, by omega, by go_num, k3, KR.grown g3 (fun e => by injection e with e; omega), below_grown HB HB.size g3 (by omega)⟩
      case measure => first | (simp [intOf]; done) | (simp [intOf]; omega)
    · have hfin : Hid (pre xs k = pre xs 64) := Lib.hid (by rcases hstop with h | h; exact pre_end xs k h.2; exact pre_end xs k h.2.2.2)
      rw [hfin.out] at KX
      have KX' : Blk wo w1.heap.size 25 (bc (ofB xs)) := KX
      clear KX
      rcases hstop with ⟨q1, q3⟩ | ⟨q1, q2, q4, q3⟩
      · have q5 : n ≤ k := by have h := of_decide_eq_false q1; omega
        clear q3 hfin
        go_wp2_with (first
          | (refine wl_load rfl 25 (.tmp 3) rfl w1.heap.size rfl 25 (bc (ofB xs)) _ KX' Tryd.underlying25 rfl (rsz_bc _) ?_)
          | (refine at_none rfl ?_; refine wl_store rfl 25 (.tmp 2) (.tmp 22) rfl w.heap.size rfl (bc (ofB xs)) rfl 25 (bc zb) KR (rsz_bc _) (by rw [bc_size, bc_size]) (bc_one _) ?_; intro w3 k3 g3 s3))
        refine bodyPost_ret (res_cell rfl _ _ _ w.heap.size 25 (bc (ofB xs)) _ rfl k3 Tryd.underlying25 rfl (rsz_bc _)) rfl ⟨rfl, below_grown HB HB.size g3 (Nat.le_refl _)⟩
      · have h64 : k = 64 := by have h := of_decide_eq_false q4; omega
        subst h64
        have q5 : 64 < n := by have h := of_decide_eq_true q1; omega
        have q6 : decide (64 < n) = true := by simpa using q5
        have q7 : (64 : Int) < (n : Int) := by omega
        have q8 : decide ((64 : Int) < (n : Int)) = true := by simpa using q7
        clear q1 q2 q3 q4 hfin hk hk2
        go_wp2_with (first
          | (refine wl_load rfl 25 (.tmp 3) rfl w1.heap.size rfl 25 (bc (ofB xs)) _ KX' Tryd.underlying25 rfl (rsz_bc _) ?_)
          | (refine at_none rfl ?_; refine wl_store rfl 25 (.tmp 2) (.tmp 22) rfl w.heap.size rfl (bc (ofB xs)) rfl 25 (bc zb) KR (rsz_bc _) (by rw [bc_size, bc_size]) (bc_one _) ?_; intro w3 k3 g3 s3))
        refine bodyPost_ret (res_cell rfl _ _ _ w.heap.size 25 (bc (ofB xs)) _ rfl k3 Tryd.underlying25 rfl (rsz_bc _)) rfl ⟨rfl, below_grown HB HB.size g3 (Nat.le_refl _)⟩

end Go.Proofs.YthihpejhhimkaaaDoor.Dir9
