/- Contracts of package frames: the law's page, and nil memories. -/
import Derived.Test.YtdokmnpkihmkpaaFrames2
set_option linter.unusedVariables false
namespace Go.Proofs.Ytdokmnpkihmkpaa.Frames3
open Go.RowKit Go.Proofs.Ytdokmnpkihmkpaa.Base Go.Proofs.Ytdokmnpkihmkpaa.Row Go.Proofs.Ytdokmnpkihmkpaa.Frames Go.Proofs.Ytdokmnpkihmkpaa.Frames2

/-- The law's page of a word, its first k words laid. -/
def ramp (v : Int) (k : Nat) : List Int := (List.range 16).map fun j => if j < k then IntKind.u32.wrap (v + j) else 0
theorem ramp_len (v : Int) (k : Nat) : (ramp v k).length = 16 := by simp [ramp]
theorem ramp_zero (v : Int) : ramp v 0 = z16 := by simp [ramp]; rfl
theorem ramp_set (v : Int) (k : Nat) (hk : k < 16) : (ramp v k).set k (IntKind.u32.wrap (v + k)) = ramp v (k + 1) := by
  apply List.ext_getElem?
  intro i
  rw [List.getElem?_set]
  unfold ramp
  simp only [List.getElem?_map, List.length_map, List.length_range]
  by_cases h : k = i
  · subst h
    rw [if_pos rfl, if_pos hk]
    simp [hk]
  · rw [if_neg h]
    rcases Nat.lt_or_ge i 16 with h2 | h2
    · rw [List.getElem?_range h2]
      simp only [Option.map_some]
      congr 1
      by_cases h3 : i < k
      · rw [if_pos h3, if_pos (by omega)]
      · rw [if_neg h3, if_neg (by omega)]
    · rw [List.getElem?_eq_none (by simpa using h2)]; rfl

set_option maxRecDepth 100000 in
set_option maxHeartbeats 2000000 in
theorem page_c (v : Int) (w : World) :
    Calls Try.prog 27 #[.int .u32 v] w fun r w' => r = .returned (.agg (pg (ramp v 16))) ∧ Below w.heap.size w w' := by
  have hz := Lib.hid (ramp_zero v)
  go_enter Try.func27, Try.ntmps27
  go_wp2_with (first
    | ((with_reducible refine wl_alloc rfl 40 rfl (pg z16) new_p ?_); first | (have _t := k1; clear _t; intro w2 k2 b2 s2) | (intro w1 k1 b1 s1)))
  rw [← hz.out] at k2
  go_loopw [4] (fun i wr => ∃ (k : Nat), k ≤ 16 ∧ i = .int .i64 k ∧ Blk wr w1.heap.size 40 (pg (ramp v k)) ∧ Below w1.heap.size w1 wr) (fun i _ => 16 - (intOf i).toNat)
  case atStart => exact ⟨0, by omega, rfl, k2, b2⟩
  case round =>
    obtain ⟨k, hk, rfl, K, B⟩ := hrel
    by_cases hlt : k < 16
    · have hq : decide ((k : Int) < 16) = true := by simp; omega
      have hs := Lib.hid (ramp_set v k hlt)
      have q1 : (k : Int) < 16 := by omega
      have wk : IntKind.u32.wrap (k : Int) = k := by rw [IntKind.wrap_u32']; omega
      go_wp2_with (first
        | ((refine wl_set (by rfl) 28 _ _ (by rfl) w1.heap.size k (by rfl) (.int .u32 (IntKind.u32.wrap (v + k))) (by rfl) rfl 40 (pg (ramp v k)) K size_u32 (by rw [pg_size, ramp_len]; exact hlt) ?_); intro w4 k4 g4 s4))
      rw [pg_set, hs.out] at k4
      have B4 := below_grown B B.size g4 (Nat.le_refl _)
      go_wp2_with fail
      go_roundw
      case rel => exact ⟨k + 1, by omega, by simp, k4, B4⟩
      case measure => first | (simp [intOf]; done) | (simp [intOf]; omega)
    · have hq : decide ((k : Int) < 16) = false := by simp; omega
      have hk16 : k = 16 := by omega
      subst hk16
      have k1' := k1.below B
      go_wp2_with (first
        | (refine wl_load (by rfl) 40 _ (by rfl) w1.heap.size (by rfl) 40 (pg (ramp v 16)) _ K Try.underlying40 rfl (size_pg _ (ramp_len v 16)) ?_)
        | ((refine wl_store (by rfl) 40 _ _ (by rfl) w.heap.size (by rfl) (pg (ramp v 16)) (by rfl) 40 (pg z16) k1' (size_pg _ (ramp_len v 16)) (by rw [pg_size, pg_size, ramp_len]; rfl) (pg_one _) ?_); intro w3 k3 g3 s3))
      refine bodyPost_ret (res_cell rfl _ _ _ w.heap.size 40 (pg (ramp v 16)) _ rfl k3 Try.underlying40 rfl (size_pg _ (ramp_len v 16))) rfl ⟨rfl, ?_⟩
      exact below_grown (bl_thenB b1 b1.size B) (by have := b1.size; have := B.size; omega) g3 (Nat.le_refl _)
set_option maxRecDepth 100000 in
theorem twin_nil (w : World) : Calls Try.prog 21 #[.pointer none] w fun r w' => r = .returned (.pointer none) ∧ w = w' := by
  go_enter Try.func21, Try.ntmps21
  go_wp2
  go_ret
  exact ⟨rfl, rfl⟩
set_option maxRecDepth 100000 in
theorem others_nil (w : World) : Calls Try.prog 22 #[.pointer none, .pointer none, .slice none 0 0] w fun r w' => r = .returned (.bool true) ∧ w = w' := by
  have hN := Lib.hid (len_nil w)
  go_enter Try.func22, Try.ntmps22
  go_wp2_with fail
  go_step3
  go_wp2_with fail
  refine (hN.out).mono ?_
  rintro r w1 ⟨rfl, rfl⟩
  go_wp2_with fail
  refine (hN.out).mono ?_
  rintro r w1 ⟨rfl, rfl⟩
  go_wp2_with fail
  go_step3
  go_wp2_with fail
  refine (hN.out).mono ?_
  rintro r w1 ⟨rfl, rfl⟩
  go_wp2_with fail
  go_loopw [17] (fun i wr => i = .int .i64 0 ∧ w = wr) (fun _ _ => 0)
  case atStart => exact ⟨rfl, rfl⟩
  case round =>
    obtain ⟨rfl, rfl⟩ := hrel
    go_wp2
    try rw [Exit.noGoto_ret]
    go_ret
    exact ⟨rfl, rfl⟩
end Go.Proofs.Ytdokmnpkihmkpaa.Frames3
