/- Contracts of the reference's state of layer 7. -/
import Derived.Test.YtcomgmgmpmjnkaaClock2
import Derived.Test.YtcomgmgmpmjnkaaFlat
import Derived.StillTailTactics
set_option linter.unusedVariables false
namespace Go.Proofs.Ytcomgmgmpmjnkaa.Clock3
open Go.RowKit Go.Proofs.Ytcomgmgmpmjnkaa.Base Go.Proofs.Ytcomgmgmpmjnkaa.Row Go.Proofs.Ytcomgmgmpmjnkaa.Clock Go.Proofs.Ytcomgmgmpmjnkaa.Clock2

theorem chain4 : ∀ a b c d : Bool, a = true ∨ (a = false ∧ b = true) ∨ (a = false ∧ b = false ∧ c = true) ∨ (a = false ∧ b = false ∧ c = false ∧ d = true) ∨ (a = false ∧ b = false ∧ c = false ∧ d = false) := by decide
theorem spB_b (e n : Int) : spB e n = (!(decide (e < 0)) && (!(decide (15 < e)) && (!(decide (n < 0)) && !(decide (4096 < n))))) := by
  unfold spB
  rw [Bool.eq_iff_iff]
  simp
  omega
theorem size_i : (Try.prog.info? 3).map (·.size) = some 1 := by kernel_rfl
theorem size_b : (Try.prog.info? 4).map (·.size) = some 1 := by kernel_rfl
theorem size_u : (Try.prog.info? 22).map (·.size) = some 1 := by kernel_rfl
set_option maxRecDepth 100000 in
set_option maxHeartbeats 1000000 in
theorem rspend_c (g : Nat) (t : Int) (S : List Int) (a : Int) (b : Bool) (e n : Int) (w : World) (h : St w g t S a b) (hl : S.length = 16) :
    Calls Try.prog 18 #[.pointer (some ⟨g, 0, none⟩), .int .i64 e, .int .i64 n] w fun r w' => r = .returned (.bool (spB e n)) ∧ St w' g t (pSpend S e n) a b ∧ w.grownBy w' (some g) := by
  have hh := Lib.hid h
  have hb := Lib.hid (spB_b e n)
  rcases chain4 (decide (e < 0)) (decide (15 < e)) (decide (n < 0)) (decide (4096 < n)) with q1 | ⟨q1, q2⟩ | ⟨q1, q2, q3⟩ | ⟨q1, q2, q3, q4⟩ | ⟨q1, q2, q3, q4⟩
  · have hr : Hid (spB e n = false ∧ pSpend S e n = S) := Lib.hid (by
      have : spB e n = false := by rw [hb.out, q1]; rfl
      exact ⟨this, by simp [pSpend, this]⟩)
    rw [hr.out.1, hr.out.2]
    clear h hr hb
    go_enter Try.func18, Try.ntmps18
    go_wp2
    go_ret
    exact ⟨rfl, hh.out, World.grownBy.refl _ _⟩
  · have hr : Hid (spB e n = false ∧ pSpend S e n = S) := Lib.hid (by
      have : spB e n = false := by rw [hb.out, q1, q2]; rfl
      exact ⟨this, by simp [pSpend, this]⟩)
    rw [hr.out.1, hr.out.2]
    clear h hr hb
    go_enter Try.func18, Try.ntmps18
    go_wp2
    go_ret
    exact ⟨rfl, hh.out, World.grownBy.refl _ _⟩
  · have hr : Hid (spB e n = false ∧ pSpend S e n = S) := Lib.hid (by
      have : spB e n = false := by rw [hb.out, q1, q2, q3]; rfl
      exact ⟨this, by simp [pSpend, this]⟩)
    rw [hr.out.1, hr.out.2]
    clear h hr hb
    go_enter Try.func18, Try.ntmps18
    go_wp2
    go_ret
    exact ⟨rfl, hh.out, World.grownBy.refl _ _⟩
  · have hr : Hid (spB e n = false ∧ pSpend S e n = S) := Lib.hid (by
      have : spB e n = false := by rw [hb.out, q1, q2, q3, q4]; rfl
      exact ⟨this, by simp [pSpend, this]⟩)
    rw [hr.out.1, hr.out.2]
    clear h hr hb
    go_enter Try.func18, Try.ntmps18
    go_wp2
    go_ret
    exact ⟨rfl, hh.out, World.grownBy.refl _ _⟩
  · have p1 := of_decide_eq_false q1
    have p2 := of_decide_eq_false q2
    obtain ⟨k, rfl⟩ : ∃ k : Nat, e = k := ⟨e.toNat, by omega⟩
    have hk : k < 16 := by omega
    have hr : Hid (spB k n = true ∧ pSpend S k n = S.set k (wrap64 (S[k]?.getD 0 + n))) := Lib.hid (by
      have : spB k n = true := by rw [hb.out, q1, q2, q3, q4]; rfl
      exact ⟨this, by simp [pSpend, this]⟩)
    rw [hr.out.1, hr.out.2]
    have c := Blk.cellv h (1 + k) _ (sc_get t S a b k (by omega))
    have hset := Lib.hid (fun v => sc_set t S a b k v (by omega))
    have hsz : Hid (1 + k < (sc t S a b).size) := Lib.hid (by rw [sc_size _ _ _ _ hl]; omega)
    generalize S[k]?.getD 0 = v at *
    have q5 : (k : Int) < 16 := by omega
    clear h hr hb p1 p2
    go_enter Try.func18, Try.ntmps18
    go_wp2_with fail
    refine wp_region_still_tail 13 (by kernel_rfl) (by kernel_rfl) ?_
    simp only [List.take_succ_cons, List.take_zero, List.drop_succ_cons, List.drop_zero]
    repeat still_step
    refine wpStill_nil ?_
    change wpList _ _ _ _ _ w.drew
    refine wl_set rfl 3 (.tmp 33) (.tmp 30) rfl g (1 + k) rfl (.int .i64 (IntKind.i64.wrap (v + n))) rfl rfl 52 (sc t S a b) hh.out.drew size_i hsz.out ?_
    intro w1 k1 g1 s1
    rw [hset.out, show IntKind.i64.wrap (v + n) = wrap64 (v + n) from by rw [IntKind.wrap_i64]; unfold wrap64; omega] at k1
    go_wp2
    go_ret
    exact ⟨rfl, k1, World.grownBy.trans (grown_of_below (bl_drew (bl_refl w)) _) g1⟩
set_option maxRecDepth 100000 in
theorem rof_c (g : Nat) (t : Int) (S : List Int) (a : Int) (b : Bool) (e : Int) (w : World) (h : St w g t S a b) (hl : S.length = 16) :
    Calls Try.prog 20 #[.pointer (some ⟨g, 0, none⟩), .int .i64 e] w fun r w' => r = .returned (.int .i64 (pOf S e)) ∧ w = w' := by
  rcases chain4 (decide (e < 0)) (decide (15 < e)) false false with q1 | ⟨q1, q2⟩ | ⟨q1, q2, q3⟩ | ⟨q1, q2, q3, q4⟩ | ⟨q1, q2, _, _⟩
  · have hr : Hid (pOf S e = 0) := Lib.hid (by
      have := of_decide_eq_true q1
      unfold pOf inB
      rw [if_neg (by simp; omega)])
    rw [hr.out]
    clear h hr
    go_enter Try.func20, Try.ntmps20
    go_wp2
    go_ret
    exact ⟨rfl, rfl⟩
  · have hr : Hid (pOf S e = 0) := Lib.hid (by
      have := of_decide_eq_true q2
      unfold pOf inB
      rw [if_neg (by simp; omega)])
    rw [hr.out]
    clear h hr
    go_enter Try.func20, Try.ntmps20
    go_wp2
    go_ret
    exact ⟨rfl, rfl⟩
  · cases q3
  · cases q4
  · have p1 := of_decide_eq_false q1
    have p2 := of_decide_eq_false q2
    obtain ⟨k, rfl⟩ : ∃ k : Nat, e = k := ⟨e.toNat, by omega⟩
    have hk : k < 16 := by omega
    have hr : Hid (pOf S k = S[k]?.getD 0) := Lib.hid (by
      unfold pOf inB
      rw [if_pos (by simp; omega), Int.toNat_natCast])
    rw [hr.out]
    have c := Blk.cellv h (1 + k) _ (sc_get t S a b k (by omega))
    generalize S[k]?.getD 0 = v at *
    have q5 : (k : Int) < 16 := by omega
    clear h hr p1 p2
    go_enter Try.func20, Try.ntmps20
    go_wp2
    go_ret
    exact ⟨rfl, rfl⟩
set_option maxRecDepth 100000 in
theorem rdue_c (g : Nat) (t : Int) (S : List Int) (a : Int) (b : Bool) (y : Int) (w : World) (h : St w g t S a b) (hl : S.length = 16) :
    Calls Try.prog 21 #[.pointer (some ⟨g, 0, none⟩), .int .u64 y] w fun r w' => r = .returned (.bool (goes b a y)) ∧ St w' g t S a (b && !goes b a y) ∧ w.grownBy w' (some g) := by
  have hh := Lib.hid h
  have cb := Blk.cellv h 18 _ (sc_b t S a b hl)
  have ca := Blk.cellv h 17 _ (sc_at t S a b hl)
  have hsz : Hid (18 < (sc t S a b).size) := Lib.hid (by rw [sc_size _ _ _ _ hl]; omega)
  have hset := Lib.hid (sc_setb t S a b false hl)
  clear h
  cases b with
  | false =>
    go_enter Try.func21, Try.ntmps21
    go_wp2
    go_ret
    exact ⟨rfl, hh.out, World.grownBy.refl _ _⟩
  | true =>
    by_cases hy : y < a
    · have q : decide (y < a) = true := by simpa using hy
      have hg : Hid (goes true a y = false) := Lib.hid (by simp [goes]; omega)
      rw [hg.out]
      clear hy hg
      go_enter Try.func21, Try.ntmps21
      go_wp2
      go_ret
      exact ⟨rfl, hh.out, World.grownBy.refl _ _⟩
    · have q : decide (y < a) = false := by simpa using hy
      have hg : Hid (goes true a y = true) := Lib.hid (by simp [goes]; omega)
      rw [hg.out]
      clear hy hg
      go_enter Try.func21, Try.ntmps21
      go_wp2_with ((refine wl_set rfl 4 _ _ rfl g 18 rfl (.bool false) rfl rfl 52 (sc t S a true) hh.out size_b hsz.out ?_); intro w1 k1 g1 s1)
      rw [hset.out] at k1
      go_ret
      exact ⟨rfl, k1, g1⟩
end Go.Proofs.Ytcomgmgmpmjnkaa.Clock3
