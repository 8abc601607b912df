/- Contracts of package tlb: where an entry stands, an entry taken out. -/
import Derived.Test.YtdokmnpkihmkpaaTlbMath
import Derived.Test.YtdokmnpkihmkpaaProg
import Derived.Lib.SliceRun
import Derived.Lib.Walk
import Derived.StillTailTactics
set_option linter.unusedVariables false
namespace Go.Proofs.Ytdokmnpkihmkpaa.Tlb
open Go.RowKit Go.Proofs.Ytdokmnpkihmkpaa.Base Go.Proofs.Ytdokmnpkihmkpaa.Row Go.Proofs.Ytdokmnpkihmkpaa.App Go.Proofs.Ytdokmnpkihmkpaa.Multi Go.Proofs.Ytdokmnpkihmkpaa.TlbMath

theorem chain2 : ∀ a b : Bool, a = false ∨ (a = true ∧ b = false) ∨ (a = true ∧ b = true) := by decide
def Tl (w : World) (g : Nat) (l : List En) (m : Int) : Prop := Blk w g 55 (tc l m)
theorem size_e : (Try.prog.info? 52).map (·.size) = some 4 := by kernel_rfl
theorem size_i : (Try.prog.info? 3).map (·.size) = some 1 := by kernel_rfl
theorem size_ea (x : En) : (Try.prog.info? 52).map (·.size) = some (ea x).size := by kernel_rfl
theorem new_e : (Try.prog.info? 52).map (fun i => i.zero.map (·.cells)) = some (some (ea ez)) := by kernel_rfl
theorem range4 {w : World} {g o : Nat} {x : En} (h : w.rangeAt g o (ev x)) : w.cell? ⟨g, o, none⟩ = some (.int .i64 x.s) ∧ w.cell? ⟨g, o + 1, none⟩ = some (.int .i64 x.p) ∧ w.cell? ⟨g, o + 2, none⟩ = some (.int .i64 x.f) ∧ w.cell? ⟨g, o + 3, none⟩ = some (.bool x.w) :=
  ⟨h 0 _ rfl, h 1 _ rfl, h 2 _ rfl, h 3 _ rfl⟩
theorem tl_rf {w : World} {g : Nat} {l : List En} {m : Int} (h : Tl w g l m) (hl : l.length ≤ 8) : RF ev 4 w (some ⟨g, 0, none⟩) l.length l :=
  ⟨rfl, by omega, fun _ => ⟨g, 0, rfl, fun i x hx j v hv => by
    rw [Nat.zero_add]
    exact Blk.cellv h _ _ (tc_at m i x (pad_at hx) j v hv)⟩⟩
theorem tl_at {w : World} {g : Nat} {l : List En} {m : Int} (h : Tl w g l m) {i : Nat} {x : En} (hx : l[i]? = some x) : w.rangeAt g (i * 4) (ev x) := fun j v hv => Blk.cellv h _ _ (tc_at m i x (pad_at hx) j v hv)

set_option maxRecDepth 100000 in
theorem pg_c (x : En) (s p : Int) (b1 b2 : Nat) (w : World) (h1 : w.cell? ⟨b1, 0, none⟩ = some (.int .i64 s)) (h2 : w.cell? ⟨b2, 0, none⟩ = some (.int .i64 p)) :
    Calls Try.prog 74 #[.agg (ea x), .pointer (some ⟨b1, 0, none⟩), .pointer (some ⟨b2, 0, none⟩)] w fun r w' => r = .returned (.bool (pg s p x)) ∧ Below w.heap.size w w' := by
  obtain ⟨xs, xp, xf, xw⟩ := x
  have hm : Hid (pg s p ⟨xs, xp, xf, xw⟩ = (xs == s && xp == p)) := Lib.hid rfl
  have B1 := bl_alloc (bl_refl w) (.cells (ea ⟨xs, xp, xf, xw⟩) 52)
  have h1 := bl_cell B1 h1
  have h2 := bl_cell B1 h2
  simp only [ea] at h1 h2 B1 ⊢
  rcases chain2 (xs == s) (xp == p) with q | ⟨q1, q⟩ | ⟨q1, q⟩
  all_goals (
    go_enter Try.func74, Try.ntmps74
    go_wp2
    go_ret
    refine ⟨ret_bool ?_, B1⟩
    rw [hm.out]
    simp only [Bool.true_and, Bool.false_and, *])
set_option maxRecDepth 100000 in
theorem dpg_c (x : En) (s p : Int) (b1 b2 : Nat) (w : World) (h1 : w.cell? ⟨b1, 0, none⟩ = some (.int .i64 s)) (h2 : w.cell? ⟨b2, 0, none⟩ = some (.int .i64 p)) :
    Calls Try.prog 65 #[.agg (ea x), .pointer (some ⟨b1, 0, none⟩), .pointer (some ⟨b2, 0, none⟩)] w fun r w' => r = .returned (.bool (isK 2 s p x)) ∧ Below w.heap.size w w' := by
  obtain ⟨xs, xp, xf, xw⟩ := x
  have hm : Hid (isK 2 s p ⟨xs, xp, xf, xw⟩ = (xs == s && xp == p)) := Lib.hid (by simp [isK])
  have B1 := bl_alloc (bl_refl w) (.cells (ea ⟨xs, xp, xf, xw⟩) 52)
  have h1 := bl_cell B1 h1
  have h2 := bl_cell B1 h2
  simp only [ea] at h1 h2 B1 ⊢
  rcases chain2 (xs == s) (xp == p) with q | ⟨q1, q⟩ | ⟨q1, q⟩
  all_goals (
    go_enter Try.func65, Try.ntmps65
    go_wp2
    go_ret
    refine ⟨ret_bool ?_, B1⟩
    rw [hm.out]
    simp only [Bool.true_and, Bool.false_and, *])
set_option maxRecDepth 100000 in
theorem dfr_c (x : En) (f : Int) (b1 : Nat) (w : World) (h1 : w.cell? ⟨b1, 0, none⟩ = some (.int .i64 f)) :
    Calls Try.prog 63 #[.agg (ea x), .pointer (some ⟨b1, 0, none⟩)] w fun r w' => r = .returned (.bool (isK 0 f 0 x)) ∧ Below w.heap.size w w' := by
  obtain ⟨xs, xp, xf, xw⟩ := x
  have hm : Hid (isK 0 f 0 ⟨xs, xp, xf, xw⟩ = (xf == f)) := Lib.hid (by simp [isK])
  have B1 := bl_alloc (bl_refl w) (.cells (ea ⟨xs, xp, xf, xw⟩) 52)
  have h1 := bl_cell B1 h1
  simp only [ea] at h1 B1 ⊢
  go_enter Try.func63, Try.ntmps63
  go_wp2
  go_ret
  exact ⟨ret_bool hm.out.symm, B1⟩
set_option maxRecDepth 100000 in
theorem dsp_c (x : En) (f : Int) (b1 : Nat) (w : World) (h1 : w.cell? ⟨b1, 0, none⟩ = some (.int .i64 f)) :
    Calls Try.prog 64 #[.agg (ea x), .pointer (some ⟨b1, 0, none⟩)] w fun r w' => r = .returned (.bool (isK 1 f 0 x)) ∧ Below w.heap.size w w' := by
  obtain ⟨xs, xp, xf, xw⟩ := x
  have hm : Hid (isK 1 f 0 ⟨xs, xp, xf, xw⟩ = (xs == f)) := Lib.hid (by simp [isK])
  have B1 := bl_alloc (bl_refl w) (.cells (ea ⟨xs, xp, xf, xw⟩) 52)
  have h1 := bl_cell B1 h1
  simp only [ea] at h1 B1 ⊢
  go_enter Try.func64, Try.ntmps64
  go_wp2
  go_ret
  exact ⟨ret_bool hm.out.symm, B1⟩

def wI (n m : Nat) : Int := if m < n then (m : Int) else -1
set_option maxRecDepth 100000 in
set_option maxHeartbeats 1000000 in
theorem index_c (A : Option Addr) (n c : Nat) (l : List En) (s p : Int) (b1 b2 : Nat) (w : World) (hr : RF ev 4 w A n l)
    (h1 : w.cell? ⟨b1, 0, none⟩ = some (.int .i64 s)) (h2 : w.cell? ⟨b2, 0, none⟩ = some (.int .i64 p)) :
    Calls Try.prog 73 #[.slice A n c, .func (.func 74) #[] #[.pointer (some ⟨b1, 0, none⟩), .pointer (some ⟨b2, 0, none⟩)]] w fun r w' => r = .returned (.int .i64 (wI n (at_ l s p))) ∧ Below w.heap.size w w' := by
  have hmx := hr.max
  have hlen := Lib.hid hr.len
  have hle := Lib.hid (at_le l s p)
  have hH := Lib.hid (fun (x : En) (w' : World) (hb : Below w.heap.size w w') => pg_c x s p b1 b2 w' (bl_cell hb h1) (bl_cell hb h2))
  clear h1 h2
  go_enter Try.func73, Try.ntmps73
  go_wp2
  go_loopw [8] (fun i wr => ∃ j : Nat, j ≤ at_ l s p ∧ i = .int .i64 j ∧ Below w.heap.size w wr) (fun i _ => n - (intOf i).toNat)
  case atStart => exact ⟨0, by omega, rfl, bl_refl _⟩
  case round =>
    obtain ⟨j, hj, rfl, HB⟩ := hrel
    obtain ⟨wo, rfl⟩ : ∃ wo : World, wo = wr := ⟨_, rfl⟩
    by_cases hlt : j < n
    · have hq : decide ((j : Int) < (n : Int)) = true := by simp; omega
      obtain ⟨g, o, x, rfl, hx, hcells⟩ := (hr.below HB).at_ j hlt
      obtain ⟨c0, c1, c2, c3⟩ := range4 hcells
      have hx' := Lib.hid hx
      clear hx hcells
      cases hh : pg s p x with
      | true =>
        have hfin : Hid (j = at_ l s p) := Lib.hid (by
          rcases Nat.lt_or_ge j (at_ l s p) with h | h
          · have := at_no j x h hx'.out
            rw [this] at hh; cases hh
          · omega)
        have hC := Lib.hid (hH.out x wo HB)
        rw [hh] at hC
        clear hh
        go_wp2_with fail
        refine (hC.out).mono ?_
        rintro r w1 ⟨rfl, bx⟩
        go_wp2
        go_ret
        refine ⟨ret_int ?_, bl_then HB bx⟩
        rw [← hfin.out]
        simp [wI, hlt]
      | false =>
        have hfin : Hid (j + 1 ≤ at_ l s p) := Lib.hid (by
          rcases Nat.lt_or_ge j (at_ l s p) with h | h
          · exact h
          · have e1 : j = at_ l s p := by omega
            have := at_yes (l := l) (s := s) (p := p) x (by rw [← e1]; exact hx'.out)
            rw [this] at hh; cases hh)
        have hC := Lib.hid (hH.out x wo HB)
        rw [hh] at hC
        clear hh
        go_wp2_with fail
        refine (hC.out).mono ?_
        rintro r w1 ⟨rfl, bx⟩
        go_wp2
        go_roundw
        case rel => exact ⟨j + 1, hfin.out, by go_num, bl_then HB bx⟩
        case measure => first | (simp [intOf]; done) | (simp [intOf]; omega)
    · have hq : decide ((j : Int) < (n : Int)) = false := by simp; omega
      have hfin : Hid (at_ l s p = n) := Lib.hid (by have := hle.out; have := hlen.out; omega)
      go_wp2
      go_ret
      refine ⟨ret_int ?_, HB⟩
      rw [hfin.out]
      simp [wI]

set_option maxRecDepth 100000 in
set_option maxHeartbeats 1000000 in
theorem find_c (g : Nat) (l : List En) (m s p : Int) (w : World) (h : Tl w g l m) (hl : l.length ≤ 8) :
    Calls Try.prog 59 #[.pointer (some ⟨g, 0, none⟩), .int .i64 s, .int .i64 p] w fun r w' => r = .returned (.int .i64 (wI l.length (at_ l s p))) ∧ Below w.heap.size w w' := by
  have hh := Lib.hid h
  have hn := Lib.hid hl
  have q1 : (0 : Int) ≤ (l.length : Int) := by omega
  have q2 : (l.length : Int) ≤ 8 := by omega
  clear h
  go_enter Try.func59, Try.ntmps59
  go_wp2_with (first
    | ((with_reducible refine wl_box rfl 3 _ rfl (#[.int .i64 s]) rfl ?_); first | (have _z := k1; clear _z; fail) | (intro w1 k1 b1 s1))
    | ((with_reducible refine wl_box rfl 3 _ rfl (#[.int .i64 p]) rfl ?_); intro w2 k2 b2 s2))
  have hB := bl_then b1 b2
  have h2 : Tl w2 g l m := hh.out.below hB
  have c := Blk.cellv h2 32 _ (tc_n hl m)
  have f1 : w2.drew.cell? ⟨w.heap.size, 0, none⟩ = some (.int .i64 s) := (k1.below b2).drew.cellv 0 _ rfl
  have f2 : w2.drew.cell? ⟨w1.heap.size, 0, none⟩ = some (.int .i64 p) := k2.drew.cellv 0 _ rfl
  have hI := Lib.hid (index_c (some ⟨g, 0, none⟩) l.length 8 l s p _ _ w2.drew ((tl_rf h2 hl).below (bl_drew (bl_refl _))) f1 f2)
  clear f1 f2 k1 k2 h2
  refine wp_region_still_tail 9 (by kernel_rfl) (by kernel_rfl) ?_
  simp only [List.take_succ_cons, List.take_zero, List.drop_succ_cons, List.drop_zero]
  repeat still_step
  refine wpStill_nil ?_
  change wpList _ _ _ _ _ w2.drew
  go_wp2_with fail
  refine (hI.out).mono ?_
  rintro r w3 ⟨rfl, b3⟩
  go_wp2
  go_ret
  exact ⟨rfl, bl_then (bl_drew hB) b3⟩
end Go.Proofs.Ytdokmnpkihmkpaa.Tlb
