/- Contract of package abort's Ask. -/
import Derived.Test.YtcomgmgmpmjnkaaAbort2
import Derived.Deep.RegionHeld3
set_option linter.unusedVariables false
namespace Go.Proofs.Ytcomgmgmpmjnkaa.Abort3
open Go.RowKit Go.Proofs.Ytcomgmgmpmjnkaa.Base Go.Proofs.Ytcomgmgmpmjnkaa.Row Go.Proofs.Ytcomgmgmpmjnkaa.App Go.Proofs.Ytcomgmgmpmjnkaa.Multi Go.Proofs.Ytcomgmgmpmjnkaa.AbortMath Go.Proofs.Ytcomgmgmpmjnkaa.Abort Go.Proofs.Ytcomgmgmpmjnkaa.Abort2

/-- A list of the program's, as a value. -/
def lv (A : Option Addr) (n c : Nat) : Array Value := #[.slice A n c]
theorem lv_size (A : Option Addr) (n c : Nat) : (Try.prog.info? 67).map (·.size) = some (lv A n c).size := by kernel_rfl
theorem new_l : (Try.prog.info? 67).map (fun i => i.zero.map (·.cells)) = some (some (lv none 0 0)) := by kernel_rfl
theorem lv_one (A : Option Addr) (n c : Nat) : ∀ v ∈ lv A n c, v.oneCell' = true := by
  intro v hv
  simp [lv] at hv
  subst hv; rfl
/-- What a list of wants is. -/
def IsL (w : World) (A : Option Addr) (n c : Nat) (l : List Wt) : Prop := IsT wv 4 73 w A n c l
theorem IsL.below {w w1 : World} {A : Option Addr} {n c : Nat} {l : List Wt} (h : IsL w A n c l) (hb : Below w.heap.size w w1) : IsL w1 A n c l := ist_below h hb
theorem IsL.own {w : World} {base : Nat} {A : Option Addr} {n c : Nat} {l : List Wt} (h : w.ownsRow base 73 4 (.slice A n c) n (l.flatMap wv)) : IsL w A n c l := ist_own wv_len (by decide) h
def AskPost (l : List Wt) (x : Wt) (w w' : World) (r : Ending) : Prop := (∃ A1 n1 c1, r = .returned (.tuple #[.agg (lv A1 n1 c1), .int .i64 (pask l x).1]) ∧ IsL w' A1 n1 c1 (pask l x).2) ∧ Below w.heap.size w w'

theorem ask_eq1 {l : List Wt} {x : Wt} (h : may x = false) : pask l x = (1, l) := by simp [pask, h]
theorem ask_eq4 {l : List Wt} {x : Wt} (h : may x = true) (h2 : has l x.e x.k x.n = true) : pask l x = (4, l) := by simp [pask, h, h2]
theorem ask_eq7 {l : List Wt} {x : Wt} (h : may x = true) (h2 : has l x.e x.k x.n = false) (h3 : l.length = 64) : pask l x = (7, l) := by simp [pask, h, h2, h3]
theorem ask_eq0 {l : List Wt} {x : Wt} (h : may x = true) (h2 : has l x.e x.k x.n = false) (h3 : ¬ l.length = 64) : pask l x = (0, l ++ [x]) := by simp [pask, h, h2, h3]

/-- The place of a want, as the walk tests it. -/
theorem wI_yes {n m : Nat} (h : m < n) : decide (0 ≤ wI n m) = true := by simp [wI, h]
theorem wI_no {n m : Nat} (h : ¬ m < n) : decide (0 ≤ wI n m) = false := by simp [wI, h]
theorem bl_alloc' {B : Nat} {w W : World} (h : Below B w W) (hB : B ≤ w.heap.size) (o : Obj) : Below B w (W.alloc o) := h.alloc (Nat.le_trans hB h.size) o
theorem lv_get (A : Option Addr) (n c : Nat) : (lv A n c).setIfInBounds 0 (.slice A n c) = lv A n c := rfl
set_option maxRecDepth 100000 in
set_option maxHeartbeats 4000000 in
theorem ask_c (A : Option Addr) (n c : Nat) (l : List Wt) (x : Wt) (w : World) (hl : IsL w A n c l) (hn : n ≤ 64) :
    Calls Try.prog 25 #[.agg (lv A n c), .agg (wa x)] w fun r w' => AskPost l x w w' r := by
  have hM := Lib.hid (fun w => may_c x w)
  have hAt := Lib.hid (fun w' (h : RF wv 4 w' A n l) => at_c A n c l x.e x.k x.n w' h)
  have hll := Lib.hid hl
  have hlen := Lib.hid hl.1.len
  have hat := Lib.hid (at_has l x.e x.k x.n)
  have hle := Lib.hid (at_le l x.e x.k x.n)
  clear hl
  cases hm : may x with
  | false =>
    have hr := Lib.hid (ask_eq1 (l := l) hm)
    rw [hm] at hM
    clear hm
    go_enter Try.func25, Try.ntmps25
    go_wp2_with (first
      | ((with_reducible refine wl_box rfl 67 _ rfl (lv A n c) rfl ?_); intro w1 k1 b1 s1)
      | ((with_reducible refine wl_box rfl 73 _ rfl (wa x) rfl ?_); intro w2 k2 b2 s2)
      | ((with_reducible refine wl_alloc rfl 67 rfl (lv none 0 0) new_l ?_); intro w3 k3 b3 s3; have K2 := k2.below b3)
      | (refine wl_load rfl 73 _ rfl w1.heap.size rfl 73 (wa x) _ K2 Try.underlying73 rfl (by kernel_rfl) ?_))
    refine (hM.out _).mono ?_
    rintro r w4 ⟨rfl, b4⟩
    have K1 := ((k1.below b2).below b3).below b4
    have K2 := K2.below b4
    have K3 := k3.below b4
    have B4 := bl_then (bl_then (bl_then b1 b2) b3) b4
    have z1 := b1.size
    have z2 := b2.size
    have z3 := b3.size
    have z4 := b4.size
    clear k1 k2 k3 b1 b2 b3 b4
    go_wp2_with (first
      | (refine wl_load rfl 67 _ rfl w.heap.size rfl 67 (lv A n c) _ K1 Try.underlying67 rfl (lv_size _ _ _) ?_)
      | ((refine wl_store rfl 67 _ _ rfl w2.heap.size rfl (lv A n c) rfl 67 (lv none 0 0) K3 (lv_size _ _ _) rfl (lv_one _ _ _) ?_); intro w6 k6 g6 s6))
    have B6 := below_grown B4 B4.size g6 (by omega)
    refine bodyPost_ret (res_cell_tmp rfl _ _ _ w2.heap.size 67 (lv A n c) _ rfl k6 Try.underlying67 rfl (lv_size _ _ _)) rfl ?_
    refine ⟨⟨A, n, c, ?_, ?_⟩, B6⟩
    · rw [hr.out]; rfl
    · rw [hr.out]; exact hll.out.below B6
  | true =>
    rw [hm] at hM
    have hm' := Lib.hid hm
    clear hm
    cases hh : has l x.e x.k x.n with
    | true =>
      have hr := Lib.hid (ask_eq4 hm'.out hh)
      have q := wI_yes (n := n) (m := at_ l x.e x.k x.n) (by have h := hat.out; rw [hh] at h; have := of_decide_eq_true h.symm; have := hlen.out; omega)
      clear hh
      generalize wI n (at_ l x.e x.k x.n) = y at *
      go_enter Try.func25, Try.ntmps25
      go_wp2_with (first
        | ((with_reducible refine wl_box rfl 67 _ rfl (lv A n c) rfl ?_); intro w1 k1 b1 s1)
        | ((with_reducible refine wl_box rfl 73 _ rfl (wa x) rfl ?_); intro w2 k2 b2 s2)
        | ((with_reducible refine wl_alloc rfl 67 rfl (lv none 0 0) new_l ?_); intro w3 k3 b3 s3; have K2 := k2.below b3)
        | (refine wl_load rfl 73 _ rfl w1.heap.size rfl 73 (wa x) _ K2 Try.underlying73 rfl (by kernel_rfl) ?_))
      refine (hM.out _).mono ?_
      rintro r w4 ⟨rfl, b4⟩
      have K1 := ((k1.below b2).below b3).below b4
      have K2 := K2.below b4
      have K3 := k3.below b4
      have B4 := bl_then (bl_then (bl_then b1 b2) b3) b4
      have z1 := b1.size
      have z2 := b2.size
      have z3 := b3.size
      have z4 := b4.size
      clear k1 k2 k3 b1 b2 b3 b4
      have e0 := K2.cellv 0 (.int .i64 x.e) rfl
      have e1 := K2.cellv 1 (.int .i64 x.k) rfl
      have e2 := K2.cellv 2 (.int .i64 x.n) rfl
      go_wp2_with (first
        | (refine wl_load rfl 67 _ rfl w.heap.size rfl 67 (lv A n c) _ K1 Try.underlying67 rfl (lv_size _ _ _) ?_))
      refine (hAt.out _ (hll.out.1.below B4)).mono ?_
      rintro r w5 ⟨rfl, b5⟩
      have K1 := K1.below b5
      have K2 := K2.below b5
      have K3 := K3.below b5
      have B4 := bl_then B4 b5
      have z5 := b5.size
      clear b5 e0 e1 e2
      go_wp2_with (first
        | (refine wl_load rfl 67 _ rfl w.heap.size rfl 67 (lv A n c) _ K1 Try.underlying67 rfl (lv_size _ _ _) ?_)
        | ((refine wl_store rfl 67 _ _ rfl w2.heap.size rfl (lv A n c) rfl 67 (lv none 0 0) K3 (lv_size _ _ _) rfl (lv_one _ _ _) ?_); intro w6 k6 g6 s6))
      have B6 := below_grown B4 B4.size g6 (by omega)
      refine bodyPost_ret (res_cell_tmp rfl _ _ _ w2.heap.size 67 (lv A n c) _ rfl k6 Try.underlying67 rfl (lv_size _ _ _)) rfl ?_
      refine ⟨⟨A, n, c, ?_, ?_⟩, B6⟩
      · rw [hr.out]; rfl
      · rw [hr.out]; exact hll.out.below B6
    | false =>
      have q := wI_no (n := n) (m := at_ l x.e x.k x.n) (by have h := hat.out; rw [hh] at h; have := of_decide_eq_false h.symm; have := hlen.out; omega)
      have hh' := Lib.hid hh
      clear hh
      generalize wI n (at_ l x.e x.k x.n) = y at *
      by_cases h64 : n = 64
      · have hr := Lib.hid (ask_eq7 hm'.out hh'.out (by rw [hlen.out]; exact h64))
        have q2 : ((n : Int) == 64) = true := by simp; omega
        clear h64
        go_enter Try.func25, Try.ntmps25
        go_wp2_with (first
          | ((with_reducible refine wl_box rfl 67 _ rfl (lv A n c) rfl ?_); intro w1 k1 b1 s1)
          | ((with_reducible refine wl_box rfl 73 _ rfl (wa x) rfl ?_); intro w2 k2 b2 s2)
          | ((with_reducible refine wl_alloc rfl 67 rfl (lv none 0 0) new_l ?_); intro w3 k3 b3 s3; have K2 := k2.below b3)
          | (refine wl_load rfl 73 _ rfl w1.heap.size rfl 73 (wa x) _ K2 Try.underlying73 rfl (by kernel_rfl) ?_))
        refine (hM.out _).mono ?_
        rintro r w4 ⟨rfl, b4⟩
        have K1 := ((k1.below b2).below b3).below b4
        have K2 := K2.below b4
        have K3 := k3.below b4
        have B4 := bl_then (bl_then (bl_then b1 b2) b3) b4
        have z1 := b1.size
        have z2 := b2.size
        have z3 := b3.size
        have z4 := b4.size
        clear k1 k2 k3 b1 b2 b3 b4
        have e0 := K2.cellv 0 (.int .i64 x.e) rfl
        have e1 := K2.cellv 1 (.int .i64 x.k) rfl
        have e2 := K2.cellv 2 (.int .i64 x.n) rfl
        go_wp2_with (first
          | (refine wl_load rfl 67 _ rfl w.heap.size rfl 67 (lv A n c) _ K1 Try.underlying67 rfl (lv_size _ _ _) ?_))
        refine (hAt.out _ (hll.out.1.below B4)).mono ?_
        rintro r w5 ⟨rfl, b5⟩
        have K1 := K1.below b5
        have K2 := K2.below b5
        have K3 := K3.below b5
        have B4 := bl_then B4 b5
        have z5 := b5.size
        clear b5 e0 e1 e2
        have f0 := K1.cellv 0 (.slice A n c) rfl
        go_wp2_with (first
          | (refine wl_load rfl 67 _ rfl w.heap.size rfl 67 (lv A n c) _ K1 Try.underlying67 rfl (lv_size _ _ _) ?_)
          | ((refine wl_store rfl 67 _ _ rfl w2.heap.size rfl (lv A n c) rfl 67 (lv none 0 0) K3 (lv_size _ _ _) rfl (lv_one _ _ _) ?_); intro w6 k6 g6 s6))
        have B6 := below_grown B4 B4.size g6 (by omega)
        refine bodyPost_ret (res_cell_tmp rfl _ _ _ w2.heap.size 67 (lv A n c) _ rfl k6 Try.underlying67 rfl (lv_size _ _ _)) rfl ?_
        refine ⟨⟨A, n, c, ?_, ?_⟩, B6⟩
        · rw [hr.out]; rfl
        · rw [hr.out]; exact hll.out.below B6
      · have hr := Lib.hid (ask_eq0 hm'.out hh'.out (by rw [hlen.out]; exact h64))
        have q2 : ((n : Int) == 64) = false := by simp; omega
        have h64' := Lib.hid h64
        clear h64
        go_enter Try.func25, Try.ntmps25
        go_wp2_with (first
          | ((with_reducible refine wl_box rfl 67 _ rfl (lv A n c) rfl ?_); intro w1 k1 b1 s1)
          | ((with_reducible refine wl_box rfl 73 _ rfl (wa x) rfl ?_); intro w2 k2 b2 s2)
          | ((with_reducible refine wl_alloc rfl 67 rfl (lv none 0 0) new_l ?_); intro w3 k3 b3 s3; have K2 := k2.below b3)
          | (refine wl_load rfl 73 _ rfl w1.heap.size rfl 73 (wa x) _ K2 Try.underlying73 rfl (by kernel_rfl) ?_))
        refine (hM.out _).mono ?_
        rintro r w4 ⟨rfl, b4⟩
        have K1 := ((k1.below b2).below b3).below b4
        have K2 := K2.below b4
        have K3 := k3.below b4
        have B4 := bl_then (bl_then (bl_then b1 b2) b3) b4
        have z1 := b1.size
        have z2 := b2.size
        have z3 := b3.size
        have z4 := b4.size
        clear k1 k2 k3 b1 b2 b3 b4
        have e0 := K2.cellv 0 (.int .i64 x.e) rfl
        have e1 := K2.cellv 1 (.int .i64 x.k) rfl
        have e2 := K2.cellv 2 (.int .i64 x.n) rfl
        go_wp2_with (first
          | (refine wl_load rfl 67 _ rfl w.heap.size rfl 67 (lv A n c) _ K1 Try.underlying67 rfl (lv_size _ _ _) ?_))
        refine (hAt.out _ (hll.out.1.below B4)).mono ?_
        rintro r w5 ⟨rfl, b5⟩
        have K1 := K1.below b5
        have K2 := K2.below b5
        have K3 := K3.below b5
        have B4 := bl_then B4 b5
        have z5 := b5.size
        clear b5 e0 e1 e2
        have f0 := K1.cellv 0 (.slice A n c) rfl
        go_wp2_with fail
        have D5 := bl_drew (bl_refl w5)
        have L1 := K1.below D5
        have L2 := K2.below D5
        have L3 := K3.below D5
        have hB5 := bl_then B4 D5
        have n1 := Lib.hid (show w.heap.size ≠ w2.heap.size by omega)
        have n2 := Lib.hid (show w1.heap.size ≠ w2.heap.size by omega)
        have M1 := Lib.hid L1
        have M2 := Lib.hid L2
        have hr0 := hll.out.1.below hB5
        have hr1 : ∀ o, RF wv 4 (w5.drew.alloc o) A n l := fun o => hr0.below (bl_alloc (bl_refl _) o)
        have hr2 : ∀ o, RF wv 4 (w5.alloc o).drew A n l := hr1
        have hb2 : ∀ {o}, Below w5.drew.heap.size w5.drew (w5.alloc o).drew := bl_alloc (bl_refl w5.drew) _
        have hlit : ∀ W, Below (w5.drew.alloc (.cells #[.int .i64 x.e, .int .i64 x.k, .int .i64 x.n, .int .i64 x.l] 73)).heap.size (w5.drew.alloc (.cells #[.int .i64 x.e, .int .i64 x.k, .int .i64 x.n, .int .i64 x.l] 73)) W → RF wv 4 W (some ⟨w5.heap.size, 0, none⟩) 1 [x] := fun W hb => (rf_lit (f := wv) (sz := 4) (x := x) (Blk.new w5.drew 73 #[.int .i64 x.e, .int .i64 x.k, .int .i64 x.n, .int .i64 x.l]) rfl).below hb
        have hlit2 : ∀ W : World, RF wv 4 (W.alloc (.cells #[.int .i64 x.e, .int .i64 x.k, .int .i64 x.n, .int .i64 x.l] 73)) (some ⟨W.heap.size, 0, none⟩) 1 [x] := fun W => rf_lit (f := wv) (sz := 4) (x := x) (Blk.new W 73 #[.int .i64 x.e, .int .i64 x.k, .int .i64 x.n, .int .i64 x.l]) rfl
        have t0 : w5.drew.cell? ⟨w.heap.size, 0, none⟩ = some (.slice A n c) := L1.cellv 0 _ rfl
        have t1 : w5.drew.cell? ⟨w1.heap.size, 0, none⟩ = some (.int .i64 x.e) := L2.cellv 0 _ rfl
        have t2 : w5.drew.cell? ⟨w1.heap.size, 1, none⟩ = some (.int .i64 x.k) := L2.cellv 1 _ rfl
        have t3 : w5.drew.cell? ⟨w1.heap.size, 2, none⟩ = some (.int .i64 x.n) := L2.cellv 2 _ rfl
        have t4 : w5.drew.cell? ⟨w1.heap.size, 3, none⟩ = some (.int .i64 x.l) := L2.cellv 3 _ rfl
        go_region_held3 (fun w' => w'.cell? ⟨w.heap.size, 0, none⟩ = some (.slice A n c) ∧ w'.cell? ⟨w1.heap.size, 0, none⟩ = some (.int .i64 x.e) ∧ w'.cell? ⟨w1.heap.size, 1, none⟩ = some (.int .i64 x.k) ∧ w'.cell? ⟨w1.heap.size, 2, none⟩ = some (.int .i64 x.n) ∧ w'.cell? ⟨w1.heap.size, 3, none⟩ = some (.int .i64 x.l))
          (first
            | exact ⟨L1.cellv 0 _ rfl, L2.cellv 0 _ rfl, L2.cellv 1 _ rfl, L2.cellv 2 _ rfl, L2.cellv 3 _ rfl⟩
            | exact ⟨(L1.alloc _).cellv 0 _ rfl, (L2.alloc _).cellv 0 _ rfl, (L2.alloc _).cellv 1 _ rfl, (L2.alloc _).cellv 2 _ rfl, (L2.alloc _).cellv 3 _ rfl⟩
            | exact ⟨(L1.far n1.out _).cellv 0 _ rfl, (L2.far n2.out _).cellv 0 _ rfl, (L2.far n2.out _).cellv 1 _ rfl, (L2.far n2.out _).cellv 2 _ rfl, (L2.far n2.out _).cellv 3 _ rfl⟩
            | go_keep)
          (first
            | (refine step_rf (f := wv) (w0 := w5.drew) w5.drew.heap.size 4 32 wv_len wv_one (.agg (wa ⟨0, 0, 0, 0⟩)) (by rfl) (.tmp 30) (.tmp 32) 65 73 (by rfl) Try.underlying65 info_want (by rfl) (by decide) (by decide) (.slice Ax n cx) n l (by rfl) (by first | exact HOx | exact HOx.alloc _) ⟨_, 0, none⟩ 1 1 [x] (by rfl) (by first | exact hlit _ bx | exact hlit2 _) (by omega) (by first | exact HBx | exact bl_alloc HBx _) (by first | exact HBx.size | (have := HBx.size; simp at this ⊢; omega)) ?_; intro A9 c9 w9 h9 b9 s9 g9; have L1 := M1.out.below b9; have L2 := M2.out.below b9; have KZ := L3.below b9; have u2 := KZ.cellv 0 _ rfl; have u3 := KZ.frozen 0)
            | (go_at_call 64; refine (clone_c w5.heap.size A n c l _ (by first | exact hr0 | exact hr1 _ | exact hr2 _) hll.out.2.1 (by omega) (by first | exact Nat.le_refl _ | simp)).mono ?_; rintro r wx ⟨⟨Ax, cx, rfl, HOx⟩, bx⟩; have HBx : Below w5.drew.heap.size w5.drew wx := (by first | exact bx | exact bl_then (bl_alloc (bl_refl w5.drew) _) bx | exact bl_then hb2 bx); have L1 := M1.out.below HBx; have L2 := M2.out.below HBx))
        all_goals (
          have hlt : w2.heap.size < w5.drew.heap.size := by simp; omega
          have hF := bl_set (bl_then hB5 b9) (p := ⟨w2.heap.size, 0, none⟩) (by show w.heap.size ≤ w2.heap.size; omega) (.slice A9 (n + 1) c9)
          have hI := IsL.own (own_kept h9 (grownBy_set w9 w2.heap.size 0 (.slice A9 (n + 1) c9)) hlt)
          have hZ : Blk (w9.setCell ⟨w2.heap.size, 0, none⟩ (.slice A9 (n + 1) c9)) w2.heap.size 67 (lv A9 (n + 1) c9) := KZ.set_ 0 (.slice A9 (n + 1) c9)
          clear t0 t1 t2 t3 t4 u2 u3 L1 L2
          go_wp2
          refine bodyPost_ret (res_cell_tmp rfl _ _ _ w2.heap.size 67 (lv A9 (n + 1) c9) _ rfl hZ Try.underlying67 rfl (lv_size _ _ _)) rfl ?_
          refine ⟨⟨A9, n + 1, c9, ?_, ?_⟩, hF⟩
          · rw [hr.out]; rfl
          · rw [hr.out]; exact hI)
end Go.Proofs.Ytcomgmgmpmjnkaa.Abort3
