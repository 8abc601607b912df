/- Contracts of package frames: pages. -/
import Derived.Test.YtdokmnpkihmkpaaFrames
set_option linter.unusedVariables false
namespace Go.Proofs.Ytdokmnpkihmkpaa.Frames2
open Go.RowKit Go.Proofs.Ytdokmnpkihmkpaa.Base Go.Proofs.Ytdokmnpkihmkpaa.Row Go.Proofs.Ytdokmnpkihmkpaa.Frames

/-- A frame's words. -/
def pgAt (X : List Int) (f : Nat) : List Int := (X.drop (f * 16)).take 16
theorem pgAt_len (X : List Int) (n f : Nat) (hl : X.length = n * 16) (hf : f < n) : (pgAt X f).length = 16 := by
  unfold pgAt
  rw [List.length_take, List.length_drop, hl]; omega
def layX (X : List Int) (f : Nat) (P : List Int) : List Int := X.take (f * 16) ++ (P ++ X.drop (f * 16 + 16))
theorem layX_len (X : List Int) (n f : Nat) (P : List Int) (hl : X.length = n * 16) (hf : f < n) (hP : P.length = 16) : (layX X f P).length = n * 16 := by
  unfold layX
  rw [List.length_append, List.length_append, List.length_take, List.length_drop, hl, hP]; omega
theorem pg_part (X : List Int) (n f : Nat) (hl : X.length = n * 16) (hf : f < n) : ∀ j v, (nums .u32 (pgAt X f))[j]? = some v → (pg X)[f * 16 + j]? = some v := by
  intro j v hv
  unfold nums at hv
  rw [List.getElem?_map] at hv
  unfold pgAt at hv
  rw [List.getElem?_take] at hv
  split at hv
  · rw [List.getElem?_drop] at hv
    unfold pg nums
    rw [List.getElem?_toArray, List.getElem?_map]
    exact hv
  · simp at hv
theorem lay_pg (X P : List Int) (o : Nat) (ho : o + P.length ≤ X.length) : lay (pg X) o (pg P).toList = pg (X.take o ++ (P ++ X.drop (o + P.length))) := by
  apply Array.ext_getElem?
  intro i
  rw [lay_get _ _ _ _ (by rw [pg_size, Array.length_toList, pg_size]; exact ho)]
  rw [Array.length_toList, pg_size]
  unfold pg nums
  rw [List.getElem?_toArray, List.getElem?_toArray]
  rw [List.getElem?_map (l := X), List.getElem?_map (l := X.take o ++ (P ++ X.drop (o + P.length)))]
  by_cases h : o ≤ i ∧ i < o + P.length
  · rw [if_pos h, List.getElem?_map, List.getElem?_append_right (by rw [List.length_take]; omega), List.length_take, Nat.min_eq_left (by omega), List.getElem?_append_left (by omega)]
  · rw [if_neg h]
    rcases Nat.lt_or_ge i o with h1 | h1
    · rw [List.getElem?_append_left (by rw [List.length_take]; omega), List.getElem?_take, if_pos h1]
    · rw [List.getElem?_append_right (by rw [List.length_take]; omega), List.length_take, Nat.min_eq_left (by omega), List.getElem?_append_right (by omega), List.getElem?_drop]
      congr 2; omega

set_option maxRecDepth 100000 in
set_option maxHeartbeats 2000000 in
theorem page_yes (g gp n f : Nat) (X : List Int) (w : World) (h : Mm w g gp n X) (hf : f < n) :
    Calls Try.prog 24 #[.pointer (some ⟨g, 0, none⟩), .int .i64 f] w fun r w' => r = .returned (.tuple #[.agg (pg (pgAt X f)), .bool true]) ∧ Below w.heap.size w w' := by
  have hI := Lib.hid (fun w' h' => in_c g gp n X f w' h')
  rw [inB_yes n f hf] at hI
  have hh := Lib.hid h
  have hpl := Lib.hid (pgAt_len X n f h.len hf)
  have hpart := Lib.hid (pg_part X n f h.len hf)
  have q3 : (f : Int) < (n : Int) := by omega
  have n256 := h.n256
  clear h
  go_enter Try.func24, Try.ntmps24
  go_wp2_with (first
    | ((with_reducible refine wl_alloc rfl 40 rfl (pg z16) new_p ?_); intro w1 k1 b1 s1))
  have h1 := Lib.hid (hh.out.below b1)
  refine (hI.out w1 h1.out).mono ?_
  rintro r w2 ⟨rfl, rfl⟩
  have c := h1.out.m.cellv 0 _ rfl
  go_wp2_with (first
    | (refine wl_load_mid (by rfl) 40 _ (by rfl) gp (f * 16) (by rfl) 40 (pg X) (nums .u32 (pgAt X f)) _ h1.out.p hpart.out Try.underlying40 rfl (size_pgl _ (by rw [nums_length]; exact hpl.out)) ?_)
    | ((refine wl_store (by rfl) 40 _ _ (by rfl) w.heap.size (by rfl) (pg (pgAt X f)) (by rfl) 40 (pg z16) k1 (size_pg _ hpl.out) (by rw [pg_size, pg_size, hpl.out]; rfl) (pg_one _) ?_); intro w3 k3 g3 s3))
  refine bodyPost_ret (res_cell_tmp rfl _ _ _ w.heap.size 40 (pg (pgAt X f)) _ rfl k3 Try.underlying40 rfl (size_pg _ hpl.out)) rfl ⟨rfl, ?_⟩
  exact below_grown b1 b1.size g3 (Nat.le_refl _)
set_option maxRecDepth 100000 in
set_option maxHeartbeats 2000000 in
theorem page_nil (f : Int) (w : World) :
    Calls Try.prog 24 #[.pointer none, .int .i64 f] w fun r w' => r = .returned (.tuple #[.agg (pg z16), .bool false]) ∧ Below w.heap.size w w' := by
  go_enter Try.func24, Try.ntmps24
  go_wp2_with (first
    | ((with_reducible refine wl_alloc rfl 40 rfl (pg z16) new_p ?_); intro w1 k1 b1 s1))
  refine (in_nil f w1).mono ?_
  rintro r w2 ⟨rfl, rfl⟩
  go_wp2_with (first
    | (with_reducible refine wl_build0 rfl 40 rfl (pg z16) zero_p ?_)
    | ((refine wl_store (by rfl) 40 _ _ (by rfl) w.heap.size (by rfl) (pg z16) (by rfl) 40 (pg z16) k1 (size_pg _ rfl) rfl (pg_one _) ?_); intro w3 k3 g3 s3))
  refine bodyPost_ret (res_cell_tmp rfl _ _ _ w.heap.size 40 (pg z16) _ rfl k3 Try.underlying40 rfl (size_pg _ rfl)) rfl ⟨rfl, ?_⟩
  exact below_grown b1 b1.size g3 (Nat.le_refl _)

theorem ex16 {P : List Int} (h : P.length = 16) : ∃ p0 p1 p2 p3 p4 p5 p6 p7 p8 p9 p10 p11 p12 p13 p14 p15, P = [p0, p1, p2, p3, p4, p5, p6, p7, p8, p9, p10, p11, p12, p13, p14, p15] := by
  match P, h with
  | [p0, p1, p2, p3, p4, p5, p6, p7, p8, p9, p10, p11, p12, p13, p14, p15], _ => exact ⟨p0, p1, p2, p3, p4, p5, p6, p7, p8, p9, p10, p11, p12, p13, p14, p15, rfl⟩

set_option maxRecDepth 100000 in
set_option maxHeartbeats 4000000 in
theorem lay_yes (g gp n f : Nat) (X P : List Int) (w : World) (h : Mm w g gp n X) (hf : f < n) (hP : P.length = 16) :
    Calls Try.prog 26 #[.pointer (some ⟨g, 0, none⟩), .int .i64 f, .agg (pg P)] w fun r w' => r = .returned (.bool true) ∧ Mm w' g gp n (layX X f P) ∧ w.grownBy w' (some gp) := by
  have hI := Lib.hid (fun w' h' => in_c g gp n X f w' h')
  rw [inB_yes n f hf] at hI
  have hh := Lib.hid h
  have hP' := Lib.hid hP
  have hsz : Hid (f * 16 + (pg P).size ≤ (pg X).size) := Lib.hid (by rw [pg_size, pg_size, h.len, hP]; omega)
  have hlay : Hid (lay (pg X) (f * 16) (pg P).toList = pg (layX X f P)) := Lib.hid (by rw [lay_pg X P (f * 16) (by rw [h.len, hP]; omega), hP]; rfl)
  have hll := Lib.hid (layX_len X n f P h.len hf hP)
  have q3 : (f : Int) < (n : Int) := by omega
  have n256 := h.n256
  obtain ⟨p0, p1, p2, p3, p4, p5, p6, p7, p8, p9, p10, p11, p12, p13, p14, p15, rfl⟩ := ex16 hP
  clear h hP hP'
  go_enter Try.func26, Try.ntmps26
  go_wp2_with (first
    | ((with_reducible refine wl_box rfl 40 _ rfl (pg [p0, p1, p2, p3, p4, p5, p6, p7, p8, p9, p10, p11, p12, p13, p14, p15]) rfl ?_); intro w1 k1 b1 s1))
  have h1 := Lib.hid (hh.out.below b1)
  refine (hI.out w1 h1.out).mono ?_
  rintro r w2 ⟨rfl, rfl⟩
  have c : w1.cell? ⟨g, 0, none⟩ = some (.slice (some ⟨gp, 0, none⟩) n n) := h1.out.m.cellv 0 _ rfl
  have d0 : w1.cell? ⟨w.heap.size, 0, none⟩ = some (.int .u32 p0) := k1.cellv 0 _ rfl
  have d1 : w1.cell? ⟨w.heap.size, 1, none⟩ = some (.int .u32 p1) := k1.cellv 1 _ rfl
  have d2 : w1.cell? ⟨w.heap.size, 2, none⟩ = some (.int .u32 p2) := k1.cellv 2 _ rfl
  have d3 : w1.cell? ⟨w.heap.size, 3, none⟩ = some (.int .u32 p3) := k1.cellv 3 _ rfl
  have d4 : w1.cell? ⟨w.heap.size, 4, none⟩ = some (.int .u32 p4) := k1.cellv 4 _ rfl
  have d5 : w1.cell? ⟨w.heap.size, 5, none⟩ = some (.int .u32 p5) := k1.cellv 5 _ rfl
  have d6 : w1.cell? ⟨w.heap.size, 6, none⟩ = some (.int .u32 p6) := k1.cellv 6 _ rfl
  have d7 : w1.cell? ⟨w.heap.size, 7, none⟩ = some (.int .u32 p7) := k1.cellv 7 _ rfl
  have d8 : w1.cell? ⟨w.heap.size, 8, none⟩ = some (.int .u32 p8) := k1.cellv 8 _ rfl
  have d9 : w1.cell? ⟨w.heap.size, 9, none⟩ = some (.int .u32 p9) := k1.cellv 9 _ rfl
  have d10 : w1.cell? ⟨w.heap.size, 10, none⟩ = some (.int .u32 p10) := k1.cellv 10 _ rfl
  have d11 : w1.cell? ⟨w.heap.size, 11, none⟩ = some (.int .u32 p11) := k1.cellv 11 _ rfl
  have d12 : w1.cell? ⟨w.heap.size, 12, none⟩ = some (.int .u32 p12) := k1.cellv 12 _ rfl
  have d13 : w1.cell? ⟨w.heap.size, 13, none⟩ = some (.int .u32 p13) := k1.cellv 13 _ rfl
  have d14 : w1.cell? ⟨w.heap.size, 14, none⟩ = some (.int .u32 p14) := k1.cellv 14 _ rfl
  have d15 : w1.cell? ⟨w.heap.size, 15, none⟩ = some (.int .u32 p15) := k1.cellv 15 _ rfl
  have KP := Lib.hid h1.out.p
  go_wp2_with fail
  refine wp_region_still_tail 7 (by kernel_rfl) (by kernel_rfl) ?_
  simp only [List.take_succ_cons, List.take_zero, List.drop_succ_cons, List.drop_zero]
  repeat still_step
  refine wpStill_nil ?_
  change wpList _ _ _ _ _ w1.drew
  clear c d0 d1 d2 d3 d4 d5 d6 d7 d8 d9 d10 d11 d12 d13 d14 d15
  have KPd := KP.out.drew
  refine wl_store_mid (by rfl) 40 _ _ (by rfl) gp (f * 16) (by rfl) (pg [p0, p1, p2, p3, p4, p5, p6, p7, p8, p9, p10, p11, p12, p13, p14, p15]) (by rfl) 40 (pg X) KPd (size_pg _ rfl) hsz.out (pg_one _) ?_
  intro w3 k3 g3 s3
  rw [hlay.out] at k3
  go_wp2
  go_ret
  exact ⟨rfl, ⟨(h1.out.m.drew).grown g3 (fun e => by injection e with e; exact hh.out.ne e), k3, hll.out, n256⟩, World.grownBy.trans (grown_of_below (bl_drew b1) _) g3⟩
set_option maxRecDepth 100000 in
theorem lay_nil (f : Int) (P : List Int) (w : World) :
    Calls Try.prog 26 #[.pointer none, .int .i64 f, .agg (pg P)] w fun r w' => r = .returned (.bool false) ∧ Below w.heap.size w w' := by
  go_enter Try.func26, Try.ntmps26
  go_wp2_with (first
    | ((with_reducible refine wl_box rfl 40 _ rfl (pg P) rfl ?_); intro w1 k1 b1 s1))
  refine (in_nil f w1).mono ?_
  rintro r w2 ⟨rfl, rfl⟩
  go_wp2
  go_ret
  exact ⟨rfl, b1⟩
set_option maxRecDepth 100000 in
set_option maxHeartbeats 2000000 in
theorem copy_yes (g gp n t f : Nat) (X : List Int) (w : World) (h : Mm w g gp n X) (ht : t < n) (hf : f < n) :
    Calls Try.prog 28 #[.pointer (some ⟨g, 0, none⟩), .int .i64 t, .int .i64 f] w fun r w' => r = .returned (.bool true) ∧ Mm w' g gp n (layX X t (pgAt X f)) ∧ w.grownBy w' (some gp) := by
  have hP := Lib.hid (page_yes g gp n f X w h hf)
  have hh := Lib.hid h
  have hpl := Lib.hid (pgAt_len X n f h.len hf)
  have hL := Lib.hid (fun w' h' => lay_yes g gp n t X (pgAt X f) w' h' ht hpl.out)
  have hgp := h.p.lt
  clear h
  go_enter Try.func28, Try.ntmps28
  go_wp2_with fail
  refine (hP.out).mono ?_
  rintro r w1 ⟨rfl, b1⟩
  have h1 := hh.out.below b1
  have z1 := b1.size
  go_wp2_with (first
    | ((with_reducible refine wl_alloc rfl 40 rfl (pg z16) new_p ?_); intro w2 k2 b2 s2)
    | ((refine wl_store (by rfl) 40 _ _ (by rfl) w1.heap.size (by rfl) (pg (pgAt X f)) (by rfl) 40 (pg z16) k2 (size_pg _ hpl.out) (by rw [pg_size, pg_size, hpl.out]; rfl) (pg_one _) ?_); intro w3 k3 g3 s3)
    | (refine wl_load_on (by rfl) 40 _ (by rfl) w1.heap.size (by rfl) 40 (pg (pgAt X f)) _ k3 Try.underlying40 rfl (size_pg _ hpl.out) (by exact ⟨_, _, rfl, rfl, rfl⟩) ?_))
  have h3 := (h1.below b2).grown g3 (by have := h1.m.lt; omega) (by have := h1.p.lt; omega)
  have B3 := below_grown (bl_then b1 b2) (by have := b1.size; have := b2.size; omega) g3 b1.size
  refine (hL.out w3 h3).mono ?_
  rintro r w4 ⟨rfl, h4, g4⟩
  go_wp2
  go_ret
  exact ⟨rfl, h4, World.grownBy.trans (grown_of_below B3 _) g4⟩
set_option maxRecDepth 100000 in
set_option maxHeartbeats 2000000 in
theorem copy_nil (t f : Int) (w : World) :
    Calls Try.prog 28 #[.pointer none, .int .i64 t, .int .i64 f] w fun r w' => r = .returned (.bool false) ∧ Below w.heap.size w w' := by
  go_enter Try.func28, Try.ntmps28
  go_wp2_with fail
  refine (page_nil f w).mono ?_
  rintro r w1 ⟨rfl, b1⟩
  go_wp2_with (first
    | ((with_reducible refine wl_alloc rfl 40 rfl (pg z16) new_p ?_); intro w2 k2 b2 s2)
    | ((refine wl_store (by rfl) 40 _ _ (by rfl) w1.heap.size (by rfl) (pg z16) (by rfl) 40 (pg z16) k2 (size_pg _ rfl) rfl (pg_one _) ?_); intro w3 k3 g3 s3))
  go_ret
  exact ⟨rfl, below_grown (bl_then b1 b2) (by have := b1.size; have := b2.size; omega) g3 b1.size⟩

set_option maxRecDepth 100000 in
set_option maxHeartbeats 2000000 in
theorem awake_c (w : World) : Calls Try.prog 20 #[] w fun e w' => e = .returned (.bool true) ∧ Below w.heap.size w w' := by
  have hN := Lib.hid (new_c 2 (by omega) (by omega) w)
  obtain ⟨X0, hX0⟩ : ∃ X, List.replicate (2 * 16) (0 : Int) = X := ⟨_, rfl⟩
  rw [hX0] at hN
  have hP := Lib.hid (fun w' h => put_yes (w.heap.size + 1) w.heap.size 2 1 3 7 X0 w' h (by omega) (by omega))
  obtain ⟨X1, hX1⟩ : ∃ X, X0.set (1 * 16 + 3) 7 = X := ⟨_, rfl⟩
  rw [hX1] at hP
  have hC := Lib.hid (fun w' h => copy_yes (w.heap.size + 1) w.heap.size 2 0 1 X1 w' h (by omega) (by omega))
  obtain ⟨X2, hX2⟩ : ∃ X, layX X1 0 (pgAt X1 1) = X := ⟨_, rfl⟩
  rw [hX2] at hC
  have hG := Lib.hid (fun w' h => get_yes (w.heap.size + 1) w.heap.size 2 0 3 X2 w' h (by omega) (by omega))
  rw [show X2[0 * 16 + 3]?.getD 0 = 7 from by rw [← hX2, ← hX1, ← hX0]; decide] at hG
  have hL := Lib.hid (fun w' h => len_c (w.heap.size + 1) w.heap.size 2 X2 w' h)
  clear hX0 hX1 hX2
  go_enter Try.func20, Try.ntmps20
  go_wp2_with fail
  refine (hN.out).mono ?_
  rintro r w1 ⟨rfl, h1, b1⟩
  go_wp2_with fail
  refine (hP.out w1 h1).mono ?_
  rintro r w2 ⟨rfl, h2, g2⟩
  have b2 := below_grown b1 b1.size g2 (Nat.le_refl _)
  go_wp2_with fail
  refine (hC.out w2 h2).mono ?_
  rintro r w3 ⟨rfl, h3, g3⟩
  have b3 := below_grown b2 b2.size g3 (Nat.le_refl _)
  go_wp2_with fail
  refine (hG.out w3 h3).mono ?_
  rintro r w4 ⟨rfl, rfl⟩
  go_wp2_with fail
  refine (hL.out w3 h3).mono ?_
  rintro r w4 ⟨rfl, rfl⟩
  go_wp2
  go_ret
  exact ⟨rfl, b3⟩
end Go.Proofs.Ytdokmnpkihmkpaa.Frames2
