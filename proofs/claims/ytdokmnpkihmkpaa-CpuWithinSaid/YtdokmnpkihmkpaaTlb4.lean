/- Contracts of package tlb: dropping. -/
import Derived.Test.YtdokmnpkihmkpaaTlb3
set_option linter.unusedVariables false
namespace Go.Proofs.Ytdokmnpkihmkpaa.Tlb4
open Go.RowKit Go.Proofs.Ytdokmnpkihmkpaa.Base Go.Proofs.Ytdokmnpkihmkpaa.Row Go.Proofs.Ytdokmnpkihmkpaa.App Go.Proofs.Ytdokmnpkihmkpaa.Multi Go.Proofs.Ytdokmnpkihmkpaa.TlbMath Go.Proofs.Ytdokmnpkihmkpaa.Tlb Go.Proofs.Ytdokmnpkihmkpaa.Tlb2 Go.Proofs.Ytdokmnpkihmkpaa.Tlb3

def ix : Nat → Int | 0 => -1 | k + 1 => (k : Int)
theorem ix_eq (k : Nat) : ix k = (k : Int) - 1 := by cases k <;> simp [ix]
theorem cell_other {w w1 : World} {g : Nat} (hg : w.grownBy w1 (some g)) {b : Nat} {v : Value} (h : w.cell? ⟨b, 0, none⟩ = some v) (hne : b ≠ g) : w1.cell? ⟨b, 0, none⟩ = some v := hg.cell h (fun e => by injection e with e; exact hne e)
set_option maxRecDepth 100000 in
set_option maxHeartbeats 2000000 in
theorem drop_frame (g : Nat) (l : List En) (m s : Int) (b1 : Nat) (w : World) (h : Tl w g l m) (hl : l.length ≤ 8) (h1 : w.cell? ⟨b1, 0, none⟩ = some (.int .i64 s)) (n1 : b1 ≠ g) :
    Calls Try.prog 62 #[.pointer (some ⟨g, 0, none⟩), .func (.func 63) #[] #[.pointer (some ⟨b1, 0, none⟩)]] w fun r w' => r = .returned (.int .i64 ((l.length : Int) - ((l.filter (fun x => !isK 0 s 0 x)).length : Int))) ∧ Tl w' g (l.filter (fun x => !isK 0 s 0 x)) m ∧ w.grownBy w' (some g) := by
  have hC := Lib.hid (fun (x : En) (w' : World) (hg : w.grownBy w' (some g)) => dfr_c x s b1 w' (cell_other hg h1 n1))
  have hcut := Lib.hid (fun (L : List En) i w (h : Tl w g L m) hl hi => cut_c g L m i w h hl hi)
  have c := Blk.cellv h 32 _ (tc_n hl m)
  have hh := Lib.hid h
  have hz := Lib.hid (keep_zero l (isK 0 s 0))
  have hfl := Lib.hid (filter_len l (fun x => !isK 0 s 0 x))
  clear h h1 n1
  have q1 : (0 : Int) ≤ (l.length : Int) := by omega
  have q2 : (l.length : Int) ≤ 8 := by omega
  go_enter Try.func62, Try.ntmps62
  go_wp2_with fail
  clear c
  go_loopw [6] (fun i wr => ∃ (k : Nat) (v : Int), k ≤ l.length ∧ v = ix k ∧ i = .int .i64 v ∧ Tl wr g (keep l (isK 0 s 0) k) m ∧ w.grownBy wr (some g)) (fun i _ => (intOf i + 1).toNat)
  case atStart => exact ⟨l.length, _, by omega, by rw [ix_eq], rfl, by rw [keep_all]; exact hh.out, World.grownBy.refl _ _⟩
  case round =>
    obtain ⟨k, v, hk, hv, rfl, HT, HG⟩ := hrel
    obtain ⟨wo, rfl⟩ : ∃ wo : World, wo = wr := ⟨_, rfl⟩
    cases k with
    | succ j =>
      obtain rfl : v = (j : Int) := hv
      have hq : decide (0 ≤ (j : Int)) = true := by simp
      have hx : l[j]? = some l[j] := List.getElem?_eq_getElem (by omega)
      generalize l[j] = x at hx
      have hkx := keep_at (q := isK 0 s 0) hx
      have hkl := Lib.hid (keep_le l (isK 0 s 0) (j + 1))
      have hkg := Lib.hid (keep_gt (q := isK 0 s 0) (show j < l.length by omega))
      obtain ⟨c0, c1, c2, c3⟩ := range4 (tl_at HT hkx)
      have hT := Lib.hid HT
      have hxx := Lib.hid hx
      have j8 : j < 8 := by omega
      have j8' : (j : Int) < 8 := by omega
      have hix := Lib.hid (ix_eq j)
      have hCx := Lib.hid (hC.out x wo HG)
      clear HT hkx hx
      cases hq2 : isK 0 s 0 x with
      | true =>
        have hky := Lib.hid (keep_yes hxx.out hq2)
        rw [hq2] at hCx
        clear hq2
        go_wp2_with fail
        refine (hCx.out).mono ?_
        rintro r w1 ⟨rfl, b1⟩
        go_wp2_with fail
        refine (hcut.out (keep l (isK 0 s 0) (j + 1)) j w1 (hT.out.below b1) (by have := hkl.out; omega) hkg.out).mono ?_
        rintro r w2 ⟨rfl, h2, g2⟩
        rw [hky.out] at h2
        go_wp2_with fail
        go_roundw
        case rel => exact ⟨j, _, by omega, by rw [hix.out], rfl, h2, World.grownBy.trans HG (World.grownBy.trans (grown_of_below b1 _) g2)⟩
        case measure => first | (simp [intOf]; done) | (simp [intOf]; omega)
      | false =>
        have hky := Lib.hid (keep_no hxx.out hq2)
        rw [hq2] at hCx
        clear hq2
        go_wp2_with fail
        refine (hCx.out).mono ?_
        rintro r w1 ⟨rfl, b1⟩
        have h2 := hT.out.below b1
        go_wp2_with fail
        go_roundw
        case rel => exact ⟨j, _, by omega, by rw [hix.out], rfl, by rw [← hky.out]; exact h2, World.grownBy.trans HG (grown_of_below b1 _)⟩
        case measure => first | (simp [intOf]; done) | (simp [intOf]; omega)
    | zero =>
      obtain rfl : v = -1 := hv
      rw [hz.out] at HT
      have q3 := hfl.out
      obtain ⟨L, hL⟩ : ∃ L, l.filter (fun x => !isK 0 s 0 x) = L := ⟨_, rfl⟩
      rw [hL] at HT q3
      have c := Blk.cellv HT 32 _ (tc_n (by omega) m)
      have hT := Lib.hid HT
      have hL' := Lib.hid hL
      clear HT hL
      have q4 : (0 : Int) ≤ (L.length : Int) := by omega
      have q5 : (L.length : Int) ≤ 8 := by omega
      go_wp2_with fail
      go_ret
      exact ⟨by rw [hL'.out]; rfl, by rw [hL'.out]; exact hT.out, HG⟩
set_option maxRecDepth 100000 in
set_option maxHeartbeats 2000000 in
theorem drop_space (g : Nat) (l : List En) (m s : Int) (b1 : Nat) (w : World) (h : Tl w g l m) (hl : l.length ≤ 8) (h1 : w.cell? ⟨b1, 0, none⟩ = some (.int .i64 s)) (n1 : b1 ≠ g) :
    Calls Try.prog 62 #[.pointer (some ⟨g, 0, none⟩), .func (.func 64) #[] #[.pointer (some ⟨b1, 0, none⟩)]] w fun r w' => r = .returned (.int .i64 ((l.length : Int) - ((l.filter (fun x => !isK 1 s 0 x)).length : Int))) ∧ Tl w' g (l.filter (fun x => !isK 1 s 0 x)) m ∧ w.grownBy w' (some g) := by
  have hC := Lib.hid (fun (x : En) (w' : World) (hg : w.grownBy w' (some g)) => dsp_c x s b1 w' (cell_other hg h1 n1))
  have hcut := Lib.hid (fun (L : List En) i w (h : Tl w g L m) hl hi => cut_c g L m i w h hl hi)
  have c := Blk.cellv h 32 _ (tc_n hl m)
  have hh := Lib.hid h
  have hz := Lib.hid (keep_zero l (isK 1 s 0))
  have hfl := Lib.hid (filter_len l (fun x => !isK 1 s 0 x))
  clear h h1 n1
  have q1 : (0 : Int) ≤ (l.length : Int) := by omega
  have q2 : (l.length : Int) ≤ 8 := by omega
  go_enter Try.func62, Try.ntmps62
  go_wp2_with fail
  clear c
  go_loopw [6] (fun i wr => ∃ (k : Nat) (v : Int), k ≤ l.length ∧ v = ix k ∧ i = .int .i64 v ∧ Tl wr g (keep l (isK 1 s 0) k) m ∧ w.grownBy wr (some g)) (fun i _ => (intOf i + 1).toNat)
  case atStart => exact ⟨l.length, _, by omega, by rw [ix_eq], rfl, by rw [keep_all]; exact hh.out, World.grownBy.refl _ _⟩
  case round =>
    obtain ⟨k, v, hk, hv, rfl, HT, HG⟩ := hrel
    obtain ⟨wo, rfl⟩ : ∃ wo : World, wo = wr := ⟨_, rfl⟩
    cases k with
    | succ j =>
      obtain rfl : v = (j : Int) := hv
      have hq : decide (0 ≤ (j : Int)) = true := by simp
      have hx : l[j]? = some l[j] := List.getElem?_eq_getElem (by omega)
      generalize l[j] = x at hx
      have hkx := keep_at (q := isK 1 s 0) hx
      have hkl := Lib.hid (keep_le l (isK 1 s 0) (j + 1))
      have hkg := Lib.hid (keep_gt (q := isK 1 s 0) (show j < l.length by omega))
      obtain ⟨c0, c1, c2, c3⟩ := range4 (tl_at HT hkx)
      have hT := Lib.hid HT
      have hxx := Lib.hid hx
      have j8 : j < 8 := by omega
      have j8' : (j : Int) < 8 := by omega
      have hix := Lib.hid (ix_eq j)
      have hCx := Lib.hid (hC.out x wo HG)
      clear HT hkx hx
      cases hq2 : isK 1 s 0 x with
      | true =>
        have hky := Lib.hid (keep_yes hxx.out hq2)
        rw [hq2] at hCx
        clear hq2
        go_wp2_with fail
        refine (hCx.out).mono ?_
        rintro r w1 ⟨rfl, b1⟩
        go_wp2_with fail
        refine (hcut.out (keep l (isK 1 s 0) (j + 1)) j w1 (hT.out.below b1) (by have := hkl.out; omega) hkg.out).mono ?_
        rintro r w2 ⟨rfl, h2, g2⟩
        rw [hky.out] at h2
        go_wp2_with fail
        go_roundw
        case rel => exact ⟨j, _, by omega, by rw [hix.out], rfl, h2, World.grownBy.trans HG (World.grownBy.trans (grown_of_below b1 _) g2)⟩
        case measure => first | (simp [intOf]; done) | (simp [intOf]; omega)
      | false =>
        have hky := Lib.hid (keep_no hxx.out hq2)
        rw [hq2] at hCx
        clear hq2
        go_wp2_with fail
        refine (hCx.out).mono ?_
        rintro r w1 ⟨rfl, b1⟩
        have h2 := hT.out.below b1
        go_wp2_with fail
        go_roundw
        case rel => exact ⟨j, _, by omega, by rw [hix.out], rfl, by rw [← hky.out]; exact h2, World.grownBy.trans HG (grown_of_below b1 _)⟩
        case measure => first | (simp [intOf]; done) | (simp [intOf]; omega)
    | zero =>
      obtain rfl : v = -1 := hv
      rw [hz.out] at HT
      have q3 := hfl.out
      obtain ⟨L, hL⟩ : ∃ L, l.filter (fun x => !isK 1 s 0 x) = L := ⟨_, rfl⟩
      rw [hL] at HT q3
      have c := Blk.cellv HT 32 _ (tc_n (by omega) m)
      have hT := Lib.hid HT
      have hL' := Lib.hid hL
      clear HT hL
      have q4 : (0 : Int) ≤ (L.length : Int) := by omega
      have q5 : (L.length : Int) ≤ 8 := by omega
      go_wp2_with fail
      go_ret
      exact ⟨by rw [hL'.out]; rfl, by rw [hL'.out]; exact hT.out, HG⟩
set_option maxRecDepth 100000 in
set_option maxHeartbeats 2000000 in
theorem drop_page (g : Nat) (l : List En) (m s p : Int) (b1 b2 : Nat) (w : World) (h : Tl w g l m) (hl : l.length ≤ 8) (h1 : w.cell? ⟨b1, 0, none⟩ = some (.int .i64 s)) (h2 : w.cell? ⟨b2, 0, none⟩ = some (.int .i64 p)) (n1 : b1 ≠ g) (n2 : b2 ≠ g) :
    Calls Try.prog 62 #[.pointer (some ⟨g, 0, none⟩), .func (.func 65) #[] #[.pointer (some ⟨b1, 0, none⟩), .pointer (some ⟨b2, 0, none⟩)]] w fun r w' => r = .returned (.int .i64 ((l.length : Int) - ((l.filter (fun x => !isK 2 s p x)).length : Int))) ∧ Tl w' g (l.filter (fun x => !isK 2 s p x)) m ∧ w.grownBy w' (some g) := by
  have hC := Lib.hid (fun (x : En) (w' : World) (hg : w.grownBy w' (some g)) => dpg_c x s p b1 b2 w' (cell_other hg h1 n1) (cell_other hg h2 n2))
  have hcut := Lib.hid (fun (L : List En) i w (h : Tl w g L m) hl hi => cut_c g L m i w h hl hi)
  have c := Blk.cellv h 32 _ (tc_n hl m)
  have hh := Lib.hid h
  have hz := Lib.hid (keep_zero l (isK 2 s p))
  have hfl := Lib.hid (filter_len l (fun x => !isK 2 s p x))
  clear h h1 h2 n1 n2
  have q1 : (0 : Int) ≤ (l.length : Int) := by omega
  have q2 : (l.length : Int) ≤ 8 := by omega
  go_enter Try.func62, Try.ntmps62
  go_wp2_with fail
  clear c
  go_loopw [6] (fun i wr => ∃ (k : Nat) (v : Int), k ≤ l.length ∧ v = ix k ∧ i = .int .i64 v ∧ Tl wr g (keep l (isK 2 s p) k) m ∧ w.grownBy wr (some g)) (fun i _ => (intOf i + 1).toNat)
  case atStart => exact ⟨l.length, _, by omega, by rw [ix_eq], rfl, by rw [keep_all]; exact hh.out, World.grownBy.refl _ _⟩
  case round =>
    obtain ⟨k, v, hk, hv, rfl, HT, HG⟩ := hrel
    obtain ⟨wo, rfl⟩ : ∃ wo : World, wo = wr := ⟨_, rfl⟩
    cases k with
    | succ j =>
      obtain rfl : v = (j : Int) := hv
      have hq : decide (0 ≤ (j : Int)) = true := by simp
      have hx : l[j]? = some l[j] := List.getElem?_eq_getElem (by omega)
      generalize l[j] = x at hx
      have hkx := keep_at (q := isK 2 s p) hx
      have hkl := Lib.hid (keep_le l (isK 2 s p) (j + 1))
      have hkg := Lib.hid (keep_gt (q := isK 2 s p) (show j < l.length by omega))
      obtain ⟨c0, c1, c2, c3⟩ := range4 (tl_at HT hkx)
      have hT := Lib.hid HT
      have hxx := Lib.hid hx
      have j8 : j < 8 := by omega
      have j8' : (j : Int) < 8 := by omega
      have hix := Lib.hid (ix_eq j)
      have hCx := Lib.hid (hC.out x wo HG)
      clear HT hkx hx
      cases hq2 : isK 2 s p x with
      | true =>
        have hky := Lib.hid (keep_yes hxx.out hq2)
        rw [hq2] at hCx
        clear hq2
        go_wp2_with fail
        refine (hCx.out).mono ?_
        rintro r w1 ⟨rfl, b1⟩
        go_wp2_with fail
        refine (hcut.out (keep l (isK 2 s p) (j + 1)) j w1 (hT.out.below b1) (by have := hkl.out; omega) hkg.out).mono ?_
        rintro r w2 ⟨rfl, h2, g2⟩
        rw [hky.out] at h2
        go_wp2_with fail
        go_roundw
        case rel => exact ⟨j, _, by omega, by rw [hix.out], rfl, h2, World.grownBy.trans HG (World.grownBy.trans (grown_of_below b1 _) g2)⟩
        case measure => first | (simp [intOf]; done) | (simp [intOf]; omega)
      | false =>
        have hky := Lib.hid (keep_no hxx.out hq2)
        rw [hq2] at hCx
        clear hq2
        go_wp2_with fail
        refine (hCx.out).mono ?_
        rintro r w1 ⟨rfl, b1⟩
        have h2 := hT.out.below b1
        go_wp2_with fail
        go_roundw
        case rel => exact ⟨j, _, by omega, by rw [hix.out], rfl, by rw [← hky.out]; exact h2, World.grownBy.trans HG (grown_of_below b1 _)⟩
        case measure => first | (simp [intOf]; done) | (simp [intOf]; omega)
    | zero =>
      obtain rfl : v = -1 := hv
      rw [hz.out] at HT
      have q3 := hfl.out
      obtain ⟨L, hL⟩ : ∃ L, l.filter (fun x => !isK 2 s p x) = L := ⟨_, rfl⟩
      rw [hL] at HT q3
      have c := Blk.cellv HT 32 _ (tc_n (by omega) m)
      have hT := Lib.hid HT
      have hL' := Lib.hid hL
      clear HT hL
      have q4 : (0 : Int) ≤ (L.length : Int) := by omega
      have q5 : (L.length : Int) ≤ 8 := by omega
      go_wp2_with fail
      go_ret
      exact ⟨by rw [hL'.out]; rfl, by rw [hL'.out]; exact hT.out, HG⟩
set_option maxRecDepth 100000 in
theorem frame_c (g : Nat) (l : List En) (m s : Int) (w : World) (h : Tl w g l m) (hl : l.length ≤ 8) :
    Calls Try.prog 33 #[.pointer (some ⟨g, 0, none⟩), .int .i64 s] w fun r w' => r = .returned (.int .i64 ((l.length : Int) - ((without l 0 s 0).length : Int))) ∧ Tl w' g (without l 0 s 0) m ∧ w.grownBy w' (some g) := by
  have hh := Lib.hid h
  have hgl := h.lt
  clear h
  go_enter Try.func33, Try.ntmps33
  go_wp2_with (first
    | ((with_reducible refine wl_box rfl 3 _ rfl (#[.int .i64 s]) rfl ?_); intro w1 k1 b1 s1))
  refine (drop_frame g l m s _ w1 (hh.out.below b1) hl (k1.cellv 0 _ rfl) (by omega)).mono ?_
  rintro r w3 ⟨rfl, h3, g3⟩
  go_wp2_with fail
  go_ret
  exact ⟨rfl, h3, World.grownBy.trans (grown_of_below b1 _) g3⟩
set_option maxRecDepth 100000 in
theorem space_c (g : Nat) (l : List En) (m s : Int) (w : World) (h : Tl w g l m) (hl : l.length ≤ 8) :
    Calls Try.prog 37 #[.pointer (some ⟨g, 0, none⟩), .int .i64 s] w fun r w' => r = .returned (.int .i64 ((l.length : Int) - ((without l 1 s 0).length : Int))) ∧ Tl w' g (without l 1 s 0) m ∧ w.grownBy w' (some g) := by
  have hh := Lib.hid h
  have hgl := h.lt
  clear h
  go_enter Try.func37, Try.ntmps37
  go_wp2_with (first
    | ((with_reducible refine wl_box rfl 3 _ rfl (#[.int .i64 s]) rfl ?_); intro w1 k1 b1 s1))
  refine (drop_space g l m s _ w1 (hh.out.below b1) hl (k1.cellv 0 _ rfl) (by omega)).mono ?_
  rintro r w3 ⟨rfl, h3, g3⟩
  go_wp2_with fail
  go_ret
  exact ⟨rfl, h3, World.grownBy.trans (grown_of_below b1 _) g3⟩
set_option maxRecDepth 100000 in
theorem page_c (g : Nat) (l : List En) (m s p : Int) (w : World) (h : Tl w g l m) (hl : l.length ≤ 8) :
    Calls Try.prog 38 #[.pointer (some ⟨g, 0, none⟩), .int .i64 s, .int .i64 p] w fun r w' => r = .returned (.int .i64 ((l.length : Int) - ((without l 2 s p).length : Int))) ∧ Tl w' g (without l 2 s p) m ∧ w.grownBy w' (some g) := by
  have hh := Lib.hid h
  have hgl := h.lt
  clear h
  go_enter Try.func38, Try.ntmps38
  go_wp2_with (first
    | ((with_reducible refine wl_box rfl 3 _ rfl (#[.int .i64 s]) rfl ?_); intro w1 k1 b1 s1)
    | ((with_reducible refine wl_box rfl 3 _ rfl (#[.int .i64 p]) rfl ?_); intro w2 k2 b2 s2))
  have z1 := b1.size
  refine (drop_page g l m s p _ _ w2 (hh.out.below (bl_then b1 b2)) hl ((k1.below b2).cellv 0 _ rfl) (k2.cellv 0 _ rfl) (by omega) (by omega)).mono ?_
  rintro r w3 ⟨rfl, h3, g3⟩
  go_wp2_with fail
  go_ret
  exact ⟨rfl, h3, World.grownBy.trans (grown_of_below (bl_then b1 b2) _) g3⟩
end Go.Proofs.Ytdokmnpkihmkpaa.Tlb4
