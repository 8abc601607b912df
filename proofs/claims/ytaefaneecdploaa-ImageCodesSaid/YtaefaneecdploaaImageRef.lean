/- The contract of the reference's Decode. -/
import Derived.Test.YtaefaneecdploaaImage
set_option linter.unusedVariables false
namespace Go.Proofs.Ytaefaneecdploaa.ImageRef
open Go.RowKit Go.Proofs.Ytaefaneecdploaa.Base Go.Proofs.Ytaefaneecdploaa.Math Go.Proofs.Ytaefaneecdploaa.Word Go.Proofs.Ytaefaneecdploaa.Ref01 Go.Proofs.Ytaefaneecdploaa.Row Go.Proofs.Ytaefaneecdploaa.Image


/-- The ways that the reference's tests go. -/
theorem rways (xs : List Int) (ws : List Int) (L m : Nat) (hws : words xs = ws) (hL : ws.length = L) (hm : xs.length = m) (hLm : L = (m + 3) / 4) :
    (m < 16 ∧ okB xs = false) ∨
    (16 ≤ m ∧ ¬ m % 4 = 0 ∧ okB xs = false) ∨
    (16 ≤ m ∧ m % 4 = 0 ∧ ¬ ws[0]?.getD 0 = (1196445263 : Int) ∧ okB xs = false) ∨
    (16 ≤ m ∧ m % 4 = 0 ∧ ws[0]?.getD 0 = (1196445263 : Int) ∧ ¬ ws[3]?.getD 0 = (L : Int) - 4 ∧ okB xs = false) ∨
    (16 ≤ m ∧ m % 4 = 0 ∧ ws[0]?.getD 0 = (1196445263 : Int) ∧ ws[3]?.getD 0 = (L : Int) - 4 ∧ right (ws[1]?.getD 0) (ws[2]?.getD 0) (L - 4) = false ∧ okB xs = false) ∨
    (16 ≤ m ∧ m % 4 = 0 ∧ ws[0]?.getD 0 = (1196445263 : Int) ∧ ws[3]?.getD 0 = (L : Int) - 4 ∧ right (ws[1]?.getD 0) (ws[2]?.getD 0) (L - 4) = true ∧ okB xs = true) := by
  subst hws
  subst hL
  subst hm
  by_cases h2 : 16 ≤ xs.length
  · by_cases h1 : xs.length % 4 = 0
    · by_cases h3 : (words xs)[0]?.getD 0 = 1196445263
      · by_cases h5 : (words xs)[3]?.getD 0 = ((words xs).length : Int) - 4
        · by_cases h6 : right ((words xs)[1]?.getD 0) ((words xs)[2]?.getD 0) ((words xs).length - 4) = true
          · exact .inr (.inr (.inr (.inr (.inr ⟨h2, h1, h3, h5, h6, decide_eq_true ⟨h1, by omega, h3, h5, h6⟩⟩))))
          · exact .inr (.inr (.inr (.inr (.inl ⟨h2, h1, h3, h5, by simpa using h6, decide_eq_false (fun h => h6 h.2.2.2.2)⟩))))
        · exact .inr (.inr (.inr (.inl ⟨h2, h1, h3, h5, decide_eq_false (fun h => h5 h.2.2.2.1)⟩)))
      · exact .inr (.inr (.inl ⟨h2, h1, h3, decide_eq_false (fun h => h3 h.2.2.1)⟩))
    · exact .inr (.inl ⟨h2, h1, decide_eq_false (fun h => h1 h.1)⟩)
  · refine .inl ⟨by omega, decide_eq_false (fun h => ?_)⟩
    have h1 := h.1
    have h4 := h.2.1
    omega

def RefPost (xs : List Int) (w w' : World) (r : Ending) : Prop := (∃ A1 n1 c1, r = .returned (.tuple #[.agg (row3 (dE xs) (dP xs) (.slice A1 n1 c1)), .bool (okB xs)]) ∧ Rd w' .u32 A1 n1 (dW xs) ∧ n1 ≤ c1) ∧ Below w.heap.size w w'

set_option maxHeartbeats 8000000 in
theorem refdecode_c (A : Option Addr) (m c : Nat) (xs : List Int) (w : World) (hr : Rd w .u8 A m xs) (hx : ∀ x ∈ xs, 0 ≤ x ∧ x < 256) (hm : m ≤ 35184372088000) :
    Calls Try.prog 49 #[.slice A m c] w fun r w' => RefPost xs w w' r := by
  have hlen := hr.len
  have hwr := words_range xs hx
  have hHx := Lib.hid hx
  clear hx
  obtain ⟨ws, hws⟩ : ∃ ws, words xs = ws := ⟨_, rfl⟩
  obtain ⟨L, hL⟩ : ∃ L, ws.length = L := ⟨_, rfl⟩
  have hws' := Lib.hid hws
  have hL' := Lib.hid hL
  have hLm : L = (m + 3) / 4 := by rw [← hL, ← hws, ← hlen]; simp [words]
  have hway := rways xs ws L m hws hL hlen hLm
  rw [hws] at hwr
  clear hws hL
  have r0 := getD_mem_range hwr (by omega) 0
  have r1 := getD_mem_range hwr (by omega) 1
  have r2 := getD_mem_range hwr (by omega) 2
  have r3 := getD_mem_range hwr (by omega) 3
  clear hwr
  obtain ⟨x0, e0'⟩ : ∃ x, ws[0]?.getD 0 = x := ⟨_, rfl⟩
  obtain ⟨x1, e1'⟩ : ∃ x, ws[1]?.getD 0 = x := ⟨_, rfl⟩
  obtain ⟨x2, e2'⟩ : ∃ x, ws[2]?.getD 0 = x := ⟨_, rfl⟩
  obtain ⟨x3, e3'⟩ : ∃ x, ws[3]?.getD 0 = x := ⟨_, rfl⟩
  rw [e0', e1', e2', e3'] at hway
  rw [e0'] at r0
  rw [e1'] at r1
  rw [e2'] at r2
  rw [e3'] at r3
  have e0 := Lib.hid e0'
  have e1 := Lib.hid e1'
  have e2 := Lib.hid e2'
  have e3 := Lib.hid e3'
  clear e0' e1' e2' e3'
  rcases hway with ⟨h2, h⟩ | ⟨h2, h1, h⟩ | ⟨h2, h1, h3, h⟩ | ⟨h2, h1, h3, h5, h⟩ | ⟨h2, h1, h3, h5, h6, h⟩ | ⟨h2, h1, h3, h5, h6, h⟩
  · have hno := no_all h
    clear h
    have q1 : decide ((m : Int) < 16) = true := by simp; omega
    clear h2 hLm
    go_enter Try.func49, Try.ntmps49
    go_wp2_with (first
      | ((with_reducible refine wl_alloc rfl 61 rfl (row3 0 0 (.slice none 0 0)) new61 ?_); intro w1 k1 b1 s1)
      | (with_reducible refine wl_build0 rfl 61 rfl (row3 0 0 (.slice none 0 0)) zero61 ?_)
      | ((with_reducible refine wl_store rfl 61 _ _ rfl w.heap.size rfl (row3 0 0 (.slice none 0 0)) rfl 61 (row3 0 0 (.slice none 0 0)) k1 (size61 _ rfl) rfl (one3 _ _ _ _ _) ?_); intro w3 k3 g3 s3))
    refine bodyPost_ret (res_cell_tmp rfl _ _ _ w.heap.size 61 (row3 0 0 (.slice none 0 0)) _ rfl k3 Try.underlying61 rfl (size61 _ rfl)) rfl ⟨⟨none, 0, 0, by rw [hno.out.1, hno.out.2.1, hno.out.2.2.1]; rfl, by rw [hno.out.2.2.2]; exact Rd.nil _ _ _, Nat.le_refl _⟩, ?_⟩
    exact below_grown b1 b1.size g3 (Nat.le_refl _)
  · have hno := no_all h
    clear h
    have q1 : decide ((m : Int) < 16) = false := by simp; omega
    have q0 : ((m : Int) % 4 != 0) = true := by simp; omega
    clear h1 h2 hLm
    go_enter Try.func49, Try.ntmps49
    go_wp2_with (first
      | ((with_reducible refine wl_alloc rfl 61 rfl (row3 0 0 (.slice none 0 0)) new61 ?_); intro w1 k1 b1 s1)
      | (with_reducible refine wl_build0 rfl 61 rfl (row3 0 0 (.slice none 0 0)) zero61 ?_)
      | ((with_reducible refine wl_store rfl 61 _ _ rfl w.heap.size rfl (row3 0 0 (.slice none 0 0)) rfl 61 (row3 0 0 (.slice none 0 0)) k1 (size61 _ rfl) rfl (one3 _ _ _ _ _) ?_); intro w3 k3 g3 s3))
    refine bodyPost_ret (res_cell_tmp rfl _ _ _ w.heap.size 61 (row3 0 0 (.slice none 0 0)) _ rfl k3 Try.underlying61 rfl (size61 _ rfl)) rfl ⟨⟨none, 0, 0, by rw [hno.out.1, hno.out.2.1, hno.out.2.2.1]; rfl, by rw [hno.out.2.2.2]; exact Rd.nil _ _ _, Nat.le_refl _⟩, ?_⟩
    exact below_grown b1 b1.size g3 (Nat.le_refl _)
  · have hno := no_all h
    clear h
    have q1 : decide ((m : Int) < 16) = false := by simp; omega
    have q0 : ((m : Int) % 4 != 0) = false := by simp; omega
    have q2 : (x0 != 1196445263) = true := by simpa using h3
    clear h1 h3
    go_enter Try.func49, Try.ntmps49
    go_wp2_with (first
      | ((with_reducible refine wl_alloc rfl 61 rfl (row3 0 0 (.slice none 0 0)) new61 ?_); intro w1 k1 b1 s1))
    refine (refwords_c A m c xs _ (hr.below b1) hHx.out (by omega)).mono ?_
    rintro r w2 ⟨⟨A2, c2, rfl, HO⟩, b2⟩
    rw [hws'.out, hL'.out] at HO
    rw [hws'.out, hL'.out]
    have K1 := k1.below b2
    have B2 := bl_then b1 b2
    have s2 := b2.size
    clear k1 b1 b2
    have l0 : 0 < L := by omega
    have l1 : 1 < L := by omega
    have l2 : 2 < L := by omega
    have l3 : 3 < L := by omega
    have l1' : (1 : Int) < L := by omega
    have l2' : (2 : Int) < L := by omega
    have l3' : (3 : Int) < L := by omega
    have l4 : 4 ≤ L := by omega
    have l4' : (4 : Int) ≤ L := by omega
    have hLb : L ≤ 9000000000000000 := by omega
    obtain ⟨ad, rfl, hcs⟩ := (Rd.of_own HO).cells (by omega)
    have hc0 := hcs 0 (by omega)
    have hc1 := hcs 1 (by omega)
    have hc2 := hcs 2 (by omega)
    have hc3 := hcs 3 (by omega)
    rw [show ad.add 0 = ad from by unfold Addr.add; simp] at hc0
    rw [e0.out] at hc0
    rw [show ad.add 1 = ⟨ad.block, ad.off + 1, none⟩ from rfl, e1.out] at hc1
    rw [show ad.add 2 = ⟨ad.block, ad.off + 2, none⟩ from rfl, e2.out] at hc2
    rw [show ad.add 3 = ⟨ad.block, ad.off + 3, none⟩ from rfl, e3.out] at hc3
    have hcap := own_cap HO
    have v2 : wrap64 x2 = x2 := by unfold wrap64; omega
    have hc1a := bl_cell (bl_alloc (bl_refl w2) (Obj.cells #[.int .u32 0, .int .i64 0, .slice none 0 0] 61)) hc1
    have hc2a := bl_cell (bl_alloc (bl_refl w2) (Obj.cells #[.int .u32 0, .int .i64 0, .slice none 0 0] 61)) hc2
    clear hLm hcs
    go_wp2_with fail
    go_region
    have hRd := (Rd.of_own HO).cut l4 hcap
    obtain ⟨A3, hA3⟩ : ∃ A3, (if c2 = 4 then some ad else some (⟨ad.block, ad.off + 4, none⟩ : Addr)) = A3 := ⟨_, rfl⟩
    rw [hA3]
    have hRd' : Rd w2 .u32 A3 (L - 4) (ws.drop 4) := by rw [← hA3]; exact hRd
    have k4 : Blk (w2.alloc (Obj.cells #[.int .u32 x1, .int .i64 x2, .slice A3 (L - 4) (c2 - 4)] 61)).drew w2.heap.size 61 (row3 x1 x2 (.slice A3 (L - 4) (c2 - 4))) := (Blk.new w2 _ _).drew
    have K4 := (K1.alloc (Obj.cells #[.int .u32 x1, .int .i64 x2, .slice A3 (L - 4) (c2 - 4)] 61)).drew
    have B4 := bl_drew (bl_alloc B2 (Obj.cells #[.int .u32 x1, .int .i64 x2, .slice A3 (L - 4) (c2 - 4)] 61))
    have hc0b := bl_cell (bl_drew (bl_alloc (bl_refl w2) (Obj.cells #[.int .u32 x1, .int .i64 x2, .slice A3 (L - 4) (c2 - 4)] 61))) hc0
    have hc3b := bl_cell (bl_drew (bl_alloc (bl_refl w2) (Obj.cells #[.int .u32 x1, .int .i64 x2, .slice A3 (L - 4) (c2 - 4)] 61))) hc3
    have HO4 := own_below HO (bl_drew (bl_alloc (bl_refl w2) (Obj.cells #[.int .u32 x1, .int .i64 x2, .slice A3 (L - 4) (c2 - 4)] 61)))
    have hA3' := Lib.hid hA3
    clear hA3 hRd hRd' hc0 hc1 hc2 hc3 hc1a hc2a K1 B2 HO
    go_wp2_with (first
      | (with_reducible refine wl_build0 rfl 61 rfl (row3 0 0 (.slice none 0 0)) zero61 ?_)
      | ((with_reducible refine wl_store rfl 61 _ _ rfl w.heap.size rfl (row3 0 0 (.slice none 0 0)) rfl 61 (row3 0 0 (.slice none 0 0)) K4 (size61 _ rfl) rfl (one3 _ _ _ _ _) ?_); intro w6 k6 g6 s6))
    refine bodyPost_ret (res_cell_tmp rfl _ _ _ w.heap.size 61 (row3 0 0 (.slice none 0 0)) _ rfl k6 Try.underlying61 rfl (size61 _ rfl)) rfl ⟨⟨none, 0, 0, by rw [hno.out.1, hno.out.2.1, hno.out.2.2.1]; rfl, by rw [hno.out.2.2.2]; exact Rd.nil _ _ _, Nat.le_refl _⟩, ?_⟩
    exact below_grown B4 B4.size g6 (Nat.le_refl _)
  · have hno := no_all h
    clear h
    have q1 : decide ((m : Int) < 16) = false := by simp; omega
    have q0 : ((m : Int) % 4 != 0) = false := by simp; omega
    have q2 : (x0 != 1196445263) = false := by simp [h3]
    have v3 : wrap64 x3 = x3 := by unfold wrap64; omega
    have vL : wrap64 ((L : Int) - 4) = (L : Int) - 4 := by unfold wrap64; omega
    have q4 : (x3 != (L : Int) - 4) = true := by simpa using h5
    clear h1 h3 h5
    go_enter Try.func49, Try.ntmps49
    go_wp2_with (first
      | ((with_reducible refine wl_alloc rfl 61 rfl (row3 0 0 (.slice none 0 0)) new61 ?_); intro w1 k1 b1 s1))
    refine (refwords_c A m c xs _ (hr.below b1) hHx.out (by omega)).mono ?_
    rintro r w2 ⟨⟨A2, c2, rfl, HO⟩, b2⟩
    rw [hws'.out, hL'.out] at HO
    rw [hws'.out, hL'.out]
    have K1 := k1.below b2
    have B2 := bl_then b1 b2
    have s2 := b2.size
    clear k1 b1 b2
    have l0 : 0 < L := by omega
    have l1 : 1 < L := by omega
    have l2 : 2 < L := by omega
    have l3 : 3 < L := by omega
    have l1' : (1 : Int) < L := by omega
    have l2' : (2 : Int) < L := by omega
    have l3' : (3 : Int) < L := by omega
    have l4 : 4 ≤ L := by omega
    have l4' : (4 : Int) ≤ L := by omega
    have hLb : L ≤ 9000000000000000 := by omega
    obtain ⟨ad, rfl, hcs⟩ := (Rd.of_own HO).cells (by omega)
    have hc0 := hcs 0 (by omega)
    have hc1 := hcs 1 (by omega)
    have hc2 := hcs 2 (by omega)
    have hc3 := hcs 3 (by omega)
    rw [show ad.add 0 = ad from by unfold Addr.add; simp] at hc0
    rw [e0.out] at hc0
    rw [show ad.add 1 = ⟨ad.block, ad.off + 1, none⟩ from rfl, e1.out] at hc1
    rw [show ad.add 2 = ⟨ad.block, ad.off + 2, none⟩ from rfl, e2.out] at hc2
    rw [show ad.add 3 = ⟨ad.block, ad.off + 3, none⟩ from rfl, e3.out] at hc3
    have hcap := own_cap HO
    have v2 : wrap64 x2 = x2 := by unfold wrap64; omega
    have hc1a := bl_cell (bl_alloc (bl_refl w2) (Obj.cells #[.int .u32 0, .int .i64 0, .slice none 0 0] 61)) hc1
    have hc2a := bl_cell (bl_alloc (bl_refl w2) (Obj.cells #[.int .u32 0, .int .i64 0, .slice none 0 0] 61)) hc2
    clear hLm hcs
    go_wp2_with fail
    go_region
    have hRd := (Rd.of_own HO).cut l4 hcap
    obtain ⟨A3, hA3⟩ : ∃ A3, (if c2 = 4 then some ad else some (⟨ad.block, ad.off + 4, none⟩ : Addr)) = A3 := ⟨_, rfl⟩
    rw [hA3]
    have hRd' : Rd w2 .u32 A3 (L - 4) (ws.drop 4) := by rw [← hA3]; exact hRd
    have k4 : Blk (w2.alloc (Obj.cells #[.int .u32 x1, .int .i64 x2, .slice A3 (L - 4) (c2 - 4)] 61)).drew w2.heap.size 61 (row3 x1 x2 (.slice A3 (L - 4) (c2 - 4))) := (Blk.new w2 _ _).drew
    have K4 := (K1.alloc (Obj.cells #[.int .u32 x1, .int .i64 x2, .slice A3 (L - 4) (c2 - 4)] 61)).drew
    have B4 := bl_drew (bl_alloc B2 (Obj.cells #[.int .u32 x1, .int .i64 x2, .slice A3 (L - 4) (c2 - 4)] 61))
    have hc0b := bl_cell (bl_drew (bl_alloc (bl_refl w2) (Obj.cells #[.int .u32 x1, .int .i64 x2, .slice A3 (L - 4) (c2 - 4)] 61))) hc0
    have hc3b := bl_cell (bl_drew (bl_alloc (bl_refl w2) (Obj.cells #[.int .u32 x1, .int .i64 x2, .slice A3 (L - 4) (c2 - 4)] 61))) hc3
    have HO4 := own_below HO (bl_drew (bl_alloc (bl_refl w2) (Obj.cells #[.int .u32 x1, .int .i64 x2, .slice A3 (L - 4) (c2 - 4)] 61)))
    have hA3' := Lib.hid hA3
    clear hA3 hRd hRd' hc0 hc1 hc2 hc3 hc1a hc2a K1 B2 HO
    go_wp2_with (first
      | (with_reducible refine wl_build0 rfl 61 rfl (row3 0 0 (.slice none 0 0)) zero61 ?_)
      | ((with_reducible refine wl_store rfl 61 _ _ rfl w.heap.size rfl (row3 0 0 (.slice none 0 0)) rfl 61 (row3 0 0 (.slice none 0 0)) K4 (size61 _ rfl) rfl (one3 _ _ _ _ _) ?_); intro w6 k6 g6 s6))
    refine bodyPost_ret (res_cell_tmp rfl _ _ _ w.heap.size 61 (row3 0 0 (.slice none 0 0)) _ rfl k6 Try.underlying61 rfl (size61 _ rfl)) rfl ⟨⟨none, 0, 0, by rw [hno.out.1, hno.out.2.1, hno.out.2.2.1]; rfl, by rw [hno.out.2.2.2]; exact Rd.nil _ _ _, Nat.le_refl _⟩, ?_⟩
    exact below_grown B4 B4.size g6 (Nat.le_refl _)
  · have hno := no_all h
    clear h
    have q1 : decide ((m : Int) < 16) = false := by simp; omega
    have q0 : ((m : Int) % 4 != 0) = false := by simp; omega
    have q2 : (x0 != 1196445263) = false := by simp [h3]
    have v3 : wrap64 x3 = x3 := by unfold wrap64; omega
    have vL : wrap64 ((L : Int) - 4) = (L : Int) - 4 := by unfold wrap64; omega
    have q4 : (x3 != (L : Int) - 4) = false := by simp [h5]
    clear h1 h3 h5
    go_enter Try.func49, Try.ntmps49
    go_wp2_with (first
      | ((with_reducible refine wl_alloc rfl 61 rfl (row3 0 0 (.slice none 0 0)) new61 ?_); intro w1 k1 b1 s1))
    refine (refwords_c A m c xs _ (hr.below b1) hHx.out (by omega)).mono ?_
    rintro r w2 ⟨⟨A2, c2, rfl, HO⟩, b2⟩
    rw [hws'.out, hL'.out] at HO
    rw [hws'.out, hL'.out]
    have K1 := k1.below b2
    have B2 := bl_then b1 b2
    have s2 := b2.size
    clear k1 b1 b2
    have l0 : 0 < L := by omega
    have l1 : 1 < L := by omega
    have l2 : 2 < L := by omega
    have l3 : 3 < L := by omega
    have l1' : (1 : Int) < L := by omega
    have l2' : (2 : Int) < L := by omega
    have l3' : (3 : Int) < L := by omega
    have l4 : 4 ≤ L := by omega
    have l4' : (4 : Int) ≤ L := by omega
    have hLb : L ≤ 9000000000000000 := by omega
    obtain ⟨ad, rfl, hcs⟩ := (Rd.of_own HO).cells (by omega)
    have hc0 := hcs 0 (by omega)
    have hc1 := hcs 1 (by omega)
    have hc2 := hcs 2 (by omega)
    have hc3 := hcs 3 (by omega)
    rw [show ad.add 0 = ad from by unfold Addr.add; simp] at hc0
    rw [e0.out] at hc0
    rw [show ad.add 1 = ⟨ad.block, ad.off + 1, none⟩ from rfl, e1.out] at hc1
    rw [show ad.add 2 = ⟨ad.block, ad.off + 2, none⟩ from rfl, e2.out] at hc2
    rw [show ad.add 3 = ⟨ad.block, ad.off + 3, none⟩ from rfl, e3.out] at hc3
    have hcap := own_cap HO
    have v2 : wrap64 x2 = x2 := by unfold wrap64; omega
    have hc1a := bl_cell (bl_alloc (bl_refl w2) (Obj.cells #[.int .u32 0, .int .i64 0, .slice none 0 0] 61)) hc1
    have hc2a := bl_cell (bl_alloc (bl_refl w2) (Obj.cells #[.int .u32 0, .int .i64 0, .slice none 0 0] 61)) hc2
    clear hLm hcs
    go_wp2_with fail
    go_region
    have hRd := (Rd.of_own HO).cut l4 hcap
    obtain ⟨A3, hA3⟩ : ∃ A3, (if c2 = 4 then some ad else some (⟨ad.block, ad.off + 4, none⟩ : Addr)) = A3 := ⟨_, rfl⟩
    rw [hA3]
    have hRd' : Rd w2 .u32 A3 (L - 4) (ws.drop 4) := by rw [← hA3]; exact hRd
    have k4 : Blk (w2.alloc (Obj.cells #[.int .u32 x1, .int .i64 x2, .slice A3 (L - 4) (c2 - 4)] 61)).drew w2.heap.size 61 (row3 x1 x2 (.slice A3 (L - 4) (c2 - 4))) := (Blk.new w2 _ _).drew
    have K4 := (K1.alloc (Obj.cells #[.int .u32 x1, .int .i64 x2, .slice A3 (L - 4) (c2 - 4)] 61)).drew
    have B4 := bl_drew (bl_alloc B2 (Obj.cells #[.int .u32 x1, .int .i64 x2, .slice A3 (L - 4) (c2 - 4)] 61))
    have hc0b := bl_cell (bl_drew (bl_alloc (bl_refl w2) (Obj.cells #[.int .u32 x1, .int .i64 x2, .slice A3 (L - 4) (c2 - 4)] 61))) hc0
    have hc3b := bl_cell (bl_drew (bl_alloc (bl_refl w2) (Obj.cells #[.int .u32 x1, .int .i64 x2, .slice A3 (L - 4) (c2 - 4)] 61))) hc3
    have HO4 := own_below HO (bl_drew (bl_alloc (bl_refl w2) (Obj.cells #[.int .u32 x1, .int .i64 x2, .slice A3 (L - 4) (c2 - 4)] 61)))
    have hA3' := Lib.hid hA3
    clear hA3 hRd hRd' hc0 hc1 hc2 hc3 hc1a hc2a K1 B2 HO
    go_wp2_with (first
      | ((with_reducible refine wl_load_on rfl 61 _ rfl w2.heap.size rfl 61 (row3 x1 x2 (.slice A3 (L - 4) (c2 - 4))) _ k4 Try.underlying61 rfl (size61 _ rfl) ?hop ?_); (case hop => exact ⟨_, _, rfl, rfl, rfl⟩)))
    refine (refright_c x1 x2 A3 (L - 4) (c2 - 4) _ r1 (by omega)).mono ?_
    rintro r w5 ⟨rfl, b5⟩
    rw [h6]
    have HO5 := own_below HO4 b5
    have k5 := k4.below b5
    have K5 := K4.below b5
    have B5 := bl_then B4 b5
    clear k4 K4 B4 b5 h6 HO4 hc0b hc3b
    go_wp2_with (first
      | (with_reducible refine wl_build0 rfl 61 rfl (row3 0 0 (.slice none 0 0)) zero61 ?_)
      | ((with_reducible refine wl_store rfl 61 _ _ rfl w.heap.size rfl (row3 0 0 (.slice none 0 0)) rfl 61 (row3 0 0 (.slice none 0 0)) K5 (size61 _ rfl) rfl (one3 _ _ _ _ _) ?_); intro w6 k6 g6 s6))
    refine bodyPost_ret (res_cell_tmp rfl _ _ _ w.heap.size 61 (row3 0 0 (.slice none 0 0)) _ rfl k6 Try.underlying61 rfl (size61 _ rfl)) rfl ⟨⟨none, 0, 0, by rw [hno.out.1, hno.out.2.1, hno.out.2.2.1]; rfl, by rw [hno.out.2.2.2]; exact Rd.nil _ _ _, Nat.le_refl _⟩, ?_⟩
    exact below_grown B5 B5.size g6 (Nat.le_refl _)
  · have hyes := yes_all h
    clear h
    have q1 : decide ((m : Int) < 16) = false := by simp; omega
    have q0 : ((m : Int) % 4 != 0) = false := by simp; omega
    have q2 : (x0 != 1196445263) = false := by simp [h3]
    have v3 : wrap64 x3 = x3 := by unfold wrap64; omega
    have vL : wrap64 ((L : Int) - 4) = (L : Int) - 4 := by unfold wrap64; omega
    have q4 : (x3 != (L : Int) - 4) = false := by simp [h5]
    clear h1 h3 h5
    go_enter Try.func49, Try.ntmps49
    go_wp2_with (first
      | ((with_reducible refine wl_alloc rfl 61 rfl (row3 0 0 (.slice none 0 0)) new61 ?_); intro w1 k1 b1 s1))
    refine (refwords_c A m c xs _ (hr.below b1) hHx.out (by omega)).mono ?_
    rintro r w2 ⟨⟨A2, c2, rfl, HO⟩, b2⟩
    rw [hws'.out, hL'.out] at HO
    rw [hws'.out, hL'.out]
    have K1 := k1.below b2
    have B2 := bl_then b1 b2
    have s2 := b2.size
    clear k1 b1 b2
    have l0 : 0 < L := by omega
    have l1 : 1 < L := by omega
    have l2 : 2 < L := by omega
    have l3 : 3 < L := by omega
    have l1' : (1 : Int) < L := by omega
    have l2' : (2 : Int) < L := by omega
    have l3' : (3 : Int) < L := by omega
    have l4 : 4 ≤ L := by omega
    have l4' : (4 : Int) ≤ L := by omega
    have hLb : L ≤ 9000000000000000 := by omega
    obtain ⟨ad, rfl, hcs⟩ := (Rd.of_own HO).cells (by omega)
    have hc0 := hcs 0 (by omega)
    have hc1 := hcs 1 (by omega)
    have hc2 := hcs 2 (by omega)
    have hc3 := hcs 3 (by omega)
    rw [show ad.add 0 = ad from by unfold Addr.add; simp] at hc0
    rw [e0.out] at hc0
    rw [show ad.add 1 = ⟨ad.block, ad.off + 1, none⟩ from rfl, e1.out] at hc1
    rw [show ad.add 2 = ⟨ad.block, ad.off + 2, none⟩ from rfl, e2.out] at hc2
    rw [show ad.add 3 = ⟨ad.block, ad.off + 3, none⟩ from rfl, e3.out] at hc3
    have hcap := own_cap HO
    have v2 : wrap64 x2 = x2 := by unfold wrap64; omega
    have hc1a := bl_cell (bl_alloc (bl_refl w2) (Obj.cells #[.int .u32 0, .int .i64 0, .slice none 0 0] 61)) hc1
    have hc2a := bl_cell (bl_alloc (bl_refl w2) (Obj.cells #[.int .u32 0, .int .i64 0, .slice none 0 0] 61)) hc2
    clear hLm hcs
    go_wp2_with fail
    go_region
    have hRd := (Rd.of_own HO).cut l4 hcap
    obtain ⟨A3, hA3⟩ : ∃ A3, (if c2 = 4 then some ad else some (⟨ad.block, ad.off + 4, none⟩ : Addr)) = A3 := ⟨_, rfl⟩
    rw [hA3]
    have hRd' : Rd w2 .u32 A3 (L - 4) (ws.drop 4) := by rw [← hA3]; exact hRd
    have k4 : Blk (w2.alloc (Obj.cells #[.int .u32 x1, .int .i64 x2, .slice A3 (L - 4) (c2 - 4)] 61)).drew w2.heap.size 61 (row3 x1 x2 (.slice A3 (L - 4) (c2 - 4))) := (Blk.new w2 _ _).drew
    have K4 := (K1.alloc (Obj.cells #[.int .u32 x1, .int .i64 x2, .slice A3 (L - 4) (c2 - 4)] 61)).drew
    have B4 := bl_drew (bl_alloc B2 (Obj.cells #[.int .u32 x1, .int .i64 x2, .slice A3 (L - 4) (c2 - 4)] 61))
    have hc0b := bl_cell (bl_drew (bl_alloc (bl_refl w2) (Obj.cells #[.int .u32 x1, .int .i64 x2, .slice A3 (L - 4) (c2 - 4)] 61))) hc0
    have hc3b := bl_cell (bl_drew (bl_alloc (bl_refl w2) (Obj.cells #[.int .u32 x1, .int .i64 x2, .slice A3 (L - 4) (c2 - 4)] 61))) hc3
    have HO4 := own_below HO (bl_drew (bl_alloc (bl_refl w2) (Obj.cells #[.int .u32 x1, .int .i64 x2, .slice A3 (L - 4) (c2 - 4)] 61)))
    have hA3' := Lib.hid hA3
    clear hA3 hRd hRd' hc0 hc1 hc2 hc3 hc1a hc2a K1 B2 HO
    go_wp2_with (first
      | ((with_reducible refine wl_load_on rfl 61 _ rfl w2.heap.size rfl 61 (row3 x1 x2 (.slice A3 (L - 4) (c2 - 4))) _ k4 Try.underlying61 rfl (size61 _ rfl) ?hop ?_); (case hop => exact ⟨_, _, rfl, rfl, rfl⟩)))
    refine (refright_c x1 x2 A3 (L - 4) (c2 - 4) _ r1 (by omega)).mono ?_
    rintro r w5 ⟨rfl, b5⟩
    rw [h6]
    have HO5 := own_below HO4 b5
    have k5 := k4.below b5
    have K5 := K4.below b5
    have B5 := bl_then B4 b5
    clear k4 K4 B4 b5 h6 HO4 hc0b hc3b
    go_wp2_with (first
      | (with_reducible refine wl_load rfl 61 _ rfl w2.heap.size rfl 61 (row3 x1 x2 (.slice A3 (L - 4) (c2 - 4))) _ k5 Try.underlying61 rfl (size61 _ rfl) ?_)
      | ((with_reducible refine wl_store rfl 61 _ _ rfl w.heap.size rfl (row3 x1 x2 (.slice A3 (L - 4) (c2 - 4))) rfl 61 (row3 0 0 (.slice none 0 0)) K5 (size61 _ rfl) rfl (one3 _ _ _ _ _) ?_); intro w6 k6 g6 s6))
    refine bodyPost_ret (res_cell_tmp rfl _ _ _ w.heap.size 61 (row3 x1 x2 (.slice A3 (L - 4) (c2 - 4))) _ rfl k6 Try.underlying61 rfl (size61 _ rfl)) rfl ⟨⟨A3, L - 4, c2 - 4, by rw [hyes.out.1, hyes.out.2.1, hyes.out.2.2.1, hws'.out, e1.out, e2.out]; rfl, ?_, by omega⟩, ?_⟩
    · rw [hyes.out.2.2.2, hws'.out, ← hA3'.out]
      exact (Rd.of_own (own_kept HO5 g6 (by omega))).cut l4 hcap
    · exact below_grown B5 B5.size g6 (Nat.le_refl _)
end Go.Proofs.Ytaefaneecdploaa.ImageRef
