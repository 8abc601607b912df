/- ImageCodes: at every image the law's text returns true. -/
import Derived.Test.YtaefaneecdploaaImageAwake
import Derived.Lib.SmallJoins
import Derived.ChangeArms
import Derived.ChangeSlices
set_option linter.unusedVariables false
namespace Go.Proofs.Ytaefaneecdploaa.ImageCodes
open Go.RowKit Go.Proofs.Ytaefaneecdploaa.Base Go.Proofs.Ytaefaneecdploaa.Math Go.Proofs.Ytaefaneecdploaa.Ref01 Go.Proofs.Ytaefaneecdploaa.Row Go.Proofs.Ytaefaneecdploaa.Image Go.Proofs.Ytaefaneecdploaa.ImageRef Go.Proofs.Ytaefaneecdploaa.ImageCode Go.Proofs.Ytaefaneecdploaa.ImageAwake
open Go.Joins Go.ChangeShapes Go.WideShapes

/-- What the argument is. -/
def Arg (i : Nat) (w : World) (v : Value) : Prop := ∃ e p A n c zs, v = .agg #[.int .u32 e, .int .i64 p, .slice A n c] ∧ (0 ≤ e ∧ e < 4294967296) ∧ IsRow .u32 w A n c zs
theorem arg0 {H : Type} {enc : TypeId × Value → H} {W : World} {base : Nat} {v : Value} {d : DataW H} {p : List MemPlace} (hv : Value.okWide Try.prog W .any base 61 v)
    (h : DataW.Trod enc Try.prog W 0 (fun _ => true) true 61 v d p) : Arg 0 W v := by
  obtain ⟨v0, v1, v2, y0, y1, y2, n, rfl, _, _, h0, h1, h2⟩ := open_agg3 Try.underlying61 (by kernel_rfl) (by kernel_rfl) hv h
  obtain ⟨e, he, _, hw⟩ := DataW.trod_int Try.underlying22 h0
  obtain ⟨p', hp, _, _⟩ := DataW.trod_int Try.underlying3 h1
  injection he with he
  injection hp with hp
  subst he
  subst hp
  have hr := wf_u32_range hw
  rcases open_ints Try.underlying33 Try.underlying22 (by kernel_rfl) h2 with ⟨hcs, _⟩ | ⟨x, l, c, zs, hcs, _, hl, hm, hz, _, hcell, hwz⟩
  · injection hcs with hcs
    subst hcs
    exact ⟨e, p', none, 0, 0, [], rfl, hr, .inl ⟨rfl, rfl, rfl, rfl⟩⟩
  · injection hcs with hcs
    subst hcs
    exact ⟨e, p', some x, l, c, zs, rfl, hr, .inr ⟨x, rfl, hl, hm, by simpa using hz, hcell, hwz⟩⟩

set_option maxHeartbeats 4000000 in
theorem mine_c (e p : Int) (A : Option Addr) (n c : Nat) (w : World) :
    Calls Try.prog 42 #[.agg #[.int .u32 e, .int .i64 p, .slice A n c]] w fun r w' => r = .returned (.agg #[.int .u32 e, .int .i64 p, .slice A n c]) ∧ Below w.heap.size w w' := by
  go_enter Try.func42, Try.ntmps42
  go_wp2_with (first
    | ((with_reducible refine wl_box rfl 61 _ rfl (row3 e p (.slice A n c)) rfl ?_); intro w1 k1 b1 s1)
    | ((with_reducible refine wl_alloc rfl 64 rfl (row3 0 0 (.slice none 0 0)) new64 ?_); intro w2 k2 b2 s2; have k1' := k1.below b2; have f0 := k1'.cellv 0 (.int .u32 e) rfl; have f1 := k1'.cellv 1 (.int .i64 p) rfl; have f2 := k1'.cellv 2 (.slice A n c) rfl)
    | ((with_reducible refine wl_store rfl 64 _ _ rfl w1.heap.size rfl (row3 e p (.slice A n c)) rfl 64 (row3 0 0 (.slice none 0 0)) k2 (size64 _ rfl) rfl (one3 _ _ _ _ _) ?_); intro w3 k3 g3 s3))
  refine bodyPost_ret (res_cell rfl _ _ _ w1.heap.size 64 (row3 e p (.slice A n c)) _ rfl k3 Try.underlying64 rfl (size64 _ rfl)) rfl ⟨rfl, ?_⟩
  exact below_grown (bl_then b1 b2) (Nat.le_trans b1.size b2.size) g3 (by omega)

theorem img_words (e p : Int) (ws : List Int) (he : 0 ≤ e ∧ e < 4294967296) (hx : ∀ x ∈ ws, 0 ≤ x ∧ x < 4294967296) (h : right e p ws.length = true) : ∀ x ∈ img e p ws, 0 ≤ x ∧ x < 4294967296 := by
  obtain ⟨⟨p1, p2, p3, p4⟩, p5, p6⟩ := of_decide_eq_true h
  intro x hx'
  rcases List.mem_append.1 hx' with h | h
  · simp only [List.mem_cons, List.not_mem_nil, or_false] at h
    rcases h with rfl | rfl | rfl | rfl <;> omega
  · exact hx x h
theorem back (e p : Int) (ws : List Int) (he : 0 ≤ e ∧ e < 4294967296) (hx : ∀ x ∈ ws, 0 ≤ x ∧ x < 4294967296) (h : right e p ws.length = true) :
    okB (flat (img e p ws)) = true ∧ dE (flat (img e p ws)) = e ∧ dP (flat (img e p ws)) = p ∧ dW (flat (img e p ws)) = ws := by
  have hw : words (flat (img e p ws)) = img e p ws := words_flat _ (img_words e p ws he hx h)
  have hl : (img e p ws).length = ws.length + 4 := by simp [img]
  have hok : okB (flat (img e p ws)) = true := by
    refine decide_eq_true ⟨by rw [flat_length]; omega, by rw [hw]; omega, by rw [hw]; rfl, by rw [hw, hl]; simp [img], ?_⟩
    rw [hw, hl]
    exact h
  refine ⟨hok, ?_, ?_, ?_⟩
  · unfold dE; rw [if_pos hok, hw]; rfl
  · unfold dP; rw [if_pos hok, hw]; rfl
  · unfold dW; rw [if_pos hok, hw]; rfl

set_option maxHeartbeats 8000000 in
theorem main (e p : Int) (A : Option Addr) (n c : Nat) (xs : List Int) (w : World) (he : 0 ≤ e ∧ e < 4294967296) (hr : Rd w .u32 A n xs) (hx : ∀ x ∈ xs, 0 ≤ x ∧ x < 4294967296) (hnc : n ≤ c) (hA : A = none → c = 0) (ys : List Int) (m : Nat) (hm : m ≤ 700) (hmn : m ≤ n) (hys : ys = xs.take m) (h3 : n ≤ 700 → m = n) (h4 : 700 < n → m = 700) :
    Calls Try.prog 10 #[.agg #[.int .u32 e, .int .i64 p, .slice A n c]] w fun e w' => e = .returned (.bool true) ∧ Below w.heap.size w w' := by
  have hR : Rd w .u32 A m ys := by subst hys; exact hr.take hmn
  have hy : Hid (∀ x ∈ ys, 0 ≤ x ∧ x < 4294967296) := Lib.hid (by subst hys; exact fun x h => hx x (List.mem_of_mem_take h))
  have hnm := hr.max
  have he' := Lib.hid he
  have hA' := Lib.hid hA
  have hlen := Lib.hid hR.len
  have h33 : Hid ((Try.prog.info? 33).map (·.size) = some 1) := Lib.hid (by kernel_rfl)
  clear hys hr hx he hA
  by_cases hn : 700 < n
  · obtain rfl := h4 hn
    have hq : decide (700 < (n : Int)) = true := by simp; omega
    have hlt2 : Hid (2 < (row3 e p (.slice A n c)).size) := Lib.hid (by simp [row3])
    have hc7 : (700 : Int) ≤ (c : Int) := by omega
    have hc7' : 700 ≤ c := by omega
    by_cases hrb0 : right e p 700 = true
    · have hrb := Lib.hid hrb0
      have hbk := Lib.hid (back e p ys he'.out hy.out (by rw [hlen.out]; exact hrb0))
      have hfr := Lib.hid (flat_range _ (img_words e p ys he'.out hy.out (by rw [hlen.out]; exact hrb0)))
      have hbe : Hid ((flat (img e p ys) == flat (img e p ys)) = true) := Lib.hid (by simp)
      clear hrb0 hn
      go_enter Try.func10, Try.ntmps10
      go_wp2_with (first
        | ((with_reducible refine wl_box rfl 61 _ rfl (row3 e p (.slice A n c)) rfl ?_); intro w1 k1 b1 s1; have f1 := k1.cellv 2 (.slice A n c) rfl)
        | ((with_reducible refine wl_set rfl 33 _ _ rfl w.heap.size 2 rfl (.slice A 700 c) rfl rfl 61 (row3 e p (.slice A n c)) k1 h33.out hlt2.out ?_); intro w2 k2' g2 s2; have k2 : Blk w2 w.heap.size 61 (row3 e p (.slice A 700 c)) := k2')
        | ((with_reducible refine wl_load rfl 61 _ rfl w.heap.size rfl 61 (row3 e p (.slice A 700 c)) _ k2 Try.underlying61 rfl (size61 _ rfl) ?_)))
      refine (mine_c e p A 700 c _).mono ?_
      rintro r w3 ⟨rfl, b3⟩
      have B2 := below_grown b1 b1.size g2 (Nat.le_refl _)
      have k3 := (k2).below b3
      have B3 := bl_then B2 b3
      have hR3 := hR.below B3
      clear b3 f1 k1 b1 hR k2 k2' g2 B2 
      go_wp2_with fail
      refine (encode_yes e p A 700 c ys w3 he'.out hR3 hy.out hrb.out).mono ?_
      rintro r w4 ⟨⟨A1, c1, rfl, HO1⟩, b4⟩
      have k4 := k3.below b4
      have B4 := bl_then B3 b4
      have hR4 := hR3.below b4
      have f0 := k4.cellv 0 (.int .u32 e) rfl
      have f1 := k4.cellv 1 (.int .i64 p) rfl
      have f2 := k4.cellv 2 (.slice A 700 c) rfl
      have bd := bl_drew (bl_refl w4)
      clear hR3 B3 k3 b4
      go_wp2_with fail
      go_region_law (first
        | (go_simp; go_at_call 43; refine (refright_c e p A 700 c _ he'.out (by omega)).mono ?_; rintro r wx ⟨rfl, bx⟩; rw [hrb.out]; have f0 := bl_cell bx f0; have f1 := bl_cell bx f1; have f2 := bl_cell bx f2; have bd := bl_then bd bx; clear bx)
        | (go_simp; go_at_call 42; refine (mine_c e p A 700 c _).mono ?_; rintro r wx ⟨rfl, bx⟩; have f0 := bl_cell bx f0; have f1 := bl_cell bx f1; have f2 := bl_cell bx f2; have bd := bl_then bd bx; clear bx)
        | (go_simp; go_at_call 44; refine (right_c e p A 700 c _ he'.out (by omega)).mono ?_; rintro r wx ⟨rfl, bx⟩; rw [hrb.out]; have f0 := bl_cell bx f0; have f1 := bl_cell bx f1; have f2 := bl_cell bx f2; have bd := bl_then bd bx; clear bx))
      all_goals (
        have k5 := k4.below bd
        have B5 := bl_then B4 bd
        have hR5 := hR4.below bd
        have HO5 := own_below HO1 bd
        clear f0 f1 f2 k4 B4 hR4 bd HO1
        go_wp2_with fail
        refine (Image.decode_c A1 (16 + 4 * 700) c1 _ _ (Rd.of_own HO5) hfr.out (own_cap HO5) (by omega)).mono ?_
        rintro r w6 ⟨⟨A6, n6, c6, rfl, hr6, hnc6⟩, b6⟩
        rw [hbk.out.1, hbk.out.2.1, hbk.out.2.2.1]
        rw [hbk.out.2.2.2] at hr6
        have k6 := k5.below b6
        have B6 := bl_then B5 b6
        have hR6 := hR5.below b6
        have HO6 := own_below HO5 b6
        clear b6 k5 B5 hR5 HO5
        simp only [if_true]
        go_wp2_with (first
          | ((with_reducible refine wl_alloc rfl 64 rfl (row3 0 0 (.slice none 0 0)) new64 ?_); intro w7 k7 b7 s7; have k6' := k6.below b7)
          | ((with_reducible refine wl_store rfl 64 _ _ rfl w6.heap.size rfl (row3 e p (.slice A6 n6 c6)) rfl 64 (row3 0 0 (.slice none 0 0)) k7 (size64 _ rfl) rfl (one3 _ _ _ _ _) ?_); intro w8 k8 g8 s8; have k6'' := k6'.grown g8 (fun e => by injection e with e; have := k6.lt; omega))
          | ((with_reducible refine wl_load rfl 61 _ rfl w.heap.size rfl 61 (row3 e p (.slice A 700 c)) _ k6'' Try.underlying61 rfl (size61 _ rfl) ?_)))
        have b68 := below_grown b7 b7.size g8 (Nat.le_refl _)
        have B8 := bl_then B6 b68
        have hR8 := hR6.below b68
        have HO8 := own_below HO6 b68
        have hr8 := hr6.below b68
        clear b7 g8 B6 hR6 HO6 hr6 b68 k7 k6 k6'
        refine (refencode_yes e p A 700 c ys _ he'.out hR8 hy.out hA'.out hrb.out).mono ?_
        rintro r w9 ⟨⟨A9, c9, rfl, HO9⟩, b9⟩
        have k9 := k8.below b9
        have k9' := k6''.below b9
        have B9 := bl_then B8 b9
        have hR9 := hR8.below b9
        have HOa := own_below HO8 b9
        have hr9 := hr8.below b9
        clear b9 k8 k6'' B8 hR8 HO8 hr8
        go_wp2_with fail
        refine (sameb_c A1 A9 _ _ c1 c9 _ _ _ (Rd.of_own HOa) (Rd.of_own HO9)).mono ?_
        rintro r w10 ⟨rfl, b10⟩
        rw [hbe.out]
        have k10 := k9.below b10
        have k10' := k9'.below b10
        have B10 := bl_then B9 b10
        have hR10 := hR9.below b10
        have hr10 := hr9.below b10
        clear b10 k9 k9' B9 hR9 hr9 HOa HO9
        go_wp2_with (first
          | ((with_reducible refine wl_load_on rfl 64 _ rfl w6.heap.size rfl 64 (row3 e p (.slice A6 n6 c6)) _ k10 Try.underlying64 rfl (size64 _ rfl) ?hop ?_); (case hop => exact ⟨_, _, rfl, rfl, rfl⟩))
          | ((with_reducible refine wl_load_on rfl 61 _ rfl w.heap.size rfl 61 (row3 e p (.slice A 700 c)) _ k10' Try.underlying61 rfl (size61 _ rfl) ?hop ?_); (case hop => exact ⟨_, _, rfl, rfl, rfl⟩)))
        refine (same_yes e p A6 A n6 700 c6 c ys _ hr10 hR10).mono ?_
        rintro r w11 ⟨rfl, b11⟩
        have B11 := bl_then B10 b11
        clear b11 B10 hR10 hr10 k10 k10'
        go_wp2_with fail
        refine (ImageAwake.awake_c _).mono ?_
        rintro r w12 ⟨rfl, b12⟩
        go_wp2
        go_ret
        exact ⟨rfl, bl_then B11 b12⟩)
    · have hrb : Hid (right e p 700 = false) := Lib.hid (by simpa using hrb0)
      clear hrb0 hn
      go_enter Try.func10, Try.ntmps10
      go_wp2_with (first
        | ((with_reducible refine wl_box rfl 61 _ rfl (row3 e p (.slice A n c)) rfl ?_); intro w1 k1 b1 s1; have f1 := k1.cellv 2 (.slice A n c) rfl)
        | ((with_reducible refine wl_set rfl 33 _ _ rfl w.heap.size 2 rfl (.slice A 700 c) rfl rfl 61 (row3 e p (.slice A n c)) k1 h33.out hlt2.out ?_); intro w2 k2' g2 s2; have k2 : Blk w2 w.heap.size 61 (row3 e p (.slice A 700 c)) := k2')
        | ((with_reducible refine wl_load rfl 61 _ rfl w.heap.size rfl 61 (row3 e p (.slice A 700 c)) _ k2 Try.underlying61 rfl (size61 _ rfl) ?_)))
      refine (mine_c e p A 700 c _).mono ?_
      rintro r w3 ⟨rfl, b3⟩
      have B2 := below_grown b1 b1.size g2 (Nat.le_refl _)
      have k3 := (k2).below b3
      have B3 := bl_then B2 b3
      have hR3 := hR.below B3
      clear b3 f1 k1 b1 hR k2 k2' g2 B2 
      go_wp2_with fail
      refine (encode_no e p A 700 c w3 he'.out (by omega) hrb.out).mono ?_
      rintro r w4 ⟨rfl, b4⟩
      have k4 := k3.below b4
      have B4 := bl_then B3 b4
      have hR4 := hR3.below b4
      have f0 := k4.cellv 0 (.int .u32 e) rfl
      have f1 := k4.cellv 1 (.int .i64 p) rfl
      have f2 := k4.cellv 2 (.slice A 700 c) rfl
      have bd := bl_drew (bl_refl w4)
      clear hR3 B3 k3 b4
      go_wp2_with fail
      go_region_law (first
        | (go_simp; go_at_call 43; refine (refright_c e p A 700 c _ he'.out (by omega)).mono ?_; rintro r wx ⟨rfl, bx⟩; rw [hrb.out]; have f0 := bl_cell bx f0; have f1 := bl_cell bx f1; have f2 := bl_cell bx f2; have bd := bl_then bd bx; clear bx)
        | (go_simp; go_at_call 42; refine (mine_c e p A 700 c _).mono ?_; rintro r wx ⟨rfl, bx⟩; have f0 := bl_cell bx f0; have f1 := bl_cell bx f1; have f2 := bl_cell bx f2; have bd := bl_then bd bx; clear bx)
        | (go_simp; go_at_call 44; refine (right_c e p A 700 c _ he'.out (by omega)).mono ?_; rintro r wx ⟨rfl, bx⟩; rw [hrb.out]; have f0 := bl_cell bx f0; have f1 := bl_cell bx f1; have f2 := bl_cell bx f2; have bd := bl_then bd bx; clear bx))
      all_goals (
        have B5 := bl_then B4 bd
        clear f0 f1 f2 k4 B4 hR4 bd
        go_wp2_with fail
        refine (ImageAwake.awake_c _).mono ?_
        rintro r w12 ⟨rfl, b12⟩
        go_wp2
        go_ret
        exact ⟨rfl, bl_then B5 b12⟩)
  · obtain rfl := h3 (by omega)
    have hq : decide (700 < (m : Int)) = false := by simp; omega
    by_cases hrb0 : right e p m = true
    · have hrb := Lib.hid hrb0
      have hbk := Lib.hid (back e p ys he'.out hy.out (by rw [hlen.out]; exact hrb0))
      have hfr := Lib.hid (flat_range _ (img_words e p ys he'.out hy.out (by rw [hlen.out]; exact hrb0)))
      have hbe : Hid ((flat (img e p ys) == flat (img e p ys)) = true) := Lib.hid (by simp)
      clear hrb0 hn
      go_enter Try.func10, Try.ntmps10
      go_wp2_with (first
        | ((with_reducible refine wl_box rfl 61 _ rfl (row3 e p (.slice A m c)) rfl ?_); intro w1 k1 b1 s1; have f1 := k1.cellv 2 (.slice A m c) rfl)
        | ((with_reducible refine wl_load rfl 61 _ rfl w.heap.size rfl 61 (row3 e p (.slice A m c)) _ k1 Try.underlying61 rfl (size61 _ rfl) ?_)))
      refine (mine_c e p A m c _).mono ?_
      rintro r w3 ⟨rfl, b3⟩
      skip
      have k3 := (k1).below b3
      have B3 := bl_then b1 b3
      have hR3 := hR.below B3
      clear b3 f1 k1 b1 hR 
      go_wp2_with fail
      refine (encode_yes e p A m c ys w3 he'.out hR3 hy.out hrb.out).mono ?_
      rintro r w4 ⟨⟨A1, c1, rfl, HO1⟩, b4⟩
      have k4 := k3.below b4
      have B4 := bl_then B3 b4
      have hR4 := hR3.below b4
      have f0 := k4.cellv 0 (.int .u32 e) rfl
      have f1 := k4.cellv 1 (.int .i64 p) rfl
      have f2 := k4.cellv 2 (.slice A m c) rfl
      have bd := bl_drew (bl_refl w4)
      clear hR3 B3 k3 b4
      go_wp2_with fail
      go_region_law (first
        | (go_simp; go_at_call 43; refine (refright_c e p A m c _ he'.out (by omega)).mono ?_; rintro r wx ⟨rfl, bx⟩; rw [hrb.out]; have f0 := bl_cell bx f0; have f1 := bl_cell bx f1; have f2 := bl_cell bx f2; have bd := bl_then bd bx; clear bx)
        | (go_simp; go_at_call 42; refine (mine_c e p A m c _).mono ?_; rintro r wx ⟨rfl, bx⟩; have f0 := bl_cell bx f0; have f1 := bl_cell bx f1; have f2 := bl_cell bx f2; have bd := bl_then bd bx; clear bx)
        | (go_simp; go_at_call 44; refine (right_c e p A m c _ he'.out (by omega)).mono ?_; rintro r wx ⟨rfl, bx⟩; rw [hrb.out]; have f0 := bl_cell bx f0; have f1 := bl_cell bx f1; have f2 := bl_cell bx f2; have bd := bl_then bd bx; clear bx))
      all_goals (
        have k5 := k4.below bd
        have B5 := bl_then B4 bd
        have hR5 := hR4.below bd
        have HO5 := own_below HO1 bd
        clear f0 f1 f2 k4 B4 hR4 bd HO1
        go_wp2_with fail
        refine (Image.decode_c A1 (16 + 4 * m) c1 _ _ (Rd.of_own HO5) hfr.out (own_cap HO5) (by omega)).mono ?_
        rintro r w6 ⟨⟨A6, n6, c6, rfl, hr6, hnc6⟩, b6⟩
        rw [hbk.out.1, hbk.out.2.1, hbk.out.2.2.1]
        rw [hbk.out.2.2.2] at hr6
        have k6 := k5.below b6
        have B6 := bl_then B5 b6
        have hR6 := hR5.below b6
        have HO6 := own_below HO5 b6
        clear b6 k5 B5 hR5 HO5
        simp only [if_true]
        go_wp2_with (first
          | ((with_reducible refine wl_alloc rfl 64 rfl (row3 0 0 (.slice none 0 0)) new64 ?_); intro w7 k7 b7 s7; have k6' := k6.below b7)
          | ((with_reducible refine wl_store rfl 64 _ _ rfl w6.heap.size rfl (row3 e p (.slice A6 n6 c6)) rfl 64 (row3 0 0 (.slice none 0 0)) k7 (size64 _ rfl) rfl (one3 _ _ _ _ _) ?_); intro w8 k8 g8 s8; have k6'' := k6'.grown g8 (fun e => by injection e with e; have := k6.lt; omega))
          | ((with_reducible refine wl_load rfl 61 _ rfl w.heap.size rfl 61 (row3 e p (.slice A m c)) _ k6'' Try.underlying61 rfl (size61 _ rfl) ?_)))
        have b68 := below_grown b7 b7.size g8 (Nat.le_refl _)
        have B8 := bl_then B6 b68
        have hR8 := hR6.below b68
        have HO8 := own_below HO6 b68
        have hr8 := hr6.below b68
        clear b7 g8 B6 hR6 HO6 hr6 b68 k7 k6 k6'
        refine (refencode_yes e p A m c ys _ he'.out hR8 hy.out hA'.out hrb.out).mono ?_
        rintro r w9 ⟨⟨A9, c9, rfl, HO9⟩, b9⟩
        have k9 := k8.below b9
        have k9' := k6''.below b9
        have B9 := bl_then B8 b9
        have hR9 := hR8.below b9
        have HOa := own_below HO8 b9
        have hr9 := hr8.below b9
        clear b9 k8 k6'' B8 hR8 HO8 hr8
        go_wp2_with fail
        refine (sameb_c A1 A9 _ _ c1 c9 _ _ _ (Rd.of_own HOa) (Rd.of_own HO9)).mono ?_
        rintro r w10 ⟨rfl, b10⟩
        rw [hbe.out]
        have k10 := k9.below b10
        have k10' := k9'.below b10
        have B10 := bl_then B9 b10
        have hR10 := hR9.below b10
        have hr10 := hr9.below b10
        clear b10 k9 k9' B9 hR9 hr9 HOa HO9
        go_wp2_with (first
          | ((with_reducible refine wl_load_on rfl 64 _ rfl w6.heap.size rfl 64 (row3 e p (.slice A6 n6 c6)) _ k10 Try.underlying64 rfl (size64 _ rfl) ?hop ?_); (case hop => exact ⟨_, _, rfl, rfl, rfl⟩))
          | ((with_reducible refine wl_load_on rfl 61 _ rfl w.heap.size rfl 61 (row3 e p (.slice A m c)) _ k10' Try.underlying61 rfl (size61 _ rfl) ?hop ?_); (case hop => exact ⟨_, _, rfl, rfl, rfl⟩)))
        refine (same_yes e p A6 A n6 m c6 c ys _ hr10 hR10).mono ?_
        rintro r w11 ⟨rfl, b11⟩
        have B11 := bl_then B10 b11
        clear b11 B10 hR10 hr10 k10 k10'
        go_wp2_with fail
        refine (ImageAwake.awake_c _).mono ?_
        rintro r w12 ⟨rfl, b12⟩
        go_wp2
        go_ret
        exact ⟨rfl, bl_then B11 b12⟩)
    · have hrb : Hid (right e p m = false) := Lib.hid (by simpa using hrb0)
      clear hrb0 hn
      go_enter Try.func10, Try.ntmps10
      go_wp2_with (first
        | ((with_reducible refine wl_box rfl 61 _ rfl (row3 e p (.slice A m c)) rfl ?_); intro w1 k1 b1 s1; have f1 := k1.cellv 2 (.slice A m c) rfl)
        | ((with_reducible refine wl_load rfl 61 _ rfl w.heap.size rfl 61 (row3 e p (.slice A m c)) _ k1 Try.underlying61 rfl (size61 _ rfl) ?_)))
      refine (mine_c e p A m c _).mono ?_
      rintro r w3 ⟨rfl, b3⟩
      skip
      have k3 := (k1).below b3
      have B3 := bl_then b1 b3
      have hR3 := hR.below B3
      clear b3 f1 k1 b1 hR 
      go_wp2_with fail
      refine (encode_no e p A m c w3 he'.out (by omega) hrb.out).mono ?_
      rintro r w4 ⟨rfl, b4⟩
      have k4 := k3.below b4
      have B4 := bl_then B3 b4
      have hR4 := hR3.below b4
      have f0 := k4.cellv 0 (.int .u32 e) rfl
      have f1 := k4.cellv 1 (.int .i64 p) rfl
      have f2 := k4.cellv 2 (.slice A m c) rfl
      have bd := bl_drew (bl_refl w4)
      clear hR3 B3 k3 b4
      go_wp2_with fail
      go_region_law (first
        | (go_simp; go_at_call 43; refine (refright_c e p A m c _ he'.out (by omega)).mono ?_; rintro r wx ⟨rfl, bx⟩; rw [hrb.out]; have f0 := bl_cell bx f0; have f1 := bl_cell bx f1; have f2 := bl_cell bx f2; have bd := bl_then bd bx; clear bx)
        | (go_simp; go_at_call 42; refine (mine_c e p A m c _).mono ?_; rintro r wx ⟨rfl, bx⟩; have f0 := bl_cell bx f0; have f1 := bl_cell bx f1; have f2 := bl_cell bx f2; have bd := bl_then bd bx; clear bx)
        | (go_simp; go_at_call 44; refine (right_c e p A m c _ he'.out (by omega)).mono ?_; rintro r wx ⟨rfl, bx⟩; rw [hrb.out]; have f0 := bl_cell bx f0; have f1 := bl_cell bx f1; have f2 := bl_cell bx f2; have bd := bl_then bd bx; clear bx))
      all_goals (
        have B5 := bl_then B4 bd
        clear f0 f1 f2 k4 B4 hR4 bd
        go_wp2_with fail
        refine (ImageAwake.awake_c _).mono ?_
        rintro r w12 ⟨rfl, b12⟩
        go_wp2
        go_ret
        exact ⟨rfl, bl_then B5 b12⟩)

theorem walk (v0 : Value) (w : World) (h0 : Arg 0 w v0) :
    Calls Try.prog 10 #[v0] w fun e w' => e = .returned (.bool true) ∧ Below w.heap.size w w' := by
  obtain ⟨e, p, A, n, c, zs, rfl, he, hi⟩ := h0
  obtain ⟨hr, hl, hm, hw⟩ := Rd.of_row hi
  have hA : A = none → c = 0 := by
    rintro rfl
    rcases hi with ⟨_, _, rfl, _⟩ | ⟨x, hx, _⟩
    · rfl
    · cases hx
  exact main e p A n c (zs.take n) w he hr (fun x h => wf_u32_range (hw x h)) hl hA _ (Nat.min n 700) (Nat.min_le_right _ _) (Nat.min_le_left _ _) rfl (fun h => by simp only [Nat.min_def]; split <;> omega) (fun h => by simp only [Nat.min_def]; split <;> omega)
end Go.Proofs.Ytaefaneecdploaa.ImageCodes
