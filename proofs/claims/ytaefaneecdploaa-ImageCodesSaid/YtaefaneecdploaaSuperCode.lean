/- Contracts of super.Encode, super.Decode and of the reference's. -/
import Derived.Test.YtaefaneecdploaaRef01
import Derived.Test.YtaefaneecdploaaSuper
import Derived.Test.YtaefaneecdploaaRow
set_option linter.unusedVariables false
namespace Go.Proofs.Ytaefaneecdploaa.SuperCode
open Go.RowKit Go.Proofs.Ytaefaneecdploaa.Base Go.Proofs.Ytaefaneecdploaa.Math Go.Proofs.Ytaefaneecdploaa.Word Go.Proofs.Ytaefaneecdploaa.Ref01 Go.Proofs.Ytaefaneecdploaa.Super Go.Proofs.Ytaefaneecdploaa.Row

def zeros (n : Nat) : List Int := List.replicate n 0
/-- 64 bytes as a value. -/
def V64 (xs : List Int) : Array Value := (nums .u8 xs).toArray
/-- The first bytes, noughts behind. -/
def sup (n : Int) : List Int := flat [1330530639, n, 16, 32] ++ zeros 48
theorem z64 : (Try.prog.info? 51).map (fun i => i.zero.map (·.cells)) = some (some (V64 (zeros 64))) := by kernel_rfl
theorem z64' : (Try.prog.info? 50).map (fun i => i.zero.map (·.cells)) = some (some (V64 (zeros 64))) := by kernel_rfl
theorem s64 : (Try.prog.info? 51).map (·.size) = some 64 := by kernel_rfl
theorem s64' : (Try.prog.info? 50).map (·.size) = some 64 := by kernel_rfl
theorem V64_size (xs : List Int) (h : xs.length = 64) : (V64 xs).size = 64 := by simp [V64, nums, h]
theorem V64_sizes (xs ys : List Int) (h : xs.length = 64) (h' : ys.length = 64) : (V64 xs).size = (V64 ys).size := by rw [V64_size xs h, V64_size ys h']
theorem V64_one (xs : List Int) : ∀ v ∈ V64 xs, v.oneCell' = true := by
  intro v hv
  exact nums_one .u8 xs v (by simpa [V64] using hv)
theorem splice_sup (n : Int) : splice (nums .u8 (zeros 64)) 0 (nums .u8 (flat [1330530639, n, 16, 32])) = nums .u8 (sup n) := by
  simp [splice, sup, nums, flat, b4, zeros]
theorem sup_length (n : Int) : (sup n).length = 64 := by simp [sup, flat, b4, zeros]

theorem s64v (xs : List Int) (h : xs.length = 64) : (Try.prog.info? 51).map (·.size) = some (V64 xs).size := by rw [V64_size xs h]; exact s64
theorem s64v' (xs : List Int) (h : xs.length = 64) : (Try.prog.info? 50).map (·.size) = some (V64 xs).size := by rw [V64_size xs h]; exact s64'

set_option maxHeartbeats 1000000 in
theorem encode_no (s : Int) (h : s < 39 ∨ 512 < s) (w : World) :
    Calls Try.prog 37 #[.agg #[.int .i64 s]] w fun e w' => e = .returned (.tuple #[.agg (V64 (zeros 64)), .bool false]) ∧ Below w.heap.size w w' := by
  have HH := Lib.hid h
  clear h
  have hs := Lib.hid (s64v (zeros 64) (by simp [zeros]))
  have h1 := Lib.hid (V64_one (zeros 64))
  go_enter Try.func37, Try.ntmps37
  have tok1 := Lib.hid (show True from trivial)
  go_wp2_with (first
    | ((with_reducible refine wl_box rfl 47 _ rfl #[.int .i64 s] rfl ?_); intro w1 k1 b1 s1)
    | (have _t := tok1; (with_reducible refine wl_alloc rfl 51 rfl (V64 (zeros 64)) z64 ?_); intro w2 k2 b2 s2; clear tok1)
    | ((with_reducible refine wl_alloc rfl 51 rfl (V64 (zeros 64)) z64 ?_); intro w3 k3 b3 s3; have c1 := ((k1.below b2).below b3).cellv 0 _ rfl))
  refine (right_no s HH.out _).mono ?_
  rintro e w4 ⟨rfl, b4⟩
  have K3 := k3.below b4
  have K2 := (k2.below b3).below b4
  have B := bl_then (bl_then (bl_then b1 b2) b3) b4
  clear c1 k1 k2 k3 b1 b2 b3 b4
  go_wp2_with (first
    | ((with_reducible refine wl_load rfl 51 _ rfl w2.heap.size rfl 51 (V64 (zeros 64)) _ K3 Try.underlying51 rfl hs.out ?_))
    | ((with_reducible refine wl_store rfl 51 _ _ rfl w1.heap.size rfl (V64 (zeros 64)) rfl 51 (V64 (zeros 64)) K2 hs.out rfl h1.out ?_); intro w5 k5 g5 s5))
  refine bodyPost_ret (res_cell_tmp rfl _ _ _ w1.heap.size 51 (V64 (zeros 64)) _ rfl k5 Try.underlying51 rfl hs.out) rfl ⟨rfl, ?_⟩
  exact below_grown B B.size g5 (by omega)

theorem flat4_c (x0 x1 x2 x3 : Int) (h : ∀ x ∈ [x0, x1, x2, x3], 0 ≤ x ∧ x < 4294967296) (g : Nat) (t : TypeId) (w : World) (hb : Blk w g t #[.int .u32 x0, .int .u32 x1, .int .u32 x2, .int .u32 x3]) :
    Calls Try.prog 23 #[.slice (some ⟨g, 0, none⟩) 4 4] w fun e w' => (∃ A1 c1, e = .returned (.slice A1 16 c1) ∧ w'.ownsRow w.heap.size 5 1 (.slice A1 16 c1) 16 (nums .u8 (flat [x0, x1, x2, x3]))) ∧ Below w.heap.size w w' := by
  refine (flat_c (some ⟨g, 0, none⟩) 4 4 [x0, x1, x2, x3] w ⟨rfl, by omega, fun _ => ⟨_, rfl, fun j hj => ?_⟩⟩ h (by omega)).mono ?_
  · rw [add_plain, hb.cell]
    rcases (show j = 0 ∨ j = 1 ∨ j = 2 ∨ j = 3 by omega) with rfl | rfl | rfl | rfl <;> rfl
  · exact fun e w' hh => hh

theorem refflat4_c (x0 x1 x2 x3 : Int) (h : ∀ x ∈ [x0, x1, x2, x3], 0 ≤ x ∧ x < 4294967296) (g : Nat) (t : TypeId) (w : World) (hb : Blk w g t #[.int .u32 x0, .int .u32 x1, .int .u32 x2, .int .u32 x3]) :
    Calls Try.prog 25 #[.slice (some ⟨g, 0, none⟩) 4 4] w fun e w' => (∃ A1 c1, e = .returned (.slice A1 16 c1) ∧ w'.ownsRow w.heap.size 5 1 (.slice A1 16 c1) 16 (nums .u8 (flat [x0, x1, x2, x3]))) ∧ Below w.heap.size w w' := by
  refine (refflat_c (some ⟨g, 0, none⟩) 4 4 [x0, x1, x2, x3] w ⟨rfl, by omega, fun _ => ⟨_, rfl, fun j hj => ?_⟩⟩ h (by omega)).mono ?_
  · rw [add_plain, hb.cell]
    rcases (show j = 0 ∨ j = 1 ∨ j = 2 ∨ j = 3 by omega) with rfl | rfl | rfl | rfl <;> rfl
  · exact fun e w' hh => hh

set_option maxHeartbeats 2000000 in
theorem encode_yes (s : Int) (h0 : 39 ≤ s) (h1 : s ≤ 512) (w : World) :
    Calls Try.prog 37 #[.agg #[.int .i64 s]] w fun e w' => e = .returned (.tuple #[.agg (V64 (sup s)), .bool true]) ∧ Below w.heap.size w w' := by
  have hss := Lib.hid (s64v (sup s) (sup_length s))
  have hos := Lib.hid (V64_one (sup s))
  have hs0 := Lib.hid (s64v (zeros 64) (by simp [zeros]))
  have hsz1 : Hid ((Try.prog.info? 5).map (·.size) = some 1) := Lib.hid (by kernel_rfl)
  have hsp := Lib.hid (splice_sup s)
  have hfit : Hid (0 + (nums .u8 (flat [1330530639, s, 16, 32])).length ≤ (V64 (zeros 64)).size) := Lib.hid (by rw [V64_size _ (by simp [zeros])]; show 0 + 16 ≤ 64; omega)
  have hrg : Hid (∀ x ∈ [1330530639, s, 16, 32], 0 ≤ x ∧ x < 4294967296) := Lib.hid (by intro x hx; simp at hx; omega)
  go_enter Try.func37, Try.ntmps37
  have tok1 := Lib.hid (show True from trivial)
  go_wp2_with (first
    | ((with_reducible refine wl_box rfl 47 _ rfl #[.int .i64 s] rfl ?_); intro w1 k1 b1 s1)
    | (have _t := tok1; (with_reducible refine wl_alloc rfl 51 rfl (V64 (zeros 64)) z64 ?_); intro w2 k2 b2 s2; clear tok1)
    | ((with_reducible refine wl_alloc rfl 51 rfl (V64 (zeros 64)) z64 ?_); intro w3 k3 b3 s3; have c1 := ((k1.below b2).below b3).cellv 0 _ rfl))
  refine (right_yes s h0 h1 _).mono ?_
  rintro e w4 ⟨rfl, b4⟩
  have K3 := k3.below b4
  have K2 := (k2.below b3).below b4
  have C1 := bl_cell b4 c1
  have B := bl_then (bl_then (bl_then b1 b2) b3) b4
  have s4 := b4.size
  clear c1 k1 k2 k3 b1 b2 b3 b4
  go_wp2_with fail
  have ew : IntKind.u32.wrap s = s := by rw [IntKind.wrap_u32']; omega
  go_region_law (first
    | (have F1 := (K3.alloc (.cells #[.int .u32 1330530639, .int .u32 s, .int .u32 16, .int .u32 32] 22)).drew.below b5; refine step_copy rfl (.tmp 9) (.tmp 14) 34 34 rfl 5 Try.underlying34 hsz1.out w2.heap.size 0 64 64 (by simp [Act.eval]) 51 (V64 (zeros 64)) F1 A1 16 c1 (by simp [Act.eval]) (nums .u8 (flat [1330530639, s, 16, 32])) rfl (own_src HO) hfit.out (nums_one _ _) ?_; intro w6 k6 g6 s6)
    | (go_simp; go_at_call 23; refine (flat4_c 1330530639 s 16 32 hrg.out w4.heap.size _ _ (Blk.drew (Blk.new w4 _ _))).mono ?_; rintro e w5 ⟨⟨A1, c1, rfl, HO⟩, b5⟩))
  have K6 : Blk w6 w2.heap.size 51 (V64 (sup s)) := by
    have e : (V64 (zeros 64)).toList = nums .u8 (zeros 64) := by simp [V64]
    rw [e, hsp.out] at k6
    exact k6
  have K2' := ((K2.alloc (.cells #[.int .u32 1330530639, .int .u32 s, .int .u32 16, .int .u32 32] 22)).drew.below b5).grown g6 (fun e => by injection e with e; omega)
  have B5 : Below w.heap.size w w5 := bl_then (bl_drew (bl_alloc B _)) b5
  have B6 := below_grown B5 B5.size g6 (by have := b5.size; simp at this; omega)
  clear k6 g6 HO b5 B5 K2 K3 C1 ew
  go_wp2_with (first
    | ((with_reducible refine wl_load rfl 51 _ rfl w2.heap.size rfl 51 (V64 (sup s)) _ K6 Try.underlying51 rfl hss.out ?_))
    | ((with_reducible refine wl_store rfl 51 _ _ rfl w1.heap.size rfl (V64 (sup s)) rfl 51 (V64 (zeros 64)) K2' hss.out (V64_sizes _ _ (by simp [zeros]) (sup_length s)) hos.out ?_); intro w7 k7 g7 s7))
  refine bodyPost_ret (res_cell_tmp rfl _ _ _ w1.heap.size 51 (V64 (sup s)) _ rfl k7 Try.underlying51 rfl hss.out) rfl ⟨rfl, ?_⟩
  exact below_grown B6 B6.size g7 (by omega)

theorem built64 : Try.prog.built 50 [] = some (V64 (zeros 64)) := by kernel_rfl
/-- The block behind k bytes. -/
def supTo (n : Int) (k : Nat) : List Int := (flat [1330530639, n, 16, 32]).take k ++ zeros (64 - k)
theorem supTo_length (n : Int) (k : Nat) (h : k ≤ 16) : (supTo n k).length = 64 := by simp [supTo, zeros, flat, b4]; omega
theorem supTo_succ (n : Int) (k : Nat) (h : k < 16) : (V64 (supTo n k)).setIfInBounds k (.int .u8 ((flat [1330530639, n, 16, 32])[k]?.getD 0)) = V64 (supTo n (k + 1)) := by
  have hl : (flat [1330530639, n, 16, 32]).length = 16 := rfl
  apply Array.ext
  · simp [V64, nums, supTo, zeros, hl]; omega
  · intro i h1 h2
    have h1' : i < 64 := by rw [Array.size_setIfInBounds, V64_size _ (supTo_length n k (by omega))] at h1; exact h1
    rw [Array.getElem_setIfInBounds]
    · simp only [V64, nums, supTo, zeros, List.getElem_toArray, List.getElem_map, List.getElem_append, List.length_take, hl, List.getElem_take, List.getElem_replicate]
      by_cases hk : k = i
      · subst hk
        rw [if_pos rfl, dif_pos (by omega), List.getElem?_eq_getElem (by omega)]; rfl
      · rw [if_neg hk]
        by_cases hi : i < k
        · rw [dif_pos (by omega), dif_pos (by omega)]
        · rw [dif_neg (by omega), dif_neg (by omega)]
    · rw [V64_size _ (supTo_length n k (by omega))]; exact h1'
theorem supTo_all (n : Int) : supTo n 16 = sup n := rfl

set_option maxHeartbeats 2000000 in
theorem refencode_yes (s : Int) (h0 : 39 ≤ s) (h1 : s ≤ 512) (w : World) :
    Calls Try.prog 38 #[.int .i64 s] w fun e w' => e = .returned (.tuple #[.agg (V64 (sup s)), .bool true]) ∧ Below w.heap.size w w' := by
  have hss := Lib.hid (s64v' (sup s) (sup_length s))
  have hs0 := Lib.hid (s64v' (zeros 64) (by simp [zeros]))
  have ho0 := Lib.hid (V64_one (zeros 64))
  have hos := Lib.hid (V64_one (sup s))
  have hrg : Hid (∀ x ∈ [1330530639, s, 16, 32], 0 ≤ x ∧ x < 4294967296) := Lib.hid (by intro x hx; simp at hx; omega)
  have hu8 : Hid ((Try.prog.info? 5).map (·.size) = some 1) := Lib.hid (by kernel_rfl)
  go_enter Try.func38, Try.ntmps38
  have tok1 := Lib.hid (show True from trivial)
  go_wp2_with (first
    | (have _t := tok1; (with_reducible refine wl_alloc rfl 50 rfl (V64 (zeros 64)) z64' ?_); intro w1 k1 b1 s1; clear tok1)
    | (with_reducible refine wl_build0 rfl 50 rfl (V64 (zeros 64)) built64 ?_)
    | ((with_reducible refine wl_alloc rfl 50 rfl (V64 (zeros 64)) z64' ?_); intro w2 k2 b2 s2; have k1' := k1.below b2)
    | ((with_reducible refine wl_store rfl 50 _ _ rfl w1.heap.size rfl (V64 (zeros 64)) rfl 50 (V64 (zeros 64)) k2 hs0.out rfl ho0.out ?_); intro w3 k3 g3 s3))
  have K1 := k1'.grown g3 (fun e => by injection e with e; omega)
  have B := below_grown (bl_then b1 b2) (Nat.le_trans b1.size b2.size) g3 (by have := b1.size; omega)
  clear k1 k2 k1' b1 b2 g3
  refine (refflat4_c 1330530639 s 16 32 hrg.out w3.heap.size _ _ (Blk.new w3 _ _)).mono ?_
  rintro e w4 ⟨⟨A1, c1, rfl, HO⟩, b4⟩
  have K3 := (k3.alloc _).below b4
  have K4 := (K1.alloc _).below b4
  have B4 := bl_then (bl_alloc B _) b4
  have s4 := b4.size
  simp only [World.size_alloc] at s4
  clear k3 K1 b4 B
  go_wp2_with fail
  go_loopw [6] (fun i wr => ∃ k : Nat, k ≤ 16 ∧ i = .int .i64 k ∧ Blk wr w1.heap.size 50 (V64 (supTo s k)) ∧ w4.grownBy wr (some w1.heap.size)) (fun i _ => 16 - (intOf i).toNat)
  case atStart => exact ⟨0, by omega, rfl, K3, World.grownBy.refl _ _⟩
  case round =>
    clear K3
    obtain ⟨k, hk, rfl, KK, HG⟩ := hrel
    have hHO : w1.heap.size < (w3.alloc (.cells #[.int .u32 1330530639, .int .u32 s, .int .u32 16, .int .u32 32] 22)).heap.size := by simp; omega
    by_cases hlt : k < 16
    · obtain ⟨ad, rfl, hca⟩ := (Rd.of_own (own_kept HO HG hHO)).at_ k hlt
      have hsu := Lib.hid (supTo_succ s k hlt)
      have hsz := Lib.hid (V64_size _ (supTo_length s k (by omega)))
      generalize (flat [1330530639, s, 16, 32])[k]?.getD 0 = y at *
      clear HO hHO
      go_wp2_with ((with_reducible refine wl_set rfl 5 _ _ rfl w1.heap.size k rfl (.int .u8 y) rfl rfl 50 (V64 (supTo s k)) KK hu8.out (by rw [hsz.out]; omega) ?_); intro w5 k5 g5 s5)
      rw [hsu.out] at k5
      go_wp2
      go_roundw
      case rel => exact ⟨k + 1, by omega, by go_num, k5, World.grownBy.trans HG g5⟩
      case measure => first | (simp [intOf]; done) | (simp [intOf]; omega)
    · obtain rfl : k = 16 := by omega
      rw [supTo_all] at KK
      have K4' := K4.grown HG (fun e => by injection e with e; omega)
      have B5 := below_grown B4 B4.size HG (by omega)
      clear HO hHO B4 K4 HG
      go_wp2_with (first
        | ((with_reducible refine wl_load rfl 50 _ rfl w1.heap.size rfl 50 (V64 (sup s)) _ KK Try.underlying50 rfl hss.out ?_))
        | ((with_reducible refine wl_store rfl 50 _ _ rfl w.heap.size rfl (V64 (sup s)) rfl 50 (V64 (zeros 64)) K4' hss.out (V64_sizes _ _ (by simp [zeros]) (sup_length s)) hos.out ?_); intro w7 k7 g7 s7))
      refine bodyPost_ret (res_cell_tmp rfl _ _ _ w.heap.size 50 (V64 (sup s)) _ rfl k7 Try.underlying50 rfl hss.out) rfl ⟨rfl, ?_⟩
      exact below_grown B5 B5.size g7 (Nat.le_refl _)

set_option maxHeartbeats 2000000 in
theorem refencode_no (s : Int) (h : s < 39 ∨ 512 < s) (w : World) :
    Calls Try.prog 38 #[.int .i64 s] w fun e w' => e = .returned (.tuple #[.agg (V64 (zeros 64)), .bool false]) ∧ Below w.heap.size w w' := by
  have hs0 := Lib.hid (s64v' (zeros 64) (by simp [zeros]))
  have ho0 := Lib.hid (V64_one (zeros 64))
  by_cases hb : s < 39
  · have q : decide (s < 39) = true := by simp; omega
    clear h
    go_enter Try.func38, Try.ntmps38
    have tok1 := Lib.hid (show True from trivial)
    have tok2 := Lib.hid (show True from trivial)
    go_wp2_with (first
      | (have _t := tok1; (with_reducible refine wl_alloc rfl 50 rfl (V64 (zeros 64)) z64' ?_); intro w1 k1 b1 s1; clear tok1)
      | (with_reducible refine wl_build0 rfl 50 rfl (V64 (zeros 64)) built64 ?_)
      | ((with_reducible refine wl_alloc rfl 50 rfl (V64 (zeros 64)) z64' ?_); intro w2 k2 b2 s2; have k1' := k1.below b2)
      | (have _t := tok2; (with_reducible refine wl_store rfl 50 _ _ rfl w1.heap.size rfl (V64 (zeros 64)) rfl 50 (V64 (zeros 64)) k2 hs0.out rfl ho0.out ?_); intro w3 k3 g3 s3; clear tok2; have K1 := k1'.grown g3 (fun e => by injection e with e; omega))
      | ((with_reducible refine wl_load rfl 50 _ rfl w1.heap.size rfl 50 (V64 (zeros 64)) _ k3 Try.underlying50 rfl hs0.out ?_))
      | ((with_reducible refine wl_store rfl 50 _ _ rfl w.heap.size rfl (V64 (zeros 64)) rfl 50 (V64 (zeros 64)) K1 hs0.out rfl ho0.out ?_); intro w4 k4 g4 s4))
    refine bodyPost_ret (res_cell_tmp rfl _ _ _ w.heap.size 50 (V64 (zeros 64)) _ rfl k4 Try.underlying50 rfl hs0.out) rfl ⟨rfl, ?_⟩
    have B := below_grown (bl_then b1 b2) (Nat.le_trans b1.size b2.size) g3 (by have := b1.size; omega)
    exact below_grown B B.size g4 (Nat.le_refl _)
  · have q : decide (s < 39) = false := by simp; omega
    have q2 : decide (512 < s) = true := by simp; omega
    clear h
    go_enter Try.func38, Try.ntmps38
    have tok1 := Lib.hid (show True from trivial)
    have tok2 := Lib.hid (show True from trivial)
    go_wp2_with (first
      | (have _t := tok1; (with_reducible refine wl_alloc rfl 50 rfl (V64 (zeros 64)) z64' ?_); intro w1 k1 b1 s1; clear tok1)
      | (with_reducible refine wl_build0 rfl 50 rfl (V64 (zeros 64)) built64 ?_)
      | ((with_reducible refine wl_alloc rfl 50 rfl (V64 (zeros 64)) z64' ?_); intro w2 k2 b2 s2; have k1' := k1.below b2)
      | (have _t := tok2; (with_reducible refine wl_store rfl 50 _ _ rfl w1.heap.size rfl (V64 (zeros 64)) rfl 50 (V64 (zeros 64)) k2 hs0.out rfl ho0.out ?_); intro w3 k3 g3 s3; clear tok2; have K1 := k1'.grown g3 (fun e => by injection e with e; omega))
      | ((with_reducible refine wl_load rfl 50 _ rfl w1.heap.size rfl 50 (V64 (zeros 64)) _ k3 Try.underlying50 rfl hs0.out ?_))
      | ((with_reducible refine wl_store rfl 50 _ _ rfl w.heap.size rfl (V64 (zeros 64)) rfl 50 (V64 (zeros 64)) K1 hs0.out rfl ho0.out ?_); intro w4 k4 g4 s4))
    refine bodyPost_ret (res_cell_tmp rfl _ _ _ w.heap.size 50 (V64 (zeros 64)) _ rfl k4 Try.underlying50 rfl hs0.out) rfl ⟨rfl, ?_⟩
    have B := below_grown (bl_then b1 b2) (Nat.le_trans b1.size b2.size) g3 (by have := b1.size; omega)
    exact below_grown B B.size g4 (Nat.le_refl _)

/-- The number in the second word. -/
def second (d : List Int) : Int := d[4]?.getD 0 + d[5]?.getD 0 * 256 + d[6]?.getD 0 * 65536 + d[7]?.getD 0 * 16777216
theorem second_sup (n : Int) (h0 : 0 ≤ n) (h1 : n < 4294967296) : second (sup n) = n := by
  simp [second, sup, flat, b4, zeros]; omega
theorem sup_inj (m n : Int) (h0 : 0 ≤ m) (h1 : m < 4294967296) (h2 : 0 ≤ n) (h3 : n < 4294967296) (h : sup m = sup n) : m = n := by
  rw [← second_sup m h0 h1, ← second_sup n h2 h3, h]
theorem V64_get (d : List Int) (i : Nat) (hi : i < d.length) : (V64 d)[i]? = some (.int .u8 (d[i]?.getD 0)) := by
  simp [V64, nums, List.getElem?_eq_getElem hi]
theorem eq64 (d e : List Int) (hd : d.length = 64) (he : e.length = 64) (w : World) : (Op.equalIn 10000 51 (.agg (V64 d)) (.agg (V64 e))).run Try.prog w = .ok (d == e) w := by
  obtain ⟨i0, hi, _, hz1, _⟩ := info_parts info_u8
  exact run_eq_ints 9998 51 64 5 .u8 i0 Try.underlying51 Try.underlying5 hi hz1 d e hd he
theorem eq64' (d e : List Int) (hd : d.length = 64) (he : e.length = 64) (w : World) : (Op.equalIn 10000 50 (.agg (V64 d)) (.agg (V64 e))).run Try.prog w = .ok (d == e) w := by
  obtain ⟨i0, hi, _, hz1, _⟩ := info_parts info_u8
  exact run_eq_ints 9998 50 64 5 .u8 i0 Try.underlying50 Try.underlying5 hi hz1 d e hd he
theorem encode_any (s : Int) (w : World) :
    Calls Try.prog 37 #[.agg #[.int .i64 s]] w fun e w' => e = .returned (.tuple #[.agg (V64 (if 39 ≤ s ∧ s ≤ 512 then sup s else zeros 64)), .bool (decide (39 ≤ s ∧ s ≤ 512))]) ∧ Below w.heap.size w w' := by
  by_cases h : 39 ≤ s ∧ s ≤ 512
  · rw [if_pos h, decide_eq_true h]; exact encode_yes s h.1 h.2 w
  · rw [if_neg h, decide_eq_false h]; exact encode_no s (by omega) w
theorem one1 (k : IntKind) (x : Int) : ∀ v ∈ #[Value.int k x], v.oneCell' = true := by
  intro v hv
  simp at hv; subst hv; rfl
theorem sz11 (a b : Value) : (#[a] : Array Value).size = (#[b] : Array Value).size := rfl
theorem zero_super : Try.prog.built 47 [] = some #[.int .i64 0] := by kernel_rfl

/-- What Decode tells. -/
def decAns (d : List Int) : Array Value := if (39 ≤ second d ∧ second d ≤ 512) ∧ sup (second d) = d then #[.agg #[.int .i64 (second d)], .bool true] else #[.agg #[.int .i64 0], .bool false]
theorem decAns_yes (d : List Int) (m : Int) (hm : second d = m) (h0 : 39 ≤ m) (h1 : m ≤ 512) (h : sup m = d) : decAns d = #[.agg #[.int .i64 m], .bool true] := by
  subst hm; unfold decAns; rw [if_pos ⟨⟨h0, h1⟩, h⟩]
theorem decAns_no (d : List Int) (m : Int) (hm : second d = m) (h : ¬ ((39 ≤ m ∧ m ≤ 512) ∧ sup m = d)) : decAns d = #[.agg #[.int .i64 0], .bool false] := by
  subst hm; unfold decAns; rw [if_neg h]

set_option maxHeartbeats 4000000 in
set_option maxRecDepth 100000 in
theorem decode_c (d : List Int) (hd : d.length = 64) (hr : ∀ x ∈ d, 0 ≤ x ∧ x < 256) (w : World) :
    Calls Try.prog 39 #[.agg (V64 d)] w fun e w' => e = .returned (.tuple (decAns d)) ∧ Below w.heap.size w w' := by
  have hsd := Lib.hid (s64v d hd)
  have hdl := Lib.hid hd
  have q4 := getD_mem_range hr (by omega) 4
  have q5 := getD_mem_range hr (by omega) 5
  have q6 := getD_mem_range hr (by omega) 6
  have q7 := getD_mem_range hr (by omega) 7
  have hm0 : 0 ≤ second d ∧ second d < 4294967296 := by unfold second; omega
  obtain ⟨hm0, hm1⟩ := hm0
  have hwd : Hid (words [d[4]?.getD 0, d[5]?.getD 0, d[6]?.getD 0, d[7]?.getD 0] = [second d]) := Lib.hid (by simp [words, w4, second, List.range_succ])
  have hr4 : Hid (∀ x ∈ [d[4]?.getD 0, d[5]?.getD 0, d[6]?.getD 0, d[7]?.getD 0], 0 ≤ x ∧ x < 256) := Lib.hid (by
    intro x hx
    simp only [List.mem_cons, List.not_mem_nil, or_false] at hx
    rcases hx with rfl | rfl | rfl | rfl <;> assumption)
  have g4 := Lib.hid (V64_get d 4 (by omega))
  have g5 := Lib.hid (V64_get d 5 (by omega))
  have g6 := Lib.hid (V64_get d 6 (by omega))
  have g7 := Lib.hid (V64_get d 7 (by omega))
  have hsz0 := Lib.hid (V64_size d hd)
  clear hr hd q4 q5 q6 q7
  obtain ⟨m, hm'⟩ : ∃ m, second d = m := ⟨_, rfl⟩
  rw [hm'] at hm0 hm1 hwd
  have hm := Lib.hid hm'
  clear hm'
  go_enter Try.func39, Try.ntmps39
  go_wp2_with (first
    | ((with_reducible refine wl_box rfl 51 _ rfl (V64 d) rfl ?_); intro w1 k1 b1 s1)
    | ((with_reducible refine wl_alloc rfl 47 rfl #[.int .i64 0] (by kernel_rfl) ?_); intro w2 k2 b2 s2; have k1' := k1.below b2))
  refine (words_c (some ⟨w.heap.size, 4, none⟩) 4 60 [d[4]?.getD 0, d[5]?.getD 0, d[6]?.getD 0, d[7]?.getD 0] w2 ⟨rfl, by omega, fun _ => ⟨_, rfl, fun j hj => ?_⟩⟩ hr4.out (by omega) (by omega)).mono ?_
  · rw [Addr.add_mid, k1'.cell]
    rcases (show j = 0 ∨ j = 1 ∨ j = 2 ∨ j = 3 by omega) with rfl | rfl | rfl | rfl
    · exact g4.out
    · exact g5.out
    · exact g6.out
    · exact g7.out
  rintro e w3 ⟨⟨A1, c1, rfl, HO⟩, b3⟩
  rw [hwd.out] at HO ⊢
  simp only [List.length_cons, List.length_nil, Nat.zero_add] at HO ⊢
  obtain ⟨ad, rfl, hc0⟩ := (Rd.of_own HO).at_ 0 (by omega)
  rw [show ad.add 0 = ad from by unfold Addr.add; simp] at hc0
  simp only [List.getElem?_cons_zero, Option.getD_some] at hc0
  have K1 := k1'.below b3
  have K2 := k2.below b3
  have B := bl_then (bl_then b1 b2) b3
  have s3 := b3.size
  clear k1 k1' k2 b1 b2 b3 HO g4 g5 g6 g7 hr4 hwd
  have hi47 : Hid (∀ x : Value, (Try.prog.info? 47).map (·.size) = some (#[x] : Array Value).size) := Lib.hid (fun _ => by kernel_rfl)
  go_wp2_with (first
    | ((with_reducible refine wl_alloc rfl 47 rfl #[.int .i64 0] (by kernel_rfl) ?_); intro w4 k4 b4 s4)
    | ((with_reducible refine wl_store rfl 47 _ _ rfl w3.heap.size rfl #[.int .i64 m] rfl 47 #[.int .i64 0] k4 (hi47.out _) (sz11 _ _) (one1 _ _) ?_); intro w5 k5 g5 s5)
    | ((with_reducible refine wl_load rfl 47 _ rfl w3.heap.size rfl 47 #[.int .i64 m] _ k5 Try.underlying47 rfl (hi47.out _) ?_)))
  have K1' := (K1.below b4).grown g5 (fun e => by injection e with e; omega)
  have K2' := (K2.below b4).grown g5 (fun e => by injection e with e; omega)
  have B5 := below_grown (bl_then B b4) (Nat.le_trans B.size b4.size) g5 (by omega)
  clear K1 K2 B k4 b4 g5 hc0
  by_cases hin : 39 ≤ m ∧ m ≤ 512
  · obtain ⟨hin0, hin1⟩ := hin
    refine (encode_yes m hin0 hin1 _).mono ?_
    rintro e w6 ⟨rfl, b6⟩
    have K1 := K1'.below b6
    have K2 := K2'.below b6
    have K5 := k5.below b6
    have B6 := bl_then B5 b6
    have s6 := b6.size
    clear K1' K2' k5 B5 b6
    have hss := Lib.hid (s64v (sup m) (sup_length m))
    have hos := Lib.hid (V64_one (sup m))
    have hz := Lib.hid (V64_sizes (zeros 64) (sup m) (by simp [zeros]) (sup_length m))
    by_cases hsup : sup m = d
    · have heq : ∀ W, (Op.equalIn 10000 51 (.agg (V64 (sup m))) (.agg (V64 d))).run Try.prog W = .ok true W := fun W => by rw [eq64 (sup m) d (sup_length m) hdl.out W, show (sup m == d) = true from by simpa using hsup]
      have hres := Lib.hid (decAns_yes d m hm.out hin0 hin1 hsup)
      clear hsup
      go_wp2_with (first
        | ((with_reducible refine wl_alloc rfl 51 rfl (V64 (zeros 64)) z64 ?_); intro w7 k7 b7 s7; have K1' := K1.below b7)
        | ((with_reducible refine wl_store rfl 51 _ _ rfl w6.heap.size rfl (V64 (sup m)) rfl 51 (V64 (zeros 64)) k7 hss.out hz.out hos.out ?_); intro w8 k8 g8 s8; have K1'' := K1'.grown g8 (fun e => by injection e with e; omega); have K2'' := (K2.below b7).grown g8 (fun e => by injection e with e; omega); have K5'' := (K5.below b7).grown g8 (fun e => by injection e with e; omega))
        | ((with_reducible refine wl_load_on rfl 51 _ rfl w6.heap.size rfl 51 (V64 (sup m)) _ k8 Try.underlying51 rfl hss.out ?hop ?_); (case hop => exact ⟨_, _, rfl, rfl, rfl⟩))
        | ((with_reducible refine wl_load_on rfl 51 _ rfl w.heap.size rfl 51 (V64 d) _ K1'' Try.underlying51 rfl hsd.out ?hop ?_); (case hop => exact ⟨_, _, rfl, rfl, rfl⟩))
        | ((with_reducible refine wl_load rfl 47 _ rfl w3.heap.size rfl 47 #[.int .i64 m] _ K5'' Try.underlying47 rfl (hi47.out _) ?_))
        | ((with_reducible refine wl_store rfl 47 _ _ rfl w1.heap.size rfl #[.int .i64 m] rfl 47 #[.int .i64 0] K2'' (hi47.out _) (sz11 _ _) (one1 _ _) ?_); intro w9 k9 g9 s9))
      refine bodyPost_ret (res_cell_tmp rfl _ _ _ w1.heap.size 47 #[.int .i64 m] _ rfl k9 Try.underlying47 rfl (hi47.out _)) rfl ⟨by rw [hres.out]; rfl, ?_⟩
      have B8 := below_grown (bl_then B6 b7) (Nat.le_trans B6.size b7.size) g8 (by omega)
      exact below_grown B8 B8.size g9 (by omega)
    · have heq : ∀ W, (Op.equalIn 10000 51 (.agg (V64 (sup m))) (.agg (V64 d))).run Try.prog W = .ok false W := fun W => by rw [eq64 (sup m) d (sup_length m) hdl.out W, show (sup m == d) = false from by simpa using hsup]
      have hres := Lib.hid (decAns_no d m hm.out (fun h => hsup h.2))
      clear hsup
      go_wp2_with (first
        | ((with_reducible refine wl_alloc rfl 51 rfl (V64 (zeros 64)) z64 ?_); intro w7 k7 b7 s7; have K1' := K1.below b7)
        | ((with_reducible refine wl_store rfl 51 _ _ rfl w6.heap.size rfl (V64 (sup m)) rfl 51 (V64 (zeros 64)) k7 hss.out hz.out hos.out ?_); intro w8 k8 g8 s8; have K1'' := K1'.grown g8 (fun e => by injection e with e; omega); have K2'' := (K2.below b7).grown g8 (fun e => by injection e with e; omega); have K5'' := (K5.below b7).grown g8 (fun e => by injection e with e; omega))
        | ((with_reducible refine wl_load_on rfl 51 _ rfl w6.heap.size rfl 51 (V64 (sup m)) _ k8 Try.underlying51 rfl hss.out ?hop ?_); (case hop => exact ⟨_, _, rfl, rfl, rfl⟩))
        | ((with_reducible refine wl_load_on rfl 51 _ rfl w.heap.size rfl 51 (V64 d) _ K1'' Try.underlying51 rfl hsd.out ?hop ?_); (case hop => exact ⟨_, _, rfl, rfl, rfl⟩))
        | (with_reducible refine wl_build0 rfl 47 rfl #[.int .i64 0] zero_super ?_)
        | ((with_reducible refine wl_store rfl 47 _ _ rfl w1.heap.size rfl #[.int .i64 0] rfl 47 #[.int .i64 0] K2'' (hi47.out _) (sz11 _ _) (one1 _ _) ?_); intro w9 k9 g9 s9))
      refine bodyPost_ret (res_cell_tmp rfl _ _ _ w1.heap.size 47 #[.int .i64 0] _ rfl k9 Try.underlying47 rfl (hi47.out _)) rfl ⟨by rw [hres.out]; rfl, ?_⟩
      have B8 := below_grown (bl_then B6 b7) (Nat.le_trans B6.size b7.size) g8 (by omega)
      exact below_grown B8 B8.size g9 (by omega)
  · refine (encode_no m (by omega) _).mono ?_
    rintro e w6 ⟨rfl, b6⟩
    have K2 := K2'.below b6
    have B6 := bl_then B5 b6
    have s6 := b6.size
    clear K1' K2' k5 B5 b6
    have hss := Lib.hid (s64v (zeros 64) (by simp [zeros]))
    have hos := Lib.hid (V64_one (zeros 64))
    have hres := Lib.hid (decAns_no d m hm.out (fun h => hin h.1))
    clear hin
    go_wp2_with (first
      | ((with_reducible refine wl_alloc rfl 51 rfl (V64 (zeros 64)) z64 ?_); intro w7 k7 b7 s7)
      | ((with_reducible refine wl_store rfl 51 _ _ rfl w6.heap.size rfl (V64 (zeros 64)) rfl 51 (V64 (zeros 64)) k7 hss.out rfl hos.out ?_); intro w8 k8 g8 s8; have K2'' := (K2.below b7).grown g8 (fun e => by injection e with e; omega))
      | (with_reducible refine wl_build0 rfl 47 rfl #[.int .i64 0] zero_super ?_)
      | ((with_reducible refine wl_store rfl 47 _ _ rfl w1.heap.size rfl #[.int .i64 0] rfl 47 #[.int .i64 0] K2'' (hi47.out _) (sz11 _ _) (one1 _ _) ?_); intro w9 k9 g9 s9))
    refine bodyPost_ret (res_cell_tmp rfl _ _ _ w1.heap.size 47 #[.int .i64 0] _ rfl k9 Try.underlying47 rfl (hi47.out _)) rfl ⟨by rw [hres.out]; rfl, ?_⟩
    have B8 := below_grown (bl_then B6 b7) (Nat.le_trans B6.size b7.size) g8 (by omega)
    exact below_grown B8 B8.size g9 (by omega)
end Go.Proofs.Ytaefaneecdploaa.SuperCode
