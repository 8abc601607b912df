/- Contracts of the reference of layer 8: In, Of, New. -/
import Derived.Test.YthihpejhhimkaaaDiskA
import Derived.Test.YthihpejhhimkaaaHeldX
set_option linter.unusedVariables false
namespace Go.Proofs.Ythihpejhhimkaaa.DiskS
open Go.RowKit Go.Proofs.Ythihpejhhimkaaa.Base Go.Proofs.Ythihpejhhimkaaa.Row Go.Proofs.Ythihpejhhimkaaa.App Go.Proofs.Ythihpejhhimkaaa.Multi Go.Proofs.Ythihpejhhimkaaa.StEq Go.Proofs.Ythihpejhhimkaaa.Held Go.Proofs.Ythihpejhhimkaaa.Out Go.Proofs.Ythihpejhhimkaaa.HeldW Go.Proofs.Ythihpejhhimkaaa.HeldX Go.Proofs.Ythihpejhhimkaaa.DiskMath Go.Proofs.Ythihpejhhimkaaa.Disk Go.Proofs.Ythihpejhhimkaaa.Disk3

theorem wl_bs1 {P : Program} {ops : Array Oper} {Q : Exit → Act → World → Prop} {rest : List Oper} {o : Oper} {a : Act} {W : World} (hgd : o.guard = none) (t e : TypeId) (x : Operand) (ho : o.op = .buildSlice t 1 #[(0, x)]) (hu : P.underlying t = some (.slice e)) (z : Value) (sz bytes : Nat) (hinfo : (P.info? e).map (fun i => (i.zero, i.size, i.bytes)) = some (some z, sz, bytes)) (hzs : z.cells.size = sz) (hs0 : 0 < sz) (hsm : sz ≤ 1000000)
    (cs : Array Value) (hx : a.eval x = .agg cs) (hcs : cs.size = sz) (h : wpList P ops Q rest (a.put o.dst (.slice (some ⟨W.heap.size, 0, none⟩) 1 1)) (W.alloc (.cells cs e))) : wpList P ops Q (o :: rest) a W :=
  wpList_plain hgd fun _ hK => wp_bs1 t e x ho hu z sz bytes hinfo hzs hs0 hsm cs hx hcs (hK _ _ h)
/-- For an arm that is meant for one operation alone. -/
theorem at_slot {P : Program} {ops : Array Oper} {Q : Exit → Act → World → Prop} {rest : List Oper} {o : Oper} {a : Act} {W : World} (n : Nat) (h : o.dst = some n) (k : wpList P ops Q (o :: rest) a W) : wpList P ops Q (o :: rest) a W := k
theorem at_none {P : Program} {ops : Array Oper} {Q : Exit → Act → World → Prop} {rest : List Oper} {o : Oper} {a : Act} {W : World} (h : o.dst = none) (k : wpList P ops Q (o :: rest) a W) : wpList P ops Q (o :: rest) a W := k
theorem rinfo_d : (Try.prog.info? 33).map (fun i => (i.zero, i.size, i.bytes)) = some (some (.agg (bc zb)), 64, 64) := by kernel_rfl
theorem rinfo_w : (Try.prog.info? 65).map (fun i => (i.zero, i.size, i.bytes)) = some (some (.agg (wc ⟨0, zb⟩)), 65, 72) := by kernel_rfl
theorem rnew_d : (Try.prog.info? 33).map (fun i => i.zero.map (·.cells)) = some (some (bc zb)) := by kernel_rfl
theorem rsize_d : (Try.prog.info? 33).map (·.size) = some 64 := by kernel_rfl
theorem rsz_bc (x : Bk) : (Try.prog.info? 33).map (·.size) = some (bc x).size := by rw [bc_size]; exact rsize_d
theorem rzero_d : Try.prog.built 33 [] = some (bc zb) := by kernel_rfl
theorem rzero_x : Try.prog.built 63 [] = some (dc none 0 0 none 0 0) := by kernel_rfl
theorem rnew_w : (Try.prog.info? 65).map (fun i => i.zero.map (·.cells)) = some (some (wc ⟨0, zb⟩)) := by kernel_rfl
theorem rsz_wc (x : Wr) : (Try.prog.info? 65).map (·.size) = some (wc x).size := by rw [wc_size]; kernel_rfl
theorem rsz_wv (x : Wr) : (Try.prog.info? 65).map (·.size) = some (wv x).length := by rw [wv_len]; kernel_rfl

set_option maxRecDepth 100000 in
theorem rin_yes (g nl cl nw cw b : Nat) (Al Aw : Option Addr) (w : World) (h : Blk w g 63 (dc Al nl cl Aw nw cw)) (hb : b < nl) :
    Calls Try.prog 13 #[.pointer (some ⟨g, 0, none⟩), .int .i64 b] w fun r w' => r = .returned (.bool true) ∧ w = w' := by
  have f0 := h.cellv 0 (.slice Al nl cl) rfl
  have q1 : decide (0 ≤ (b : Int)) = true := by simp
  have q2 : decide ((b : Int) < (nl : Int)) = true := by simp; omega
  have q3 : decide (b < nl) = true := by simp; omega
  clear hb
  go_enter Try.func13, Try.ntmps13
  go_wp2
  go_ret
  exact ⟨rfl, rfl⟩
set_option maxRecDepth 100000 in
theorem rin_no (g nl cl nw cw : Nat) (b : Int) (Al Aw : Option Addr) (w : World) (h : Blk w g 63 (dc Al nl cl Aw nw cw)) (hb : b < 0 ∨ (nl : Int) ≤ b) :
    Calls Try.prog 13 #[.pointer (some ⟨g, 0, none⟩), .int .i64 b] w fun r w' => r = .returned (.bool false) ∧ w = w' := by
  have f0 := h.cellv 0 (.slice Al nl cl) rfl
  by_cases h0 : b < 0
  · have q1 : decide (0 ≤ b) = false := by simp; omega
    clear hb h0
    go_enter Try.func13, Try.ntmps13
    go_wp2
    go_ret
    exact ⟨rfl, rfl⟩
  · have q1 : decide (0 ≤ b) = true := by simp; omega
    have q2 : decide (b < (nl : Int)) = false := by simp; omega
    clear hb h0
    go_enter Try.func13, Try.ntmps13
    go_wp2
    go_ret
    exact ⟨rfl, rfl⟩

/-- The first k bytes, noughts behind. -/
def pre (xs : List Int) (k : Nat) : List Int := (List.range 64).map (fun i => if i < k then xs[i]?.getD 0 else 0)
def ofB (xs : List Int) : Bk := ⟨pre xs 64, by simp [pre]⟩
theorem pre_len (xs : List Int) (k : Nat) : (pre xs k).length = 64 := by simp [pre]
theorem pre_get (xs : List Int) (k i : Nat) (h : i < 64) : (pre xs k)[i]? = some (if i < k then xs[i]?.getD 0 else 0) := by
  unfold pre
  rw [List.getElem?_map, List.getElem?_range h]; rfl
theorem pre_zero (xs : List Int) : (nums .u8 (pre xs 0)).toArray = bc zb := by
  apply Array.ext_getElem?
  intro i
  rw [bc, List.getElem?_toArray, List.getElem?_toArray]
  rcases Nat.lt_or_ge i 64 with h | h
  · unfold bv nums
    rw [List.getElem?_map, List.getElem?_map, pre_get _ _ _ h]
    show _ = Option.map _ (List.replicate 64 (0 : Int))[i]?
    rw [List.getElem?_replicate, if_pos h]
    simp
  · rw [List.getElem?_eq_none (by rw [nums_length, pre_len]; exact h), List.getElem?_eq_none (by rw [bv_len]; exact h)]
theorem pre_set (xs : List Int) (k : Nat) : (nums .u8 (pre xs k)).toArray.setIfInBounds k (.int .u8 (xs[k]?.getD 0)) = (nums .u8 (pre xs (k + 1))).toArray := by
  apply Array.ext_getElem?
  intro i
  rw [Array.getElem?_setIfInBounds]
  rw [List.getElem?_toArray, List.getElem?_toArray, List.size_toArray, nums_length, pre_len]
  rcases Nat.lt_or_ge i 64 with h | h
  · unfold nums
    rw [List.getElem?_map, List.getElem?_map, pre_get _ _ _ h, pre_get _ _ _ h]
    by_cases hk : k = i
    · subst hk
      rw [if_pos rfl, if_pos h]
      simp
    · rw [if_neg hk]
      have e : (i < k + 1) = (i < k) := by rw [eq_iff_iff]; omega
      simp only [e]
  · have e1 : (nums .u8 (pre xs k))[i]? = none := List.getElem?_eq_none (by rw [nums_length, pre_len]; exact h)
    have e2 : (nums .u8 (pre xs (k + 1)))[i]? = none := List.getElem?_eq_none (by rw [nums_length, pre_len]; exact h)
    rw [e1, e2]
    by_cases hk : k = i
    · rw [if_pos hk, if_neg (by omega)]
    · rw [if_neg hk]
theorem pre_end (xs : List Int) (k : Nat) (h : k = 64 ∨ k = xs.length) : pre xs k = pre xs 64 := by
  unfold pre
  apply List.map_congr_left
  intro i hi
  rw [List.mem_range] at hi
  rw [if_pos hi]
  rcases h with rfl | rfl
  · rw [if_pos hi]
  · by_cases h2 : i < xs.length
    · rw [if_pos h2]
    · rw [if_neg h2, List.getElem?_eq_none (by omega)]; rfl
theorem pre_sz (xs : List Int) (k : Nat) : (nums .u8 (pre xs k)).toArray.size = 64 := by rw [List.size_toArray, nums_length, pre_len]

set_option maxRecDepth 100000 in
set_option maxHeartbeats 2000000 in
theorem of_c (A : Option Addr) (n c : Nat) (xs : List Int) (w : World) (hr : Rd w .u8 A n xs) :
    Calls Try.prog 18 #[.slice A n c] w fun r w' => r = .returned (.agg (bc (ofB xs))) ∧ Below w.heap.size w w' := by
  have hmx := hr.max
  have hln := Lib.hid hr.len
  go_enter Try.func18, Try.ntmps18
  go_wp2_with (first
    | (have _k := k1; (with_reducible refine wl_alloc rfl 33 rfl (bc zb) rnew_d ?_); intro w2 k2 b2 s2)
    | ((with_reducible refine wl_alloc rfl 33 rfl (bc zb) rnew_d ?_); intro w1 k1 b1 s1)
    | (refine wl_build0 rfl 33 rfl (bc zb) rzero_d ?_)
    | ((refine wl_store rfl 33 _ _ rfl w1.heap.size rfl (bc zb) rfl 33 (bc zb) k2 (rsz_bc _) rfl (bc_one _) ?_); intro w3 k3 g3 s3))
  have K1 := (k1.below b2).grown g3 (fun e => by injection e with e; omega)
  have B3 := below_grown (bl_then b1 b2) (by have := b1.size; have := b2.size; omega) g3 (by omega)
  have z1 := k1.lt
  rw [← pre_zero xs] at k3
  clear k1 k2 b1 b2 g3
  go_loopw [4] (fun i wr => ∃ k : Nat, k ≤ n ∧ k ≤ 64 ∧ i = .int .i64 k ∧ Blk wr w1.heap.size 33 (nums .u8 (pre xs k)).toArray ∧ Blk wr w.heap.size 33 (bc zb) ∧ Below w.heap.size w wr) (fun i _ => 64 - (intOf i).toNat)
  case atStart => exact ⟨0, by omega, by omega, rfl, k3, K1, B3⟩
  case round =>
    clear K1 B3 k3
    obtain ⟨k, hk, hk2, rfl, KX, KR, HB⟩ := hrel
    obtain ⟨wo, rfl⟩ : ∃ wo : World, wo = wr := ⟨_, rfl⟩
    have hstop : (k < n ∧ k < 64) ∨ ((decide ((k : Int) < (n : Int)) = false ∧ (k = 64 ∨ k = xs.length)) ∨ (decide ((k : Int) < (n : Int)) = true ∧ decide ((k : Int) < 64) = false ∧ decide (k < 64) = false ∧ (k = 64 ∨ k = xs.length))) := by
      have := hln.out
      by_cases h1 : k < n
      · by_cases h2 : k < 64
        · exact .inl ⟨h1, h2⟩
        · exact .inr (.inr ⟨by simp; omega, by simp; omega, by simp; omega, by omega⟩)
      · exact .inr (.inl ⟨by simp; omega, by omega⟩)
    rcases hstop with ⟨hlt, hlt2⟩ | hstop
    · have hq : decide ((k : Int) < (n : Int)) = true := by simp; omega
      have hq2 : decide ((k : Int) < 64) = true := by simp; omega
      have hq3 : (k : Int) < (n : Int) := by omega
      have hq4 : (k : Int) < 64 := by omega
      obtain ⟨ad, rfl, c0⟩ := (hr.below HB).at_ k hlt
      have hps := Lib.hid (pre_set xs k)
      generalize xs[k]?.getD 0 = v at *
      go_wp2_with (first
        | ((refine wl_set rfl 5 _ _ rfl w1.heap.size k rfl (.int .u8 v) rfl rfl 33 (nums .u8 (pre xs k)).toArray KX (by kernel_rfl) (by rw [pre_sz]; exact hlt2) ?_); intro w3 k3 g3 s3))
      rw [hps.out] at k3
      go_roundw
      case rel => exact ⟨k + 1, by omega, by omega, by go_num, k3, KR.grown g3 (fun e => by injection e with e; omega), below_grown HB HB.size g3 (by omega)⟩
      case measure => first | (simp [intOf]; done) | (simp [intOf]; omega)
    · have hfin : Hid (pre xs k = pre xs 64) := Lib.hid (by rcases hstop with h | h; exact pre_end xs k h.2; exact pre_end xs k h.2.2.2)
      rw [hfin.out] at KX
      have KX' : Blk wo w1.heap.size 33 (bc (ofB xs)) := KX
      clear KX
      rcases hstop with ⟨q1, q3⟩ | ⟨q1, q2, q4, q3⟩
      · have q5 : n ≤ k := by have h := of_decide_eq_false q1; omega
        clear q3 hfin
        go_wp2_with (first
          | (refine wl_load rfl 33 (.tmp 3) rfl w1.heap.size rfl 33 (bc (ofB xs)) _ KX' Try.underlying33 rfl (rsz_bc _) ?_)
          | (refine at_none rfl ?_; refine wl_store rfl 33 (.tmp 2) (.tmp 22) rfl w.heap.size rfl (bc (ofB xs)) rfl 33 (bc zb) KR (rsz_bc _) (by rw [bc_size, bc_size]) (bc_one _) ?_; intro w3 k3 g3 s3))
        refine bodyPost_ret (res_cell rfl _ _ _ w.heap.size 33 (bc (ofB xs)) _ rfl k3 Try.underlying33 rfl (rsz_bc _)) rfl ⟨rfl, below_grown HB HB.size g3 (Nat.le_refl _)⟩
      · have h64 : k = 64 := by have h := of_decide_eq_false q4; omega
        subst h64
        have q5 : 64 < n := by have h := of_decide_eq_true q1; omega
        have q6 : decide (64 < n) = true := by simpa using q5
        have q7 : (64 : Int) < (n : Int) := by omega
        have q8 : decide ((64 : Int) < (n : Int)) = true := by simpa using q7
        clear q1 q2 q3 q4 hfin hk hk2
        go_wp2_with (first
          | (refine wl_load rfl 33 (.tmp 3) rfl w1.heap.size rfl 33 (bc (ofB xs)) _ KX' Try.underlying33 rfl (rsz_bc _) ?_)
          | (refine at_none rfl ?_; refine wl_store rfl 33 (.tmp 2) (.tmp 22) rfl w.heap.size rfl (bc (ofB xs)) rfl 33 (bc zb) KR (rsz_bc _) (by rw [bc_size, bc_size]) (bc_one _) ?_; intro w3 k3 g3 s3))
        refine bodyPost_ret (res_cell rfl _ _ _ w.heap.size 33 (bc (ofB xs)) _ rfl k3 Try.underlying33 rfl (rsz_bc _)) rfl ⟨rfl, below_grown HB HB.size g3 (Nat.le_refl _)⟩

set_option maxRecDepth 100000 in
set_option maxHeartbeats 2000000 in
theorem rnew_c (n : Nat) (hn : n ≤ 512) (B : Nat) (w : World) (hB : B ≤ w.heap.size) :
    Calls Try.prog 9 #[.int .i64 n] w fun r w' => ∃ g, r = .returned (.pointer (some ⟨g, 0, none⟩)) ∧ DkF 63 33 65 B w' g (gro (fun _ => False) w w') (List.replicate n zb) [] ∧ Below w.heap.size w w' := by
  go_enter Try.func9, Try.ntmps9
  go_wp2_with (first
    | (refine wl_build0 rfl 63 rfl (dc none 0 0 none 0 0) rzero_x ?_)
    | ((refine wl_box rfl 63 _ rfl (dc none 0 0 none 0 0) rfl ?_); intro w1 k1 b1 s1))
  have z1 := s1
  go_loopw [4] (fun i wr => ∃ (k : Nat) (Al : Option Addr) (cl : Nat), k ≤ n ∧ i = .int .i64 k ∧ Blk wr w.heap.size 63 (dc Al k cl none 0 0) ∧ wr.ownsRow (w.heap.size + 1) 33 64 (.slice Al k cl) k ((List.replicate k zb).flatMap bv) ∧ Below w.heap.size w wr ∧ w1.heap.size ≤ wr.heap.size) (fun i _ => n - (intOf i).toNat)
  case atStart => exact ⟨0, none, 0, by omega, rfl, k1, own_nil _ _ _ _, b1, Nat.le_refl _⟩
  case round =>
    clear k1 b1
    obtain ⟨k, Al, cl, hk, rfl, KX, HO, HB, HS⟩ := hrel
    obtain ⟨wo, rfl⟩ : ∃ wo : World, wo = wr := ⟨_, rfl⟩
    by_cases hlt : k < n
    · have hq : decide ((k : Int) < (n : Int)) = true := by simp; omega
      have f0 := KX.cellv 0 (.slice Al k cl) rfl
      have f0' := (KX.alloc (.cells (bc zb) 33)).cellv 0 (.slice Al k cl) rfl
      have hrep : Hid ((List.replicate k zb).flatMap bv ++ bv zb = (List.replicate (k + 1) zb).flatMap bv) := Lib.hid (by rw [List.replicate_succ', List.flatMap_append, List.flatMap_singleton])
      go_wp2_with (first
        | (refine wl_build0 rfl 33 rfl (bc zb) rzero_d ?_)
        | (refine wl_bs1 (by rfl) 60 33 (.tmp 17) (by rfl) Try.underlying60 (.agg (bc zb)) 64 64 rinfo_d (by rfl) (by decide) (by decide) (bc zb) (by rfl) (bc_size _) ?_)
        | (refine at_slot 19 rfl ?_; go_loud (refine app_one_w (w0 := w) (f := bv) (w.heap.size + 1) 64 64 bv_len bv_one (.agg (bc zb)) rfl (.tmp 16) (.tmp 18) 60 33 rfl Try.underlying60 rinfo_d (bc_size zb) (Nat.succ_pos _) (Nat.succ_pos _) (.slice Al k cl) k (List.replicate k zb) rfl HO zb (bc zb) (bc_list _) wo.heap.size rfl rfl ?d1 ?d2 ?_)))
      case d1 => omega
      case d2 => omega
      intro A5 c5 w5 HO5 G5 s5 _
      rw [hrep.out] at HO5
      have K5 := (KX.alloc (.cells (bc zb) 33))
      have K5 : Blk w5 w.heap.size 63 (dc Al k cl none 0 0) := KX.grown G5 (fun e => by have := own_base HO _ e.symm; omega)
      have B5 : Below w.heap.size w w5 := HB.grown G5 HB.size (fun b hb => by have := own_base HO b hb; omega)
      clear f0 f0'
      go_wp2_with (first
        | ((refine wl_set rfl 60 _ _ rfl w.heap.size 0 rfl (.slice A5 (k + 1) c5) rfl rfl 63 (dc Al k cl none 0 0) K5 (by kernel_rfl) (by simp [dc]) ?_); intro w6 k6 g6 s6))
      go_roundw
      case rel => exact ⟨k + 1, A5, c5, by omega, by go_num, k6, own_kept HO5 g6 (by omega), below_grown B5 B5.size g6 (Nat.le_refl _), by omega⟩
      case measure => first | (simp [intOf]; done) | (simp [intOf]; omega)
    · obtain rfl : k = n := by omega
      have hq : decide ((k : Int) < (k : Int)) = false := by simp
      go_wp2_with fail
      go_ret
      have hl : (List.replicate k zb).length = k := List.length_replicate
      refine ⟨w.heap.size, rfl, ⟨Al, cl, none, 0, ⟨by rw [hl]; exact KX, by rw [hl]; exact own_mono HO (by omega), own_nil _ _ _ _, hB⟩, .inr ⟨Nat.le_refl _, by omega⟩, ?_, ?_⟩, HB⟩
      · rintro a ha
        obtain ⟨h1, h2, _⟩ := row_lt HO a ha
        exact .inr ⟨by omega, h1⟩
      · rintro a ha
        cases ha
end Go.Proofs.Ythihpejhhimkaaa.DiskS
