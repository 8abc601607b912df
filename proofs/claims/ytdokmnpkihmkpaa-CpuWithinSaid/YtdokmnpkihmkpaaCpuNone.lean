/- The law CpuNone. -/
import Derived.Test.YtdokmnpkihmkpaaCpu5
import Derived.Test.YtdokmnpkihmkpaaFlatW
set_option linter.unusedVariables false
namespace Go.Proofs.Ytdokmnpkihmkpaa.CpuNone
open Go.RowKit Go.ChangeShapes Go.WideShapes Go.Deep Go.Proofs.Ytdokmnpkihmkpaa.Base Go.Proofs.Ytdokmnpkihmkpaa.Row Go.Proofs.Ytdokmnpkihmkpaa.App Go.Proofs.Ytdokmnpkihmkpaa.Multi Go.Proofs.Ytdokmnpkihmkpaa.Flat Go.Proofs.Ytdokmnpkihmkpaa.FlatW Go.Proofs.Ytdokmnpkihmkpaa.StEq Go.Proofs.Ytdokmnpkihmkpaa.Held Go.Proofs.Ytdokmnpkihmkpaa.Out Go.Proofs.Ytdokmnpkihmkpaa.HeldW Go.Proofs.Ytdokmnpkihmkpaa.HeldX Go.Proofs.Ytdokmnpkihmkpaa.Cpu Go.Proofs.Ytdokmnpkihmkpaa.Cpu2 Go.Proofs.Ytdokmnpkihmkpaa.Cpu3 Go.Proofs.Ytdokmnpkihmkpaa.Cpu4 Go.Proofs.Ytdokmnpkihmkpaa.Cpu5

/-- The cells of a start. -/
def sv (a b : Value) (sp : Int) (R : List Int) (pc : Int) : Array Value := (a :: b :: .int .i64 sp :: cx R pc).toArray
theorem sv_cx (a b : Value) (sp : Int) (R : List Int) (pc : Int) (j : Nat) (v : Value) (h : (cx R pc)[j]? = some v) : (sv a b sp R pc)[3 + j]? = some v := by
  unfold sv
  rw [List.getElem?_toArray, show 3 + j = j + 1 + 1 + 1 by omega, List.getElem?_cons_succ, List.getElem?_cons_succ, List.getElem?_cons_succ]
  exact h
set_option maxRecDepth 100000 in
theorem eq_cx (R : List Int) (pc : Int) (h : R.length = 16) (w : World) : (Op.equalIn 10000 109 (.agg (cx R pc).toArray) (.agg (cx R pc).toArray)).run Try.prog w = .ok true w := by
  have he : (Op.equalIn 9999 39 (.agg (nums .u32 R).toArray) (.agg (nums .u32 R).toArray)).run Try.prog w = .ok true w := by
    obtain ⟨i0, hi, _, hz1, _⟩ := info_parts (show (Try.prog.info? 28).map (fun i => (i.zero, i.size, i.bytes)) = some (some (.int .u32 0), 1, 4) by kernel_rfl)
    have h1 := run_eq_ints 9997 39 16 28 .u32 i0 (P := Try.prog) (w := w) Try.underlying39 Try.underlying28 hi hz1 R R h h
    refine Eq.trans h1 ?_
    simp
  obtain ⟨a0, a1, a2, a3, a4, a5, a6, a7, a8, a9, a10, a11, a12, a13, a14, a15, rfl⟩ := list16 R h
  unfold nums at he
  unfold cx nums
  simp only [List.map_cons, List.map_nil] at he
  go_simp
set_option maxRecDepth 100000 in
set_option maxHeartbeats 4000000 in
theorem main (a b : Value) (sp : Int) (R : List Int) (pc : Int) (w : World) (hR : R.length = 16) :
    Calls Try.prog 15 #[.agg (sv a b sp R pc)] w fun e w' => e = .returned (.bool true) ∧ Below w.heap.size w w' := by
  have hS := Lib.hid (fun w' => step_nil sp R pc w' hR)
  have hA := Lib.hid (fun w' => awake_c w')
  have hcs := size_cx R pc hR
  have hcl := size_cxl R pc hR
  have hc1 := Lib.hid (cx_one R pc)
  have hs17 : (cx R pc).toArray.size = (cx zR 0).toArray.size := by rw [List.size_toArray, List.size_toArray, cx_len R pc hR]; rfl
  have hmid := Lib.hid (sv_cx a b sp R pc)
  have hq1 := Lib.hid (fun w' => eq_cx R pc hR w')
  have hq2 := Lib.hid (fun w' => eq_trc 3 w')
  have e2 : (sv a b sp R pc)[2]? = some (.int .i64 sp) := rfl
  generalize sv a b sp R pc = SV at *
  replace e2 := Lib.hid e2
  generalize cx R pc = lR at *
  go_enter Try.func15, Try.ntmps15
  go_wp2_with (first
    | ((with_reducible refine wl_box rfl 111 _ rfl SV rfl ?_); intro w1 k1 b1 s1; have c2 : w1.cell? ⟨w.heap.size, 2, none⟩ = some (.int .i64 sp) := k1.cellv 2 _ e2.out)
    | (refine at_slot 11 rfl ?_; refine wl_load_mid rfl 109 (.tmp 10) rfl w.heap.size 3 rfl 111 SV lR _ k1 hmid.out Try.underlying109 rfl hcl ?_))
  refine (hS.out w1).mono ?_
  rintro r w2 ⟨rfl, b2⟩
  have k2 := k1.below b2
  have B2 := bl_then b1 b2
  have z2 := B2.size
  have z1 := k2.lt
  clear k1 b1 b2 hS c2 s1
  go_wp2_with (first
    | ((with_reducible refine wl_alloc rfl 109 rfl (cx zR 0).toArray new_cx ?_); intro w3 k3 b3 s3)
    | ((with_reducible refine wl_alloc rfl 117 rfl (tr (d0 0 [] 0)).toArray new_tr ?_); intro w4 k4 b4 s4; have k3 := k3.below b4)
    | ((refine wl_store rfl 109 (.tmp 4) (.tmp 13) rfl w2.heap.size rfl lR.toArray rfl 109 (cx zR 0).toArray k3 hcs hs17.symm hc1.out ?_); intro w5 k5 g5 s5)
    | ((refine wl_store rfl 117 (.tmp 5) (.tmp 14) rfl w3.heap.size rfl (trc 3) rfl 117 (tr (d0 0 [] 0)).toArray (k4.grown g5 (fun e => by injection e with e; omega)) (size_trc 3) rfl (trc_one 3) ?_); intro w6 k6 g6 s6; have k5 := k5.grown g6 (fun e => by injection e with e; omega); have k2 := ((((k2.below b3).below b4).grown g5 (fun e => by injection e with e; omega)).grown g6 (fun e => by injection e with e; omega)))
    | (refine at_slot 15 rfl ?_; refine wl_load rfl 109 (.tmp 4) rfl w2.heap.size rfl 109 lR.toArray _ k5 Try.underlying109 rfl hcs ?_)
    | (refine at_slot 17 rfl ?_; refine wl_load_mid rfl 109 (.tmp 16) rfl w.heap.size 3 rfl 111 SV lR _ k2 hmid.out Try.underlying109 rfl hcl ?_)
    | (refine wl_eql rfl 109 (.tmp 15) (.tmp 17) 109 rfl lR.toArray lR.toArray rfl rfl (by kernel_rfl) true (hq1.out _) ?_)
    | (refine wl_load_on rfl 117 (.tmp 5) rfl w3.heap.size rfl 117 (trc 3) _ k6 Try.underlying117 rfl (size_trc 3) ?hop ?_; case hop => exact ⟨_, _, rfl, rfl, rfl⟩)
    | (refine wl_eql_on rfl ?hop 117 (.tmp 20) (.tmp 21) 117 rfl (trc 3) (trc 3) rfl rfl (by kernel_rfl) true (hq2.out _) ?_; case hop => exact ⟨_, _, rfl, rfl, rfl⟩))
  have z3 := b3.size
  have B4 := bl_then (bl_then B2 b3) b4
  have B5 := below_grown B4 B4.size g5 (by omega)
  have B6 := below_grown B5 B5.size g6 (by omega)
  clear k2 k3 k4 k5 k6 g5 g6 b3 b4
  refine (hA.out _).mono ?_
  rintro r w7 ⟨rfl, b7⟩
  go_wp2_with fail
  go_ret
  exact ⟨rfl, bl_then B6 b7⟩
/-! ### the argument -/
theorem f_int : FlatOf Try.prog 3 [isI .i64] := flat_int Try.underlying3 (by kernel_rfl)
theorem f_u32 : FlatOf Try.prog 28 [isI .u32] := flat_int Try.underlying28 (by kernel_rfl)
theorem f_bool : FlatOf Try.prog 4 [isB] := flat_bool Try.underlying4 (by kernel_rfl)
def e4 : List (Value → Prop) := ([[isI .i64], [isI .i64], [isI .i64], [isB]] : List (List (Value → Prop))).flatten
theorem f_entry : FlatOf Try.prog 58 e4 :=
  flat_struct Try.underlying58 _ (by kernel_rfl) fun j ps h => by
    match j, h with
    | 0, h => simp at h; subst h; exact ⟨_, rfl, rfl, f_int⟩
    | 1, h => simp at h; subst h; exact ⟨_, rfl, rfl, f_int⟩
    | 2, h => simp at h; subst h; exact ⟨_, rfl, rfl, f_int⟩
    | 3, h => simp at h; subst h; exact ⟨_, rfl, rfl, f_bool⟩
def r16 : List (Value → Prop) := (List.replicate 16 [isI .u32]).flatten
theorem f_regs : FlatOf Try.prog 39 r16 := flat_array Try.underlying39 f_u32 (by kernel_rfl)
def c17 : List (Value → Prop) := ([r16, [isI .u32]] : List (List (Value → Prop))).flatten
theorem f_ctx : FlatOf Try.prog 109 c17 :=
  flat_struct Try.underlying109 _ (by kernel_rfl) fun j ps h => by
    match j, h with
    | 0, h => simp at h; subst h; exact ⟨_, rfl, rfl, f_regs⟩
    | 1, h => simp at h; subst h; exact ⟨_, rfl, rfl, f_u32⟩
def s20 (w : World) : List (Value → Prop) := ([[isS w [isI .u32]], [isS w e4], [isI .i64], c17] : List (List (Value → Prop))).flatten
theorem f_start (w : World) : FlatAt Try.prog w 111 (s20 w) :=
  at_struct Try.underlying111 _ (by kernel_rfl) fun j ps h => by
    match j, h with
    | 0, h => simp at h; subst h; exact ⟨_, rfl, rfl, at_slice Try.underlying25 (flat_at f_u32 w) (by kernel_rfl)⟩
    | 1, h => simp at h; subst h; exact ⟨_, rfl, rfl, at_slice Try.underlying65 (flat_at f_entry w) (by kernel_rfl)⟩
    | 2, h => simp at h; subst h; exact ⟨_, rfl, rfl, flat_at f_int w⟩
    | 3, h => simp at h; subst h; exact ⟨_, rfl, rfl, flat_at f_ctx w⟩
/-- A start, opened. -/
def Start (w : World) (v : Value) : Prop := ∃ A n c A2 n2 c2 sp R pc, v = .agg (sv (.slice A n c) (.slice A2 n2 c2) sp R pc) ∧ R.length = 16 ∧ FlatRow w [isI .u32] A n c ∧ FlatRow w e4 A2 n2 c2 ∧ (∀ x ∈ R, (Lit.int .u32 x).wf = true) ∧ (Lit.int .u32 pc).wf = true ∧ (Lit.int .i64 sp).wf = true
theorem regs {cs : Array Value} (h : ∀ i, i < 16 → ∃ v, cs[3 + i]? = some v ∧ isI .u32 v) : ∃ R : List Int, R.length = 16 ∧ (∀ i, i < 16 → cs[3 + i]? = some (.int .u32 (R[i]?.getD 0))) ∧ ∀ x ∈ R, (Lit.int .u32 x).wf = true := by
  have key : ∀ k, k ≤ 16 → ∃ R : List Int, R.length = k ∧ (∀ i, i < k → cs[3 + i]? = some (.int .u32 (R[i]?.getD 0))) ∧ ∀ x ∈ R, (Lit.int .u32 x).wf = true := by
    intro k
    induction k with
    | zero => exact fun _ => ⟨[], rfl, fun i h => by omega, by simp⟩
    | succ k ih =>
      intro hk
      obtain ⟨R, h1, h2, h3⟩ := ih (by omega)
      obtain ⟨v, hv, x, rfl, hx⟩ := h k (by omega)
      refine ⟨R ++ [x], by simp [h1], fun i hi => ?_, fun y hy => ?_⟩
      · rcases Nat.lt_or_ge i k with h4 | h4
        · rw [List.getElem?_append_left (by omega)]; exact h2 i h4
        · obtain rfl : i = k := by omega
          rw [List.getElem?_append_right (by omega), h1, Nat.sub_self]
          exact hv
      · rcases List.mem_append.1 hy with hy | hy
        · exact h3 y hy
        · obtain rfl : y = x := by simpa using hy
          exact hx
  exact key 16 (Nat.le_refl _)
set_option maxRecDepth 100000 in
theorem start_of {H : Type} {enc : TypeId × Value → H} {W : World} {base : Nat} {v : Value} {d : DataW H} {p : List MemPlace} (hv : Value.okWide Try.prog W .any base 111 v)
    (h : DataW.Trod enc Try.prog W 0 (fun _ => true) true 111 v d p) : Start W v := by
  obtain ⟨cs, rfl, _⟩ := okWide_struct Try.underlying111 hv
  obtain ⟨hsz, hi⟩ := open_at (f_start W) rfl h
  have hsz' : cs.size = 20 := hsz
  obtain ⟨v0, g0, A, n, c, rfl, f0⟩ := hi 0 _ rfl
  obtain ⟨v1, g1, A2, n2, c2, rfl, f1⟩ := hi 1 _ rfl
  obtain ⟨v2, g2, sp, rfl, f2⟩ := hi 2 _ rfl
  obtain ⟨v19, g19, pc, rfl, f19⟩ := hi 19 _ rfl
  obtain ⟨R, hR, hr, hw⟩ := regs (cs := cs) (fun i h16 => by
    refine hi (3 + i) _ ?_
    show (s20 W)[3 + i]? = some (isI .u32)
    match i, h16 with
    | 0, _ => rfl
    | 1, _ => rfl
    | 2, _ => rfl
    | 3, _ => rfl
    | 4, _ => rfl
    | 5, _ => rfl
    | 6, _ => rfl
    | 7, _ => rfl
    | 8, _ => rfl
    | 9, _ => rfl
    | 10, _ => rfl
    | 11, _ => rfl
    | 12, _ => rfl
    | 13, _ => rfl
    | 14, _ => rfl
    | 15, _ => rfl
    | k + 16, hk => exact absurd hk (by omega))
  refine ⟨A, n, c, A2, n2, c2, sp, R, pc, ?_, hR, f0, f1, hw, f19, f2⟩
  congr 1
  apply Array.ext_getElem?
  intro i
  match i with
  | 0 => rw [g0]; rfl
  | 1 => rw [g1]; rfl
  | 2 => rw [g2]; rfl
  | i + 3 =>
    rcases Nat.lt_or_ge i 16 with h16 | h16
    · rw [Nat.add_comm i 3, hr i h16]
      rw [sv_cx _ _ _ _ _ i (.int .u32 (R[i]?.getD 0)) (by
        unfold cx
        rw [List.getElem?_append_left (by rw [nums_length, hR]; exact h16)]
        unfold nums
        rw [List.getElem?_map, List.getElem?_eq_getElem (by omega)]; rfl)]
    · rcases Nat.lt_or_ge 16 i with h17 | h17
      · rw [Array.getElem?_eq_none (by omega), Array.getElem?_eq_none]
        unfold sv
        rw [List.size_toArray, List.length_cons, List.length_cons, List.length_cons, cx_len R pc hR]
        omega
      · obtain rfl : i = 16 := by omega
        rw [show 16 + 3 = 3 + 16 from rfl, sv_cx _ _ _ _ _ 16 (.int .u32 pc) (by have := cx_pc R pc hR; rw [List.getElem?_toArray] at this; exact this)]
        exact g19
def Arg (i : Nat) (w : World) (v : Value) : Prop := Start w v
set_option maxRecDepth 100000 in
theorem arg0 {H : Type} {enc : TypeId × Value → H} {W : World} {base : Nat} {v : Value} {d : DataW H} {p : List MemPlace} (hv : Value.okWide Try.prog W .any base 111 v)
    (h : DataW.Trod enc Try.prog W 0 (fun _ => true) true 111 v d p) : Arg 0 W v := start_of hv h
theorem walk (v : Value) (w : World) (h0 : Arg 0 w v) :
    Calls Try.prog 15 #[v] w fun e w' => e = .returned (.bool true) ∧ Below w.heap.size w w' := by
  obtain ⟨A, n, c, A2, n2, c2, sp, R, pc, rfl, hR, _⟩ := h0
  exact main _ _ sp R pc w hR
end Go.Proofs.Ytdokmnpkihmkpaa.CpuNone
