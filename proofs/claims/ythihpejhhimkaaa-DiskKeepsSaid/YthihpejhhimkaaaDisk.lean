/- Disks in memory; contracts of package disk: New, Len, Write. -/
import Derived.Test.YthihpejhhimkaaaDiskMath
import Derived.Test.YthihpejhhimkaaaHeldW
import Derived.Test.YthihpejhhimkaaaProg
import Derived.KernelRfl
set_option linter.unusedVariables false
namespace Go.Proofs.Ythihpejhhimkaaa.Disk
open Go.RowKit Go.Proofs.Ythihpejhhimkaaa.Base Go.Proofs.Ythihpejhhimkaaa.Row Go.Proofs.Ythihpejhhimkaaa.App Go.Proofs.Ythihpejhhimkaaa.Multi Go.Proofs.Ythihpejhhimkaaa.StEq Go.Proofs.Ythihpejhhimkaaa.Held Go.Proofs.Ythihpejhhimkaaa.Out Go.Proofs.Ythihpejhhimkaaa.HeldW Go.Proofs.Ythihpejhhimkaaa.DiskMath

/-- A disk's own cells. -/
def dc (Al : Option Addr) (nl cl : Nat) (Aw : Option Addr) (nw cw : Nat) : Array Value := #[.slice Al nl cl, .slice Aw nw cw]
/-- A disk: what lasts, what waits. -/
structure Dk (TD TL TW : TypeId) (B : Nat) (w : World) (g : Nat) (Al : Option Addr) (cl : Nat) (Aw : Option Addr) (cw : Nat) (L : List Bk) (W : List Wr) : Prop where
  d : Blk w g TD (dc Al L.length cl Aw W.length cw)
  l : w.ownsRow B TL 64 (.slice Al L.length cl) L.length (L.flatMap bv)
  q : w.ownsRow B TW 65 (.slice Aw W.length cw) W.length (W.flatMap wv)
  b : B ≤ g
/-- .. its blocks being among F. -/
def DkF (TD TL TW : TypeId) (B : Nat) (w : World) (g : Nat) (F : Nat → Prop) (L : List Bk) (W : List Wr) : Prop :=
  ∃ Al cl Aw cw, Dk TD TL TW B w g Al cl Aw cw L W ∧ F g ∧ (∀ a, Al = some a → F a.block) ∧ (∀ a, Aw = some a → F a.block)
/-- F, and what is new. -/
def gro (F : Nat → Prop) (w w' : World) (i : Nat) : Prop := F i ∨ (w.heap.size ≤ i ∧ i < w'.heap.size)
section
variable {TD TL TW : TypeId} {B : Nat} {w w1 : World} {g : Nat} {F G S : Nat → Prop} {L : List Bk} {W : List Wr}
theorem DkF.out (h : DkF TD TL TW B w g F L W) (k : Out w w1 S) (hS : ∀ i, F i → ¬ S i) : DkF TD TL TW B w1 g F L W := by
  obtain ⟨Al, cl, Aw, cw, D, hg, hl, hw⟩ := h
  refine ⟨Al, cl, Aw, cw, ⟨Out.Blk.out D.d k (hS g hg), own_out D.l k ?_, own_out D.q k ?_, D.b⟩, hg, hl, hw⟩
  · intro b hb
    cases Al with
    | none => cases hb
    | some a => injection hb with hb; subst hb; exact hS _ (hl a rfl)
  · intro b hb
    cases Aw with
    | none => cases hb
    | some a => injection hb with hb; subst hb; exact hS _ (hw a rfl)
theorem DkF.mono (h : DkF TD TL TW B w g F L W) (hF : ∀ i, F i → G i) : DkF TD TL TW B w g G L W := by
  obtain ⟨Al, cl, Aw, cw, D, hg, hl, hw⟩ := h
  exact ⟨Al, cl, Aw, cw, D, hF _ hg, fun a ha => hF _ (hl a ha), fun a ha => hF _ (hw a ha)⟩
theorem DkF.below (h : DkF TD TL TW B w g F L W) (hb : Below w.heap.size w w1) : DkF TD TL TW B w1 g F L W := h.out (Out.of_below hb (fun _ => False)) (fun _ _ h => h)
theorem DkF.lt (h : DkF TD TL TW B w g F L W) : g < w.heap.size := by
  obtain ⟨Al, cl, Aw, cw, D, _⟩ := h
  exact D.d.lt
end
theorem row_lt {w : World} {base e sz n c : Nat} {A : Option Addr} {xs : List Value} (h : w.ownsRow base e sz (.slice A n c) n xs) (a : Addr) (ha : A = some a) : a.block < w.heap.size ∧ base ≤ a.block ∧ ∃ cs, Blk w a.block e cs := by
  subst ha
  rcases h.2 with ⟨h1, _⟩ | ⟨g, cap, cur, hv, hb, hk, _⟩
  · cases h1
  · injection hv with h1
    injection h1 with h1
    subst h1
    exact ⟨Blk.lt hk, hb, cur, hk⟩
theorem info_d : (Try.prog.info? 34).map (fun i => (i.zero, i.size, i.bytes)) = some (some (.agg (bc zb)), 64, 64) := by kernel_rfl
theorem info_w : (Try.prog.info? 71).map (fun i => (i.zero, i.size, i.bytes)) = some (some (.agg (wc ⟨0, zb⟩)), 65, 72) := by kernel_rfl
theorem size_d : (Try.prog.info? 34).map (·.size) = some 64 := by kernel_rfl
theorem sz_bc (x : Bk) : (Try.prog.info? 34).map (·.size) = some (bc x).size := by rw [bc_size]; exact size_d
theorem list16 (l : List Int) (h : l.length = 16) : ∃ a0 a1 a2 a3 a4 a5 a6 a7 a8 a9 a10 a11 a12 a13 a14 a15, l = [a0, a1, a2, a3, a4, a5, a6, a7, a8, a9, a10, a11, a12, a13, a14, a15] := by
  match l, h with
  | [a0, a1, a2, a3, a4, a5, a6, a7, a8, a9, a10, a11, a12, a13, a14, a15], _ => exact ⟨a0, a1, a2, a3, a4, a5, a6, a7, a8, a9, a10, a11, a12, a13, a14, a15, rfl⟩
theorem list64 (l : List Int) (h : l.length = 64) : ∃ x0 x1 x2 x3 x4 x5 x6 x7 x8 x9 x10 x11 x12 x13 x14 x15 x16 x17 x18 x19 x20 x21 x22 x23 x24 x25 x26 x27 x28 x29 x30 x31 x32 x33 x34 x35 x36 x37 x38 x39 x40 x41 x42 x43 x44 x45 x46 x47 x48 x49 x50 x51 x52 x53 x54 x55 x56 x57 x58 x59 x60 x61 x62 x63, l = [x0, x1, x2, x3, x4, x5, x6, x7, x8, x9, x10, x11, x12, x13, x14, x15, x16, x17, x18, x19, x20, x21, x22, x23, x24, x25, x26, x27, x28, x29, x30, x31, x32, x33, x34, x35, x36, x37, x38, x39, x40, x41, x42, x43, x44, x45, x46, x47, x48, x49, x50, x51, x52, x53, x54, x55, x56, x57, x58, x59, x60, x61, x62, x63] := by
  have e : l = l.take 16 ++ ((l.drop 16).take 16 ++ ((l.drop 32).take 16 ++ (l.drop 48).take 16)) := by
    have e3 : (l.drop 48).take 16 = l.drop 48 := List.take_of_length_le (by rw [List.length_drop, h]; omega)
    have e2 : (l.drop 32).take 16 ++ l.drop 48 = l.drop 32 := by rw [show l.drop 48 = (l.drop 32).drop 16 by rw [List.drop_drop], List.take_append_drop]
    have e1 : (l.drop 16).take 16 ++ l.drop 32 = l.drop 16 := by rw [show l.drop 32 = (l.drop 16).drop 16 by rw [List.drop_drop], List.take_append_drop]
    rw [e3, e2, e1, List.take_append_drop]
  obtain ⟨x0, x1, x2, x3, x4, x5, x6, x7, x8, x9, x10, x11, x12, x13, x14, x15, h0⟩ := list16 (l.take 16) (by rw [List.length_take, h]; rfl)
  obtain ⟨x16, x17, x18, x19, x20, x21, x22, x23, x24, x25, x26, x27, x28, x29, x30, x31, h1⟩ := list16 ((l.drop 16).take 16) (by rw [List.length_take, List.length_drop, h]; rfl)
  obtain ⟨x32, x33, x34, x35, x36, x37, x38, x39, x40, x41, x42, x43, x44, x45, x46, x47, h2⟩ := list16 ((l.drop 32).take 16) (by rw [List.length_take, List.length_drop, h]; rfl)
  obtain ⟨x48, x49, x50, x51, x52, x53, x54, x55, x56, x57, x58, x59, x60, x61, x62, x63, h3⟩ := list16 ((l.drop 48).take 16) (by rw [List.length_take, List.length_drop, h]; rfl)
  rw [h0, h1, h2, h3] at e
  exact ⟨x0, x1, x2, x3, x4, x5, x6, x7, x8, x9, x10, x11, x12, x13, x14, x15, x16, x17, x18, x19, x20, x21, x22, x23, x24, x25, x26, x27, x28, x29, x30, x31, x32, x33, x34, x35, x36, x37, x38, x39, x40, x41, x42, x43, x44, x45, x46, x47, x48, x49, x50, x51, x52, x53, x54, x55, x56, x57, x58, x59, x60, x61, x62, x63, e⟩
set_option maxRecDepth 100000 in
theorem built_w (b : Nat) (x : Bk) : Try.prog.built 71 [(0, .int .i64 b), (1, .agg (bc x))] = some (wc ⟨b, x⟩) := by
  obtain ⟨l, h⟩ := x
  obtain ⟨x0, x1, x2, x3, x4, x5, x6, x7, x8, x9, x10, x11, x12, x13, x14, x15, x16, x17, x18, x19, x20, x21, x22, x23, x24, x25, x26, x27, x28, x29, x30, x31, x32, x33, x34, x35, x36, x37, x38, x39, x40, x41, x42, x43, x44, x45, x46, x47, x48, x49, x50, x51, x52, x53, x54, x55, x56, x57, x58, x59, x60, x61, x62, x63, rfl⟩ := list64 l h
  kernel_rfl

theorem made (n : Nat) : madeCells (bc zb) (n * 64) = ((List.replicate n zb).flatMap bv).toArray := by
  apply Array.ext_getElem?
  intro i
  rw [show (((List.replicate n zb).flatMap bv).toArray)[i]? = ((List.replicate n zb).flatMap bv)[i]? from List.getElem?_toArray]
  rcases Nat.lt_or_ge i (n * 64) with h | h
  · have h1 : i % 64 < 64 := Nat.mod_lt _ (by omega)
    have hq : i / 64 < n := by omega
    have hi : i = (i / 64) * 64 + i % 64 := by omega
    have hr : ((List.replicate n zb).flatMap bv)[(i / 64) * 64 + i % 64]? = (bv zb)[i % 64]? := flat_get bv_len _ _ _ zb (by rw [List.getElem?_replicate, if_pos hq]) h1
    rw [← hi] at hr
    have hz : ∀ j, j < 64 → (bv zb)[j]? = some (.int .u8 0) := by
      intro j hj
      show (List.map (fun x => Value.int .u8 x) (List.replicate 64 (0 : Int)))[j]? = _
      rw [List.getElem?_map, List.getElem?_replicate, if_pos hj]; rfl
    have hz2 : ∀ j, j < 64 → (bc zb)[j]! = .int .u8 0 := by
      intro j hj
      have h' : (bc zb)[j]? = some (.int .u8 0) := by rw [bc, List.getElem?_toArray]; exact hz j hj
      rw [getElem!_def, h']
    rw [hr, hz _ h1]
    have h3 : (bc zb).size = 64 := bc_size zb
    simp only [madeCells, h3]
    rw [Array.getElem?_map, Array.getElem?_range, if_pos h]
    simp [hz2 _ h1]
  · rw [Array.getElem?_eq_none (by rw [size_madeCells]; exact h), List.getElem?_eq_none (by rw [flat_len bv_len, List.length_replicate]; exact h)]

set_option maxRecDepth 100000 in
set_option maxHeartbeats 2000000 in
theorem new_c (n : Nat) (h1 : 1 ≤ n) (h2 : n ≤ 512) (B : Nat) (w : World) (hB : B ≤ w.heap.size) :
    Calls Try.prog 8 #[.int .i64 n] w fun r w' => ∃ g, r = .returned (.pointer (some ⟨g, 0, none⟩)) ∧ DkF 59 34 71 B w' g (gro (fun _ => False) w w') (List.replicate n zb) [] ∧ Below w.heap.size w w' := by
  obtain ⟨i0, hi, hz0, hz1, hz2⟩ := info_parts info_d
  have hmk : (Instr.makeSlice 56 (.int .i64 n) (.int .i64 n)).run Try.prog w = .ok (.slice (some ⟨w.heap.size, 0, none⟩) n n) (w.alloc (.cells ((List.replicate n zb).flatMap bv).toArray 34)) := by
    have := run_make w 56 34 i0 _ Try.underlying56 hi hz0 .i64 .i64 n n (by omega) (by omega) (by rw [hz2]; omega) (by omega)
    rw [hz1, Int.toNat_natCast, show (Value.agg (bc zb)).cells = bc zb from rfl, made] at this
    exact this
  have q1 : decide ((n : Int) < 1) = false := by simp; omega
  have q2 : decide (512 < (n : Int)) = false := by simp; omega
  clear hi hz0 hz1 hz2
  have B1 := bl_alloc (bl_refl w) (.cells ((List.replicate n zb).flatMap bv).toArray 34)
  have hfl : ((List.replicate n zb).flatMap bv).length = n * 64 := by rw [flat_len bv_len, List.length_replicate]
  have HO : (w.alloc (.cells ((List.replicate n zb).flatMap bv).toArray 34)).ownsRow B 34 64 (.slice (some ⟨w.heap.size, 0, none⟩) n n) n ((List.replicate n zb).flatMap bv) :=
    World.ownsRow_lit (base := B) (e := 34) (size := 64) w ((List.replicate n zb).flatMap bv).toArray n hB (by simp only [maxLen]; omega) (by rw [List.size_toArray, hfl])
  have hsz : (w.alloc (.cells ((List.replicate n zb).flatMap bv).toArray 34)).heap.size = w.heap.size + 1 := Array.size_push _
  have hln : (List.replicate n zb).length = n := List.length_replicate
  clear hfl
  generalize List.replicate n zb = L at *
  generalize (L.flatMap bv).toArray = X at *
  go_enter Try.func8, Try.ntmps8
  generalize w.alloc (.cells X 34) = w1 at *
  go_wp2_with (first
    | ((with_reducible refine wl_box rfl 59 _ rfl (dc (some ⟨w.heap.size, 0, none⟩) n n none 0 0) rfl ?_); intro w2 k2 b2 s2))
  go_ret
  subst hln
  rw [hsz] at k2
  refine ⟨w.heap.size + 1, rfl, ⟨_, _, _, _, ⟨k2, own_below HO b2, own_nil _ _ _ _, by omega⟩, .inr ⟨by omega, by omega⟩, ?_, ?_⟩, bl_then B1 b2⟩
  · rintro a ha
    injection ha with ha
    subst ha
    exact .inr ⟨Nat.le_refl _, by show w.heap.size < _; omega⟩
  · rintro a ha
    cases ha
set_option maxRecDepth 100000 in
theorem new_no (n : Int) (h : n < 1 ∨ 512 < n) (w : World) :
    Calls Try.prog 8 #[.int .i64 n] w fun r w' => r = .returned (.pointer none) ∧ w = w' := by
  by_cases h1 : n < 1
  · have q1 : decide (n < 1) = true := by simpa using h1
    clear h h1
    go_enter Try.func8, Try.ntmps8
    go_wp2
    go_ret
    exact ⟨rfl, rfl⟩
  · have q1 : decide (n < 1) = false := by simpa using h1
    have q2 : decide (512 < n) = true := by simp; omega
    clear h h1
    go_enter Try.func8, Try.ntmps8
    go_wp2
    go_ret
    exact ⟨rfl, rfl⟩
set_option maxRecDepth 100000 in
theorem len_c (g nl cl nw cw : Nat) (Al Aw : Option Addr) (w : World) (h : Blk w g 59 (dc Al nl cl Aw nw cw)) :
    Calls Try.prog 21 #[.pointer (some ⟨g, 0, none⟩)] w fun r w' => r = .returned (.int .i64 nl) ∧ w = w' := by
  have f0 := h.cellv 0 (.slice Al nl cl) rfl
  go_enter Try.func21, Try.ntmps21
  go_wp2
  go_ret
  exact ⟨rfl, rfl⟩
theorem len_nil (w : World) : Calls Try.prog 21 #[.pointer none] w fun r w' => r = .returned (.int .i64 0) ∧ w = w' := by
  go_enter Try.func21, Try.ntmps21
  go_wp2
  go_ret
  exact ⟨rfl, rfl⟩

end Go.Proofs.Ythihpejhhimkaaa.Disk
