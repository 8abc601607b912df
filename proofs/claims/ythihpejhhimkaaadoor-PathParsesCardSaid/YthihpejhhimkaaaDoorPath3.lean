/- Package path: Clone, Split; what a slice of texts that came in is. -/
import Derived.Test.YthihpejhhimkaaaDoorPathP
set_option linter.unusedVariables false
namespace Go.Proofs.YthihpejhhimkaaaDoor.Path3
open Go.RowKit Go.Proofs.YthihpejhhimkaaaDoor.Base Go.Proofs.YthihpejhhimkaaaDoor.Row Go.Proofs.YthihpejhhimkaaaDoor.App Go.Proofs.YthihpejhhimkaaaDoor.Multi Go.Proofs.YthihpejhhimkaaaDoor.StEq Go.Proofs.YthihpejhhimkaaaDoor.Held Go.Proofs.YthihpejhhimkaaaDoor.Out Go.Proofs.YthihpejhhimkaaaDoor.HeldW Go.Proofs.YthihpejhhimkaaaDoor.HeldX Go.Proofs.YthihpejhhimkaaaDoor.Dir Go.Proofs.YthihpejhhimkaaaDoor.Path Go.Proofs.YthihpejhhimkaaaDoor.Path2 Go.Proofs.YthihpejhhimkaaaDoor.PathP

theorem info_s : (Tryd.prog.info? 9).map (fun i => (i.zero, i.size, i.bytes)) = some (some (.string ⟨#[]⟩), 1, 16) := by kernel_rfl
/-- What a copy is. -/
def CloneP (w : World) (n : Nat) (l : List ByteArray) (r : Ending) (w' : World) : Prop :=
  (∃ A c, r = .returned (.slice A n c) ∧ w'.ownsRow w.heap.size 9 1 (.slice A n c) n (l.flatMap ss)) ∧ Below w.heap.size w w'
set_option maxRecDepth 100000 in
set_option maxHeartbeats 1000000 in
theorem clone_c (ad : Addr) (n c : Nat) (l : List ByteArray) (w : World) (hr : SL w (some ad) n l) (hn : n * 16 ≤ 140737488355328) :
    Calls Tryd.prog 30 #[.slice (some ad) n c] w fun r w' => CloneP w n l r w' := by
  have hnil := Lib.run_eql_slice_nil (P := Tryd.prog) w 49 9 (some ad) n c 0 0 Tryd.underlying49
  have HO := World.ownsRow_lit (base := w.heap.size) w #[] 0 (e := 9) (size := 1) (Nat.le_refl _) (by simp [maxLen]) rfl
  have B1 := bl_alloc (bl_refl w) (.cells #[] 9)
  have hr1 := hr.below B1
  clear hr
  go_enter Tryd.func30, Tryd.ntmps30
  go_wp2_with (at_builtin; refine app_rf (w0 := w) (f := ss) w.heap.size 1 16 ss_len ss_one (.string ⟨#[]⟩) rfl _ _ 49 9 rfl Tryd.underlying49 info_s rfl (by decide) (by decide) (.slice (some ⟨w.heap.size, 0, none⟩) 0 0) 0 [] rfl HO (some ad) n c l rfl hr1 (fun h => by cases h) ?d1 B1 ?d3 ?_)
  intro A3 c3 w5 HO5 B5 s5 _
  go_wp2
  go_ret
  exact ⟨⟨A3, c3, rfl, by simpa using HO5⟩, B5⟩
/-- What Split tells. -/
def SplitP (w : World) (l : List ByteArray) (r : Ending) (w' : World) : Prop :=
  Below w.heap.size w w' ∧ ((l = [] ∧ r = .returned (.tuple #[.slice none 0 0, .string ⟨#[]⟩, .bool false])) ∨
    ∃ A m c x, l.length = m + 1 ∧ l[m]? = some x ∧ r = .returned (.tuple #[.slice A m c, .string x, .bool true]) ∧ w'.ownsRow w.heap.size 9 1 (.slice A m c) m ((l.take m).flatMap ss))
set_option maxRecDepth 100000 in
set_option maxHeartbeats 1000000 in
theorem split_nil (A : Option Addr) (c : Nat) (w : World) :
    Calls Tryd.prog 20 #[.slice A 0 c] w fun r w' => r = .returned (.tuple #[.slice none 0 0, .string ⟨#[]⟩, .bool false]) ∧ w' = w := by
  go_enter Tryd.func20, Tryd.ntmps20
  go_wp2_with fail
  refine bodyPost_ret (results_tmp3 rfl _ _ _) rfl ⟨rfl, rfl⟩
set_option maxRecDepth 100000 in
set_option maxHeartbeats 1000000 in
theorem split_some (ad : Addr) (m c : Nat) (x : ByteArray) (l : List ByteArray) (w : World) (hr : SL w (some ad) (m + 1) l) (hx : l[m]? = some x) (hc : m + 1 ≤ c) (hcell : w.cell? (ad.add m) = some (.string x)) (hn : (m + 1) * 16 ≤ 140737488351232) :
    Calls Tryd.prog 20 #[.slice (some ad) (m + 1) c] w fun r w' => SplitP w l r w' := by
  have HC := Lib.hid (fun w => clone_c ad m c (l.take m) w)
  have HR := Lib.hid hr
  have hlen := hr.len
  have HL := Lib.hid hlen
  have HX := Lib.hid hx
  have q0 : wrap64 (((m + 1 : Nat) : Int) - 1) = (m : Int) := by unfold wrap64; omega
  have q0' : wrap64 ((m : Int) + 1 - 1) = (m : Int) := by unfold wrap64; omega
  have q1 : decide ((m : Int) < 0) = false := by simp
  have q2 : decide ((m : Int) ≤ (c : Int)) = true := by simp; omega
  have q3 : decide (m ≤ c) = true := by simp; omega
  have q4 : m ≤ c := by omega
  have q5 : (m : Int) < ((m + 1 : Nat) : Int) := by omega
  have q6 : decide (m < m + 1) = true := by simp
  have q7 : (m : Int) < (m : Int) + 1 := by omega
  have q8 : 0 ≤ (m : Int) := by omega
  clear hr hx hlen
  go_enter Tryd.func20, Tryd.ntmps20
  go_wp2_with fail
  have B0 := bl_drew (bl_refl w)
  have HR1 := Lib.hid ((HR.out.take m (by omega)).below B0)
  go_region_law (first
    | (go_simp; go_at_call 30; refine (HC.out _ HR1.out (by omega)).mono ?_; rintro r w1 ⟨⟨A1, c1, rfl, HO1⟩, b1⟩; have hcell := bl_cell (w := w.drew) b1 hcell))
  all_goals (
    go_wp2_with fail
    exact bodyPost_ret (results_tmp3 rfl _ _ _) rfl ⟨bl_then B0 b1, .inr ⟨A1, m, c1, x, HL.out, HX.out, rfl, HO1⟩⟩)
/-- A slice of texts that came in. -/
def IsSL (w : World) (A : Option Addr) (n c : Nat) (l : List ByteArray) : Prop := SL w A n l ∧ n ≤ c ∧ (A = none → n = 0 ∧ c = 0)
theorem cell_spot {w : World} {a : Addr} {v : Value} (h : w.cell? a = some v) : a = ⟨a.block, a.off, none⟩ := by
  cases a with
  | mk b o s =>
    cases s with
    | none => rfl
    | some x =>
      unfold World.cell? at h
      split at h <;> simp at h
/-- An argument's texts. -/
theorem sl_in {w : World} {a : Addr} {n c : Nat} {zs : List ByteArray} (hl : n ≤ c) (hm : c ≤ maxLen) (hz : zs.length = c) (hcell : ∀ i, i < zs.length → w.cell? (a.add i) = some (.string (zs.getD i ByteArray.empty))) : ∃ l, IsSL w (some a) n c l := by
  refine ⟨zs.take n, ⟨by rw [List.length_take]; omega, by unfold maxLen at hm; omega, fun hn => ?_⟩, hl, fun h => by cases h⟩
  have h0 := hcell 0 (by omega)
  have ea : a.add 0 = a := by unfold Addr.add; simp
  rw [ea] at h0
  refine ⟨a.block, a.off, by rw [← cell_spot h0], fun i x hx j v hv => ?_⟩
  have hj : j = 0 := by
    have := (List.getElem?_eq_some_iff.1 hv).1
    simpa [ss] using this
  subst hj
  simp [ss] at hv
  subst hv
  rw [List.getElem?_take] at hx
  split at hx
  · have hi := (List.getElem?_eq_some_iff.1 hx).1
    have h1 := hcell i hi
    rw [List.getD_eq_getElem?_getD, hx] at h1
    rw [Nat.mul_one, Nat.add_zero]
    rw [cell_spot h0] at h1
    rw [Addr.add_mid] at h1
    exact h1
  · cases hx
theorem split_c (A : Option Addr) (n c : Nat) (l : List ByteArray) (w : World) (h : IsSL w A n c l) (hn : n * 16 ≤ 140737488351232) :
    Calls Tryd.prog 20 #[.slice A n c] w fun r w' => SplitP w l r w' := by
  obtain ⟨hr, hc, hA⟩ := h
  cases n with
  | zero =>
    refine (split_nil A c w).mono ?_
    rintro r w' ⟨rfl, rfl⟩
    exact ⟨bl_refl w', .inl ⟨List.length_eq_zero_iff.1 hr.len, rfl⟩⟩
  | succ m =>
    obtain ⟨ad, x, rfl, hx, hcell⟩ := sl_at hr m (by omega)
    exact split_some ad m c x l w hr hx hc hcell hn
end Go.Proofs.YthihpejhhimkaaaDoor.Path3
