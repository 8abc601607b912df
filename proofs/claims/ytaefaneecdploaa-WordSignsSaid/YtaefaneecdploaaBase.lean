/- Words of our own over worlds, used by the proofs of this seat: no program in sight. -/
import Derived.WalkKit
import Derived.WalkLawsBesides
import Derived.WalkSpells
import Derived.Lib.Hide
import Derived.Outline
import Derived.Below
import Derived.Deep.Draws
import Derived.Deep.QuietTactic
import Derived.BigQuiet
import Derived.Laws.MakeOwn
import Derived.Laws.OwnMore
import Derived.Laws.Rows
import Derived.Maps.AppendAt
import Derived.OwnWalk
import Derived.Deep.LoopGhost
import Derived.Deep.DeepFit
import Derived.Laws.StructEq
namespace Go.Proofs.Ytaefaneecdploaa.Base
open Go.RowKit

theorem ret_int {k : IntKind} {a b : Int} (h : a = b) : Ending.returned (.int k a) = .returned (.int k b) := by rw [h]
theorem ret_bool {a b : Bool} (h : a = b) : Ending.returned (.bool a) = .returned (.bool b) := by rw [h]
theorem ret_val {a b : Value} (h : a = b) : Ending.returned a = .returned b := by rw [h]

theorem bl_refl (w : World) : Below w.heap.size w w := Below.refl _ _
theorem bl_alloc {w W : World} (h : Below w.heap.size w W) (o : Obj) : Below w.heap.size w (W.alloc o) := h.alloc h.size o
theorem bl_drew {B : Nat} {w W : World} (h : Below B w W) : Below B w W.drew := ⟨h.os, h.tape, h.output, h.size, h.block⟩
theorem bl_drewN {B : Nat} {w W : World} (h : Below B w W) (n : Nat) : Below B w (W.drewN n) := ⟨h.os, h.tape, h.output, h.size, h.block⟩
theorem bl_set {w W : World} (h : Below w.heap.size w W) {p : Addr} (hp : w.heap.size ≤ p.block) (v : Value) : Below w.heap.size w (W.setCell p v) := h.setCell hp v
theorem bl_then {w w1 w2 : World} (h : Below w.heap.size w w1) (k : Below w1.heap.size w1 w2) : Below w.heap.size w w2 :=
  h.trans ⟨k.os, k.tape, k.output, k.size, fun i hi => k.block i (Nat.lt_of_lt_of_le hi h.size)⟩
theorem bl_thenB {B : Nat} {w w1 w2 : World} (h : Below B w w1) (hB : B ≤ w1.heap.size) (k : Below w1.heap.size w1 w2) : Below B w w2 :=
  h.trans ⟨k.os, k.tape, k.output, k.size, fun i hi => k.block i (Nat.lt_of_lt_of_le hi hB)⟩
theorem bl_size {w W : World} (h : Below w.heap.size w W) : w.heap.size ≤ W.heap.size := h.size
theorem bl_cell {w W : World} (h : Below w.heap.size w W) {a : Addr} {v : Value} (hc : w.cell? a = some v) : W.cell? a = some v := (h.cell (World.block_lt_of_cell? w a hc)).trans hc
theorem bl_heap {w W : World} (h : Below w.heap.size w W) {i : Nat} {o : Obj} (hc : w.heap[i]? = some o) : W.heap[i]? = some o := (h.block i (Array.getElem?_eq_some_iff.1 hc).1).trans hc
theorem bl_cells {w W : World} (h : Below w.heap.size w W) : (∀ b o, b < w.heap.size → W.cell? ⟨b, o, none⟩ = w.cell? ⟨b, o, none⟩) ∧ (∀ b o, b < w.heap.size → W.frozen? ⟨b, o, none⟩ = w.frozen? ⟨b, o, none⟩) :=
  ⟨fun b o hb => h.cell (p := ⟨b, o, none⟩) hb, fun b o hb => h.frozen (p := ⟨b, o, none⟩) hb⟩
/-! ### what a slice of numbers that came in is -/
def IsRow (k : IntKind) (w : World) (a : Option Addr) (len cap : Nat) (zs : List Int) : Prop :=
  (a = none ∧ len = 0 ∧ cap = 0 ∧ zs = []) ∨
  ∃ x, a = some x ∧ len ≤ cap ∧ cap ≤ maxLen ∧ zs.length = cap ∧ (∀ i, i < zs.length → w.cell? (x.add i) = some (.int k (zs.getD i 0))) ∧ ∀ n ∈ zs, (Lit.int k n).wf = true

/-! ### '==' of arrays -/
section
variable {P : Program} {w : World}
theorem run_forIn_eq (F : Nat → Sem Bool) (f : Nat → Bool) (l : List Nat) (h : ∀ j ∈ l, (F j).run P w = .ok (f j) w) :
    (forIn (m := Sem) (β := Option Bool × Unit) l (none, ()) fun i _ => do
        let r ← F i
        if (!r) = true then pure (ForInStep.done (some false, ())) else pure (ForInStep.yield (none, ()))).run P w =
      .ok (if l.all f then none else some false, ()) w := by
  induction l with
  | nil => simp
  | cons a l ih =>
    have ha := h a (by simp)
    simp only [List.forIn_cons, Sem.run_bind, ha, Result.andThen_ok]
    cases hf : f a with
    | false => simp [hf]
    | true =>
      simp only [Bool.not_true, Bool.false_eq_true, if_false, Sem.run_pure, Result.andThen_ok]
      rw [ih (fun j hj => h j (by simp [hj]))]
      simp [hf]

theorem run_eq_array (d t n e sz : Nat) (i : TypeInfo) (ht : P.underlying t = some (.array n e)) (hi : P.info? e = some i) (hs : i.size = sz) (xs ys : Array Value) (f : Nat → Bool)
    (h : ∀ j, j < n → ∃ a b, (part e xs (j * sz)).run P w = .ok a w ∧ (part e ys (j * sz)).run P w = .ok b w ∧ (Op.equalIn d e a b).run P w = .ok (f j) w) :
    (Op.equalIn (d + 1) t (.agg xs) (.agg ys)).run P w = .ok ((List.range n).all f) w := by
  have hz : (sizeOf e).run P w = .ok sz w := by simp [sizeOf, typeInfo, hi, hs]
  simp only [Op.equalIn, Sem.run_bind, run_underlying ht, Result.andThen_ok, hz]
  rw [Std.Legacy.Range.forIn_eq_forIn_range']
  simp only [Std.Legacy.Range.size, Nat.sub_zero, Nat.add_sub_cancel, Nat.div_one, ← List.range_eq_range']
  have hF := run_forIn_eq (P := P) (w := w) (fun j => do
      let a ← part e xs (j * sz)
      let b ← part e ys (j * sz)
      Op.equalIn d e a b) f (List.range n) (fun j hj => by
        obtain ⟨a, b, h1, h2, h3⟩ := h j (List.mem_range.1 hj)
        simp only [Sem.run_bind, h1, h2, h3, Result.andThen_ok])
  have e1 : ∀ i : Nat, (do let r ← (do
      let a ← part e xs (i * sz)
      let b ← part e ys (i * sz)
      Op.equalIn d e a b : Sem Bool)
                           if (!r) = true then pure (ForInStep.done (some false, ())) else pure (ForInStep.yield (none, ())) : Sem (ForInStep (Option Bool × Unit))) = (do
      let a ← part e xs (i * sz)
      let b ← part e ys (i * sz)
      let r ← Op.equalIn d e a b
      if (!r) = true then pure (ForInStep.done (some false, ())) else pure (ForInStep.yield (none, ()))) := by
    intro i
    simp [bind_assoc]
  simp only [e1] at hF
  rw [hF]
  cases (List.range n).all f <;> simp

theorem run_part_int (t : TypeId) (k : IntKind) (ht : P.underlying t = some (.int k)) (cs : Array Value) (j : Nat) (v : Value) (hv : cs[j]? = some v) : (part t cs j).run P w = .ok v w := by
  simp [part, isAgg, run_underlying ht, hv]

theorem all_range_eq (n : Nat) (xs ys : List Int) (hx : xs.length = n) (hy : ys.length = n) : (List.range n).all (fun j => xs.getD j 0 == ys.getD j 0) = (xs == ys) := by
  rw [Bool.eq_iff_iff]
  simp only [List.all_eq_true, List.mem_range, beq_iff_eq]
  constructor
  · intro h
    apply List.ext_getElem (by omega)
    intro i h1 h2
    have := h i (by omega)
    simpa [List.getD_eq_getElem?_getD, List.getElem?_eq_getElem h1, List.getElem?_eq_getElem h2] using this
  · rintro rfl j _
    rfl

theorem run_eq_ints (d t n e : Nat) (k : IntKind) (i : TypeInfo) (ht : P.underlying t = some (.array n e)) (he : P.underlying e = some (.int k)) (hi : P.info? e = some i) (hs : i.size = 1)
    (xs ys : List Int) (hx : xs.length = n) (hy : ys.length = n) :
    (Op.equalIn (d + 2) t (.agg (xs.map (Value.int k)).toArray) (.agg (ys.map (Value.int k)).toArray)).run P w = .ok (xs == ys) w := by
  rw [run_eq_array (d + 1) t n e 1 i ht hi hs _ _ (fun j => xs.getD j 0 == ys.getD j 0), all_range_eq n xs ys hx hy]
  intro j hj
  refine ⟨.int k (xs.getD j 0), .int k (ys.getD j 0), ?_, ?_, ?_⟩
  · apply run_part_int e k he
    simp [List.getElem?_eq_getElem (show j < xs.length by omega)]
  · apply run_part_int e k he
    simp [List.getElem?_eq_getElem (show j < ys.length by omega)]
  · exact run_equalIn_int w d e k k _ _ he
end

end Go.Proofs.Ytaefaneecdploaa.Base
