/- More operations carried out in a region that draws its order: new variables, whole stores. No program in sight. -/
import Derived.Test.YtdokmnpkihmkpaaHeldW
set_option linter.unusedVariables false
namespace Go.Proofs.Ytdokmnpkihmkpaa.HeldX
open Go.RowKit Go.Proofs.Ytdokmnpkihmkpaa.Base Go.Proofs.Ytdokmnpkihmkpaa.Row Go.Proofs.Ytdokmnpkihmkpaa.App Go.Proofs.Ytdokmnpkihmkpaa.Multi Go.Proofs.Ytdokmnpkihmkpaa.Out Go.Proofs.Ytdokmnpkihmkpaa.HeldW
section
variable {P : Program} {ops : Array Oper} {o : Oper} {a : Act} {Q : Exit → Act → World → Prop} {W : World} {K : Act → World → Prop}
/-- A new variable, its block under a name of its own. -/
theorem wp_alloc (T : TypeId) (ho : o.op = .alloc T) (cs : Array Value) (hz : (P.info? T).map (fun i => i.zero.map (·.cells)) = some (some cs))
    (h : ∀ g w', W.heap.size ≤ g → g < w'.heap.size → Blk w' g T cs → Below W.heap.size W w' → K (a.put o.dst (.pointer (some ⟨g, 0, none⟩))) w') : o.wp P a W K Q := by
  unfold Oper.wp execOp
  simp only [ho, Sem.run_bind, Sem.run_pure, run_alloc_zero T cs hz, Result.andThen_ok]
  exact h W.heap.size _ (Nat.le_refl _) (by simp) (Blk.new W T cs) (bl_alloc (bl_refl W) _)
/-- A value boxed, its block under a name of its own. -/
theorem wp_boxg (T : TypeId) (x : Operand) (ho : o.op = .box T x) (cs : Array Value) (hx : (a.eval x).cells = cs)
    (h : ∀ g w', W.heap.size ≤ g → g < w'.heap.size → Blk w' g T cs → Below W.heap.size W w' → K (a.put o.dst (.pointer (some ⟨g, 0, none⟩))) w') : o.wp P a W K Q := by
  have hrun : (Instr.box T (a.eval x)).run P W = .ok (.pointer (some ⟨W.heap.size, 0, none⟩)) (W.alloc (.cells cs T)) := by
    subst hx
    simp [Instr.box, newVar, newRow, newObj]
    rfl
  unfold Oper.wp execOp
  simp only [ho, Sem.run_bind, Sem.run_pure, hrun, Result.andThen_ok]
  exact h W.heap.size _ (Nat.le_refl _) (by simp) (Blk.new W T cs) (bl_alloc (bl_refl W) _)
/-- A whole variable written. -/
theorem wp_whole (T : TypeId) (x y : Operand) (ho : o.op = .store T x y) (g : Nat) (hx : a.eval x = .pointer (some ⟨g, 0, none⟩)) (cells : Array Value) (hy : a.eval y = .agg cells)
    (t : TypeId) (old : Array Value) (hg : Blk W g t old) (hi : (P.info? T).map (·.size) = some cells.size) (hold : old.size = cells.size) (h1 : ∀ v ∈ cells, v.oneCell' = true)
    (h : ∀ w', Blk w' g t cells → W.grownBy w' (some g) → W.heap.size ≤ w'.heap.size → K (a.put o.dst undef) w') : o.wp P a W K Q :=
  wp_store_row T x y ho g cells hx hy t old hg hi hold (Array.all_eq_true_iff_forall_mem.2 h1)
    (h _ (setRow_heap W g old cells t (0, 0) hg) ⟨rfl, rfl, rfl, by simp, fun k _ hne => setRow_other W g k cells (fun e => hne (by rw [e]))⟩ (by simp))
end
end Go.Proofs.Ytdokmnpkihmkpaa.HeldX
