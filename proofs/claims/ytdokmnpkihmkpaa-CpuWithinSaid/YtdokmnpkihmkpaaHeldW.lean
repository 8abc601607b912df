/- Stores and appends in a region that draws its order, with what they leave. No program in sight. -/
import Derived.Test.YtdokmnpkihmkpaaHeld
import Derived.Test.YtdokmnpkihmkpaaOut
import Derived.Great.BuildSlice
set_option linter.unusedVariables false
namespace Go.Proofs.Ytdokmnpkihmkpaa.HeldW
open Go.RowKit Go.Proofs.Ytdokmnpkihmkpaa.Base Go.Proofs.Ytdokmnpkihmkpaa.Row Go.Proofs.Ytdokmnpkihmkpaa.App Go.Proofs.Ytdokmnpkihmkpaa.Multi Go.Proofs.Ytdokmnpkihmkpaa.Out
section
variable {P : Program} {ops : Array Oper} {o : Oper} {a : Act} {Q : Exit → Act → World → Prop} {W : World} {K : Act → World → Prop}
theorem step_of {E : Prop} (hw : Region.wanted o (yielded ops a.tmps) = true) (h : Oper.wp P o a W K Q) : if Region.wanted o (yielded ops a.tmps) = true then Oper.wp P o a W K Q else E := by
  rw [if_pos hw]; exact h
/-- One cell written. -/
theorem wp_set (T : TypeId) (x y : Operand) (ho : o.op = .store T x y) (g i : Nat) (hx : a.eval x = .pointer (some ⟨g, i, none⟩)) (v : Value) (hy : a.eval y = v) (h1 : v.oneCell' = true)
    (t : TypeId) (old : Array Value) (hg : Blk W g t old) (hi : (P.info? T).map (·.size) = some 1) (hold : i < old.size)
    (h : ∀ w', Blk w' g t (old.setIfInBounds i v) → W.grownBy w' (some g) → W.heap.size ≤ w'.heap.size → K (a.put o.dst undef) w') : o.wp P a W K Q := by
  have hc : W.cell? ⟨g, i, none⟩ = some old[i] := (hg.cell i).trans (Array.getElem?_eq_getElem hold)
  have hcs : v.cells = #[v] := by cases v <;> first | rfl | (simp [Value.oneCell'] at h1)
  have hadd : (⟨g, i, none⟩ : Addr).add 0 = ⟨g, i, none⟩ := by simp [Addr.add]
  have hst : (store ⟨g, i, none⟩ v).run P W = .ok () (W.setCell ⟨g, i, none⟩ v) := by
    rw [run_store P W _ v _ h1, hc]
    simp [hg.frozen i]
  have hrun : (Instr.storeAt T (.pointer (some ⟨g, i, none⟩)) v).run P W = .ok () (W.setCell ⟨g, i, none⟩ v) := by
    obtain ⟨q, hq, hq1⟩ := Option.map_eq_some_iff.1 hi
    simp [Instr.storeAt, Instr.sureAddr, storeVar, sizeOf, typeInfo, hq, hq1, hcs, storeCells, hadd, hst]
  unfold Oper.wp execOp
  simp only [ho, hx, hy, Sem.run_bind, Sem.run_pure, hrun, Result.andThen_ok]
  exact h _ (hg.set_ i v) (grownBy_set W g i v) (Nat.le_of_eq (size_set W _ v).symm)
/-- A part of a block written. -/
theorem wp_mid (T : TypeId) (x y : Operand) (ho : o.op = .store T x y) (g off : Nat) (hx : a.eval x = .pointer (some ⟨g, off, none⟩)) (cells : Array Value) (hy : a.eval y = .agg cells)
    (t : TypeId) (old : Array Value) (hg : Blk W g t old) (hi : (P.info? T).map (·.size) = some cells.size) (hold : off + cells.size ≤ old.size) (h1 : ∀ v ∈ cells, v.oneCell' = true)
    (h : ∀ w', Blk w' g t (lay old off cells.toList) → W.grownBy w' (some g) → W.heap.size ≤ w'.heap.size → K (a.put o.dst undef) w') : o.wp P a W K Q :=
  wp_store_mid T x y ho g off cells hx hy (hg.there off _ hold) hi (Array.all_eq_true_iff_forall_mem.2 h1)
    (h _ (hg.setCells cells.toList off) (grownBy_setCells g cells.toList off W) (Nat.le_of_eq (size_setCells g cells.toList off W).symm))
/-- One element appended; the new row lies where the old one did, or is new. -/
theorem wp_app_w {α : Type} {f : α → List Value} (base sz bytes : Nat) (hf : ∀ x, (f x).length = sz) (h1f : ∀ x, ∀ v ∈ f x, v.oneCell' = true) (z : Value) (s x : Operand) (t e : TypeId)
    (ho : o.op = .call { callee := .builtin .append, args := #[s, x], argTypes := #[t, t] })
    (ht : P.underlying t = some (.slice e)) (hinfo : (P.info? e).map (fun i => (i.zero, i.size, i.bytes)) = some (some z, sz, bytes)) (hzs : z.cells.size = sz) (hs0 : 0 < sz) (hb0 : 0 < bytes)
    (v : Value) (n : Nat) (xs : List α) (hs : a.eval s = v) (HO : W.ownsRow base e sz v n (xs.flatMap f))
    (y : α) (ad : Addr) (c : Nat) (hx : a.eval x = .slice (some ad) 1 c) (hnews : ∀ j u, (f y)[j]? = some u → W.cell? (ad.add j) = some u)
    (hbytes : (n + 1) * bytes ≤ 140737488355328) (hbase : base ≤ W.heap.size)
    (h : ∀ A1 c1 w1, w1.ownsRow base e sz (.slice A1 (n + 1) c1) (n + 1) ((xs ++ [y]).flatMap f) → W.grownBy w1 v.ownBlock → W.heap.size ≤ w1.heap.size → (∀ a1, A1 = some a1 → v.ownBlock = some a1.block ∨ W.heap.size ≤ a1.block) → K (a.put o.dst (.slice A1 (n + 1) c1)) w1) :
    o.wp P a W K Q := by
  obtain ⟨i0, hi, hz0, hz1, hz2⟩ := info_parts hinfo
  have hlen : n + 1 ≤ 140737488355328 := Nat.le_trans (Nat.le_mul_of_pos_right _ hb0) hbytes
  obtain ⟨v1, w1, hrun, h1, hg, _, hat⟩ := run_append_own_at (P := P) (w := W) base t o.type e i0 z sz bytes ht hi hz0 hz1 hz2 hzs hs0 v n (xs.flatMap f) HO ad 1 c (f y) (by rw [hf, Nat.one_mul]) hnews (h1f y) (by simp only [maxLen]; omega) hbytes hbase
  obtain ⟨A1, c1, rfl⟩ := own_slice h1
  unfold Oper.wp execOp
  simp only [ho, resolve, invoke, builtin, Sem.run_bind, Sem.run_pure, Result.andThen_ok, List.map_toArray, List.map_cons, List.map_nil, hs, hx, hrun]
  refine h A1 c1 w1 (by rw [List.flatMap_append]; simpa using h1) hg hg.size ?_
  rintro a1 rfl
  rcases hat with hat | hat
  · left; rw [← hat]; rfl
  · right
    have : a1.block = W.heap.size := by injection hat
    omega
/-- A value laid over cells from o on, as the model does it. -/
theorem fold_lay (l : List Value) : ∀ (k o : Nat) (z : Array Value), (l.zipIdx k).foldl (fun cs (x : Value × Nat) => cs.setIfInBounds (o + x.2) x.1) z = lay z (o + k) l := by
  induction l with
  | nil => intro k o z; rfl
  | cons v r ih => intro k o z; rw [List.zipIdx_cons, List.foldl_cons, ih, lay]; rfl
theorem lay_all (z : Array Value) (l : List Value) (h : z.size = l.length) : lay z 0 l = l.toArray := by
  apply Array.ext_getElem?
  intro i
  rw [lay_get _ _ _ _ (by omega)]
  by_cases hi : i < l.length
  · rw [if_pos ⟨by omega, by omega⟩, Nat.sub_zero, List.getElem?_toArray]
  · rw [if_neg (by omega), Array.getElem?_eq_none (by omega), Array.getElem?_eq_none (by rw [List.size_toArray]; omega)]
theorem fill_one (n : Nat) (z cs : Array Value) (hz : z.size = n) (hc : cs.size = n) : Instr.fill (fun i => some (i * n, n)) z [(0, .agg cs)] = some cs := by
  have e : (cs.zipIdx.foldl (fun (a : Array Value) (x : Value × Nat) => a.setIfInBounds (0 * n + x.2) x.1) z) = cs := by
    rw [← Array.foldl_toList, Array.toList_zipIdx, fold_lay, Nat.zero_mul, lay_all _ _ (by rw [hz, Array.length_toList, hc])]
  have hv : (Value.agg cs).cells = cs := rfl
  unfold Instr.fill
  rw [hv]
  simp only [hc, hz, Instr.fill, ne_eq, not_true_eq_false, decide_false, Nat.zero_mul, Nat.zero_add, gt_iff_lt, Nat.lt_irrefl, Bool.or_self, Bool.false_eq_true, if_false]
  rw [Nat.zero_mul] at e
  simp only [Nat.zero_add] at e
  exact congrArg some e
/-- A slice of one element of several cells, written out. -/
theorem wp_bs1 (t e : TypeId) (x : Operand) (ho : o.op = .buildSlice t 1 #[(0, x)]) (hu : P.underlying t = some (.slice e)) (z : Value) (sz bytes : Nat) (hinfo : (P.info? e).map (fun i => (i.zero, i.size, i.bytes)) = some (some z, sz, bytes)) (hzs : z.cells.size = sz) (hs0 : 0 < sz) (hsm : sz ≤ 1000000)
    (cs : Array Value) (hx : a.eval x = .agg cs) (hcs : cs.size = sz) (h : K (a.put o.dst (.slice (some ⟨W.heap.size, 0, none⟩) 1 1)) (W.alloc (.cells cs e))) : o.wp P a W K Q := by
  obtain ⟨i0, hi, hz0, hz1, _⟩ := info_parts hinfo
  refine wp_buildSlice t e 1 #[(0, x)] ho cs i0 z hu hi hz0 (by rw [hz1]; omega) (by rw [hz1]; omega) ?_ h
  rw [hz1]
  simp only [List.map_toArray, List.map_cons, List.map_nil, hx]
  exact fill_one sz _ cs (by simp) hcs
/-- A struct built of two parts. -/
theorem yIf_build2 {S : World → Prop} (T : TypeId) (i0 i1 : Nat) (x0 x1 : Operand) (v0 v1 : Value) (cs : Array Value) (hb : P.built T [(i0, v0), (i1, v1)] = some cs)
    (hw : Region.wanted o (yielded ops a.tmps) = true) (ho : o.op = .build T #[(i0, x0), (i1, x1)]) (h0 : a.eval x0 = v0) (h1 : a.eval x1 = v1) : YieldsIf P ops S o (.agg cs) a :=
  .inl ⟨hw, fun w _ => by
    have hb' : P.built T (#[(i0, x0), (i1, x1)].map fun (x : Nat × Operand) => match x with | (i, x) => (i, a.eval x)).toList = some cs := by simpa [h0, h1] using hb
    unfold execOp
    simp only [ho, Sem.run_bind, run_build w T _ cs hb', Result.andThen_ok]
    rfl⟩
/-- A part of a block read. -/
theorem yIf_mid {S : World → Prop} (T : TypeId) (x : Operand) (g off : Nat) (t : TypeId) (cs : Array Value) (l : List Value) (d : TypeDesc) (hS : ∀ w, S w → Blk w g t cs) (hl : ∀ j v, l[j]? = some v → cs[off + j]? = some v) (hu : P.underlying T = some d) (hd : d.isRow = true) (hi : (P.info? T).map (·.size) = some l.length)
    (hw : Region.wanted o (yielded ops a.tmps) = true) (ho : o.op = .load T x) (hx : a.eval x = .pointer (some ⟨g, off, none⟩)) : YieldsIf P ops S o (.agg l.toArray) a :=
  yieldsIf_load_mid hw T x ho g off hx l d (fun w h => Blk.rangeL (hS w h) off l hl) hu hd hi
/-- A zero value written T{}. -/
theorem yIf_build0 {S : World → Prop} (T : TypeId) (cs : Array Value) (hb : P.built T [] = some cs)
    (hw : Region.wanted o (yielded ops a.tmps) = true) (ho : o.op = .build T #[]) : YieldsIf P ops S o (.agg cs) a :=
  .inl ⟨hw, fun w _ => by
    have hb' : P.built T (#[].map fun (x : Nat × Operand) => match x with | (i, x) => (i, a.eval x)).toList = some cs := by simpa using hb
    unfold execOp
    simp only [ho, Sem.run_bind, run_build w T _ cs hb', Result.andThen_ok]
    rfl⟩
end
end Go.Proofs.Ytdokmnpkihmkpaa.HeldW
