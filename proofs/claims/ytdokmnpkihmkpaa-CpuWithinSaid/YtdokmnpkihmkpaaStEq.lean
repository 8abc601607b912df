/- '==' of structs, by their fields; parts of a block behind a guard; cells of numbers. No program in sight. -/
import Derived.Test.YtdokmnpkihmkpaaRow
set_option linter.unusedVariables false
namespace Go.Proofs.Ytdokmnpkihmkpaa.StEq
open Go.RowKit Go.Proofs.Ytdokmnpkihmkpaa.Base Go.Proofs.Ytdokmnpkihmkpaa.Row

section
variable {P : Program} {ops : Array Oper} {Q : Exit → Act → World → Prop} {rest : List Oper} {o : Oper} {a : Act} {W : World}
/-- A part of a block read, behind a guard. -/
theorem wl_load_mid_on {gd : Nat} {u : Bool} (hgd : o.guard = some (gd, u)) (T : TypeId) (x : Operand) (ho : o.op = .load T x) (g off : Nat) (hx : a.eval x = .pointer (some ⟨g, off, none⟩)) (t : TypeId) (cs : Array Value) (l : List Value) (d : TypeDesc)
    (hg : Blk W g t cs) (hl : ∀ j v, l[j]? = some v → cs[off + j]? = some v) (hu : P.underlying T = some d) (hd : d.isRow = true) (hi : (P.info? T).map (·.size) = some l.length)
    (hop : ∃ og t, ops[gd]? = some og ∧ og.dst = some t ∧ a.tmps[t]? = some (.bool u))
    (h : wpList P ops Q rest (a.put o.dst (.agg l.toArray)) W) : wpList P ops Q (o :: rest) a W :=
  wl_guard hgd hop fun _ hK => wp_load_mid T x ho g off hx l d (hg.rangeL off l hl) hu hd hi (hK _ _ h)
/-- A zero value written T{}, behind a guard. -/
theorem wl_build0_on {gd : Nat} {u : Bool} (hgd : o.guard = some (gd, u)) (T : TypeId) (ho : o.op = .build T #[]) (cs : Array Value) (hb : P.built T [] = some cs)
    (hop : ∃ og t, ops[gd]? = some og ∧ og.dst = some t ∧ a.tmps[t]? = some (.bool u))
    (h : wpList P ops Q rest (a.put o.dst (.agg cs)) W) : wpList P ops Q (o :: rest) a W := by
  have e : (Array.map (fun (x : Nat × Operand) => match x with | (i, x) => (i, a.eval x)) #[]).toList = [] := by simp
  refine wl_guard hgd hop fun _ hK => wp_build T #[] ho ?_ ?_
  · rw [e, hb]; rfl
  · rw [e, hb]; exact hK _ _ h
theorem wp_neq {K : Act → World → Prop} (t : TypeId) (x y : Operand) (yt : TypeId) (ho : o.op = .binOp .neq t x y yt) (xs ys : Array Value) (hx : a.eval x = .agg xs) (hy : a.eval y = .agg ys) (hm : P.eqGuardType P.depth t = false) (b : Bool) (he : (Op.equalIn 10000 t (.agg xs) (.agg ys)).run P W = .ok b W) (h : K (a.put o.dst (.bool (!b))) W) : o.wp P a W K Q := by
  unfold Oper.wp execOp
  simp only [ho, hx, hy, Sem.run_bind, run_eqGuard_agg, hm, run_neq_struct, he, Result.andThen_ok]
  exact h
/-- '==' or '!=' of structs and arrays whose outcome is known. -/
theorem wl_neq (hgd : o.guard = none) (t : TypeId) (x y : Operand) (yt : TypeId) (ho : o.op = .binOp .neq t x y yt) (xs ys : Array Value) (hx : a.eval x = .agg xs) (hy : a.eval y = .agg ys) (hm : P.eqGuardType P.depth t = false) (b : Bool) (he : (Op.equalIn 10000 t (.agg xs) (.agg ys)).run P W = .ok b W) (h : wpList P ops Q rest (a.put o.dst (.bool (!b))) W) : wpList P ops Q (o :: rest) a W :=
  wpList_plain hgd fun _ hK => wp_neq t x y yt ho xs ys hx hy hm b he (hK _ _ h)
theorem wl_neq_on {gd : Nat} {u : Bool} (hgd : o.guard = some (gd, u)) (hop : ∃ og t, ops[gd]? = some og ∧ og.dst = some t ∧ a.tmps[t]? = some (.bool u)) (t : TypeId) (x y : Operand) (yt : TypeId) (ho : o.op = .binOp .neq t x y yt) (xs ys : Array Value) (hx : a.eval x = .agg xs) (hy : a.eval y = .agg ys) (hm : P.eqGuardType P.depth t = false) (b : Bool) (he : (Op.equalIn 10000 t (.agg xs) (.agg ys)).run P W = .ok b W) (h : wpList P ops Q rest (a.put o.dst (.bool (!b))) W) : wpList P ops Q (o :: rest) a W :=
  wl_guard hgd hop fun _ hK => wp_neq t x y yt ho xs ys hx hy hm b he (hK _ _ h)
theorem wp_eql {K : Act → World → Prop} (t : TypeId) (x y : Operand) (yt : TypeId) (ho : o.op = .binOp .eql t x y yt) (xs ys : Array Value) (hx : a.eval x = .agg xs) (hy : a.eval y = .agg ys) (hm : P.eqGuardType P.depth t = false) (b : Bool) (he : (Op.equalIn 10000 t (.agg xs) (.agg ys)).run P W = .ok b W) (h : K (a.put o.dst (.bool b)) W) : o.wp P a W K Q := by
  unfold Oper.wp execOp
  simp only [ho, hx, hy, Sem.run_bind, run_eqGuard_agg, hm, run_eql_struct, he, Result.andThen_ok]
  exact h
/-- '==' or '!=' of structs and arrays whose outcome is known. -/
theorem wl_eql (hgd : o.guard = none) (t : TypeId) (x y : Operand) (yt : TypeId) (ho : o.op = .binOp .eql t x y yt) (xs ys : Array Value) (hx : a.eval x = .agg xs) (hy : a.eval y = .agg ys) (hm : P.eqGuardType P.depth t = false) (b : Bool) (he : (Op.equalIn 10000 t (.agg xs) (.agg ys)).run P W = .ok b W) (h : wpList P ops Q rest (a.put o.dst (.bool b)) W) : wpList P ops Q (o :: rest) a W :=
  wpList_plain hgd fun _ hK => wp_eql t x y yt ho xs ys hx hy hm b he (hK _ _ h)
theorem wl_eql_on {gd : Nat} {u : Bool} (hgd : o.guard = some (gd, u)) (hop : ∃ og t, ops[gd]? = some og ∧ og.dst = some t ∧ a.tmps[t]? = some (.bool u)) (t : TypeId) (x y : Operand) (yt : TypeId) (ho : o.op = .binOp .eql t x y yt) (xs ys : Array Value) (hx : a.eval x = .agg xs) (hy : a.eval y = .agg ys) (hm : P.eqGuardType P.depth t = false) (b : Bool) (he : (Op.equalIn 10000 t (.agg xs) (.agg ys)).run P W = .ok b W) (h : wpList P ops Q rest (a.put o.dst (.bool b)) W) : wpList P ops Q (o :: rest) a W :=
  wl_guard hgd hop fun _ hK => wp_eql t x y yt ho xs ys hx hy hm b he (hK _ _ h)
/-- A whole variable read, in a region that draws its order. -/
theorem step_load {K : Act → World → Prop} {E : Prop} (hgd : o.guard = none) (T : TypeId) (x : Operand) (ho : o.op = .load T x) (g : Nat) (hx : a.eval x = .pointer (some ⟨g, 0, none⟩)) (t : TypeId) (cs : Array Value) (d : TypeDesc)
    (hg : Blk W g t cs) (hu : P.underlying T = some d) (hd : d.isRow = true) (hi : (P.info? T).map (·.size) = some cs.size)
    (h : K (a.put o.dst (.agg cs)) W) : if Region.wanted o (yielded ops a.tmps) = true then Oper.wp P o a W K Q else E := by
  have hw : Region.wanted o (yielded ops a.tmps) = true := by simp [Region.wanted, hgd]
  rw [if_pos hw]
  exact wp_load_row T x ho g hx t cs (0, 0) d hg hu (by cases d <;> simp_all) hi h
end

section
variable {P : Program} {w : World}
theorem run_part_row (t : Nat) (ht : (∃ n e, P.underlying t = some (.array n e)) ∨ ∃ fs, P.underlying t = some (.struct fs)) (m : Nat) (hs : (P.info? t).map (·.size) = some m) (cs : Array Value) (j : Nat) (l : Array Value) (hl : cs.extract j (j + m) = l) : (part t cs j).run P w = .ok (.agg l) w := by
  obtain ⟨i, hi, hz⟩ := Option.map_eq_some_iff.1 hs
  have hz' : (sizeOf t).run P w = .ok m w := by simp [sizeOf, typeInfo, hi, hz]
  rcases ht with ⟨n, e, ht⟩ | ⟨fs, ht⟩
  · simp [part, isAgg, run_underlying ht, hz', hl]
  · simp [part, isAgg, run_underlying ht, hz', hl]
theorem run_eqFields_all (d : Nat) (xs ys : Array Value) (g : TypeId × Nat → Bool) : ∀ (fs : List Field) (l : List (TypeId × Nat)), fs.map (fun f => (decide (f.name = "_"), f.type, f.offset)) = l.map (fun x => (false, x.1, x.2)) →
    (∀ x ∈ l, ∃ a b, (part x.1 xs x.2).run P w = .ok a w ∧ (part x.1 ys x.2).run P w = .ok b w ∧ (Op.equalIn d x.1 a b).run P w = .ok (g x) w) → (Op.eqFields d xs ys fs).run P w = .ok (l.all g) w
  | [], [], _, _ => by simp [Op.eqFields]
  | [], x :: l, h, _ => by simp at h
  | f :: fs, [], h, _ => by simp at h
  | f :: fs, x :: l, h, hx => by
    simp only [List.map_cons, List.cons.injEq, Prod.mk.injEq] at h
    obtain ⟨⟨h1, h2, h3⟩, h4⟩ := h
    have hn : f.name ≠ "_" := by simpa using h1
    obtain ⟨a, b, ha, hb, hr⟩ := hx x (by simp)
    have ih := run_eqFields_all d xs ys g fs l h4 (fun y hy => hx y (by simp [hy]))
    rw [← h2] at ha hb hr
    rw [← h3] at ha hb
    simp only [Op.eqFields, if_pos hn, Sem.run_bind, ha, hb, hr, Result.andThen_ok]
    cases hg : g x with
    | false => simp [hg]
    | true => simp [hg, ih]
theorem eq_struct (d : Nat) (t : TypeId) (xs ys : Array Value) (ht : P.underlying t = some (.struct (P.fieldsOf t))) (hp : P.stoodInHeld t = false) (l : List (TypeId × Nat)) (hf : (P.fieldsOf t).toList.map (fun f => (decide (f.name = "_"), f.type, f.offset)) = l.map (fun x => (false, x.1, x.2)))
    (g : TypeId × Nat → Bool) (h : ∀ x ∈ l, ∃ a b, (part x.1 xs x.2).run P w = .ok a w ∧ (part x.1 ys x.2).run P w = .ok b w ∧ (Op.equalIn d x.1 a b).run P w = .ok (g x) w) : (Op.equalIn (d + 1) t (.agg xs) (.agg ys)).run P w = .ok (l.all g) w := by
  rw [run_equalIn_struct w d t xs ys ht hp]
  exact run_eqFields_all d xs ys g _ l hf h
end
/-- Cells that are numbers, as a list of these. -/
theorem ints_of {cs : Array Value} {k : IntKind} {o : Nat} : ∀ n : Nat, (∀ i, i < n → ∃ x : Int, cs[o + i]? = some (.int k x) ∧ (Lit.int k x).wf = true) → ∃ l : List Int, l.length = n ∧ (∀ i, i < n → cs[o + i]? = (nums k l)[i]?) ∧ ∀ x ∈ l, (Lit.int k x).wf = true
  | 0, _ => ⟨[], rfl, fun i h => absurd h (by omega), by simp⟩
  | n + 1, h => by
    obtain ⟨l, hl, hc, hw⟩ := ints_of n (fun i hi => h i (by omega))
    obtain ⟨x, hx, hxw⟩ := h n (by omega)
    refine ⟨l ++ [x], by simp [hl], fun i hi => ?_, fun y hy => ?_⟩
    · rw [nums_append]
      by_cases h1 : i < n
      · rw [List.getElem?_append_left (by rw [nums_length, hl]; exact h1)]
        exact hc i h1
      · obtain rfl : i = n := by omega
        rw [List.getElem?_append_right (by rw [nums_length, hl]; omega), nums_length, hl, Nat.sub_self]
        exact hx
    · rcases List.mem_append.1 hy with hy | hy
      · exact hw y hy
      · rw [List.mem_singleton] at hy; rw [hy]; exact hxw
end Go.Proofs.Ytdokmnpkihmkpaa.StEq
