/- Words of our own over worlds, used by the proofs of this seat: no program in sight. -/
import Derived.WalkKit
import Derived.WalkLawsBesides
import Derived.WalkSpells
import Derived.Lib.Hide
import Derived.Outline
import Derived.Below
import Derived.Deep.Draws
import Derived.Deep.QuietTactic
import Derived.BigQuiet
import Derived.Laws.MakeOwn
import Derived.Laws.OwnMore
import Derived.Laws.Rows
import Derived.Maps.AppendAt
import Derived.OwnWalk
import Derived.Deep.LoopGhost
import Derived.Deep.DeepFit
import Derived.Deep.AppendLies
import Derived.Laws.CopyOwn
import Derived.Laws.StructEq
namespace Go.Proofs.Ytdokmnpkihmkpaa.Base
open Go.RowKit

theorem ret_int {k : IntKind} {a b : Int} (h : a = b) : Ending.returned (.int k a) = .returned (.int k b) := by rw [h]
theorem ret_bool {a b : Bool} (h : a = b) : Ending.returned (.bool a) = .returned (.bool b) := by rw [h]
theorem ret_val {a b : Value} (h : a = b) : Ending.returned a = .returned b := by rw [h]

theorem bl_refl (w : World) : Below w.heap.size w w := Below.refl _ _
theorem bl_alloc {w W : World} (h : Below w.heap.size w W) (o : Obj) : Below w.heap.size w (W.alloc o) := h.alloc h.size o
theorem bl_drew {B : Nat} {w W : World} (h : Below B w W) : Below B w W.drew := ⟨h.os, h.tape, h.output, h.size, h.block⟩
theorem bl_drewN {B : Nat} {w W : World} (h : Below B w W) (n : Nat) : Below B w (W.drewN n) := ⟨h.os, h.tape, h.output, h.size, h.block⟩
theorem bl_set {w W : World} (h : Below w.heap.size w W) {p : Addr} (hp : w.heap.size ≤ p.block) (v : Value) : Below w.heap.size w (W.setCell p v) := h.setCell hp v
theorem bl_then {w w1 w2 : World} (h : Below w.heap.size w w1) (k : Below w1.heap.size w1 w2) : Below w.heap.size w w2 :=
  h.trans ⟨k.os, k.tape, k.output, k.size, fun i hi => k.block i (Nat.lt_of_lt_of_le hi h.size)⟩
theorem bl_thenB {B : Nat} {w w1 w2 : World} (h : Below B w w1) (hB : B ≤ w1.heap.size) (k : Below w1.heap.size w1 w2) : Below B w w2 :=
  h.trans ⟨k.os, k.tape, k.output, k.size, fun i hi => k.block i (Nat.lt_of_lt_of_le hi hB)⟩
theorem bl_size {w W : World} (h : Below w.heap.size w W) : w.heap.size ≤ W.heap.size := h.size
theorem bl_cell {w W : World} (h : Below w.heap.size w W) {a : Addr} {v : Value} (hc : w.cell? a = some v) : W.cell? a = some v := (h.cell (World.block_lt_of_cell? w a hc)).trans hc
theorem bl_heap {w W : World} (h : Below w.heap.size w W) {i : Nat} {o : Obj} (hc : w.heap[i]? = some o) : W.heap[i]? = some o := (h.block i (Array.getElem?_eq_some_iff.1 hc).1).trans hc
theorem bl_cells {w W : World} (h : Below w.heap.size w W) : (∀ b o, b < w.heap.size → W.cell? ⟨b, o, none⟩ = w.cell? ⟨b, o, none⟩) ∧ (∀ b o, b < w.heap.size → W.frozen? ⟨b, o, none⟩ = w.frozen? ⟨b, o, none⟩) :=
  ⟨fun b o hb => h.cell (p := ⟨b, o, none⟩) hb, fun b o hb => h.frozen (p := ⟨b, o, none⟩) hb⟩
/-! ### what a slice of numbers that came in is -/
def IsRow (k : IntKind) (w : World) (a : Option Addr) (len cap : Nat) (zs : List Int) : Prop :=
  (a = none ∧ len = 0 ∧ cap = 0 ∧ zs = []) ∨
  ∃ x, a = some x ∧ len ≤ cap ∧ cap ≤ maxLen ∧ zs.length = cap ∧ (∀ i, i < zs.length → w.cell? (x.add i) = some (.int k (zs.getD i 0))) ∧ ∀ n ∈ zs, (Lit.int k n).wf = true


theorem all_succ {P : Nat → Prop} {k : Nat} (h : ∀ j, j < k → P j) (hk : P k) : ∀ j, j < k + 1 → P j := fun j hj => by
  rcases Nat.lt_or_ge j k with h1 | h1
  · exact h j h1
  · obtain rfl : j = k := by omega
    exact hk

/-! ### slices of one-cell values -/
def nums (k : IntKind) (xs : List Int) : List Value := xs.map fun x => .int k x
theorem nums_length (k : IntKind) (xs : List Int) : (nums k xs).length = xs.length := by simp [nums]
theorem nums_append (k : IntKind) (xs ys : List Int) : nums k (xs ++ ys) = nums k xs ++ nums k ys := by simp [nums]
theorem nums_one (k : IntKind) (xs : List Int) : ∀ u ∈ nums k xs, u.oneCell' = true := by
  intro u hu
  obtain ⟨x, _, rfl⟩ := List.mem_map.1 hu
  rfl
theorem add_plain (g j : Nat) : (⟨g, 0, none⟩ : Addr).add j = ⟨g, j, none⟩ := by unfold Addr.add; split <;> simp_all
theorem add_off (a : Addr) (i j : Nat) : (a.add i).add j = a.add (i + j) := by
  unfold Addr.add
  by_cases hi : i = 0 <;> by_cases hj : j = 0 <;> simp [hi, hj, Nat.add_assoc]

/-- A slice of n elements that reads as xs: nil, empty and other slices alike. -/
structure Rd (w : World) (k : IntKind) (A : Option Addr) (n : Nat) (xs : List Int) : Prop where
  len : xs.length = n
  max : n ≤ 9223372036854775807
  cells : 0 < n → ∃ ad, A = some ad ∧ ∀ j, j < n → w.cell? (ad.add j) = some (.int k (xs[j]?.getD 0))
theorem Rd.nil (w : World) (k : IntKind) (A : Option Addr) : Rd w k A 0 [] := ⟨rfl, by omega, fun h => absurd h (by omega)⟩
theorem Rd.at_ {w : World} {k : IntKind} {A : Option Addr} {n : Nat} {xs : List Int} (h : Rd w k A n xs) (i : Nat) (hi : i < n) : ∃ ad, A = some ad ∧ w.cell? (ad.add i) = some (.int k (xs[i]?.getD 0)) := by
  obtain ⟨ad, e, hc⟩ := h.cells (by omega)
  exact ⟨ad, e, hc i hi⟩
theorem Rd.below {w w1 : World} {k : IntKind} {A : Option Addr} {n : Nat} {xs : List Int} (h : Rd w k A n xs) (hb : Below w.heap.size w w1) : Rd w1 k A n xs :=
  ⟨h.len, h.max, fun hn => by
    obtain ⟨ad, e, hc⟩ := h.cells hn
    exact ⟨ad, e, fun j hj => bl_cell hb (hc j hj)⟩⟩
theorem Rd.drewN {w : World} {k : IntKind} {A : Option Addr} {n : Nat} {xs : List Int} (h : Rd w k A n xs) (m : Nat) : Rd (w.drewN m) k A n xs := h.below (bl_drewN (bl_refl w) m)
theorem Rd.take {w : World} {k : IntKind} {A : Option Addr} {n m : Nat} {xs : List Int} (h : Rd w k A n xs) (hm : m ≤ n) : Rd w k A m (xs.take m) :=
  ⟨by rw [List.length_take, h.len]; omega, by have := h.max; omega, fun hp => by
    obtain ⟨ad, e, hc⟩ := h.cells (by omega)
    exact ⟨ad, e, fun j hj => by rw [hc j (by omega), List.getElem?_take, if_pos hj]⟩⟩
theorem Rd.cut {w : World} {k : IntKind} {A : Option Addr} {n m cap : Nat} {xs : List Int} (h : Rd w k A n xs) (hm : m ≤ n) (hc : n ≤ cap) : Rd w k (if cap = m then A else A.map (·.add m)) (n - m) (xs.drop m) :=
  ⟨by rw [List.length_drop, h.len], by have := h.max; omega, fun hp => by
    obtain ⟨ad, rfl, hcell⟩ := h.cells (by omega)
    rw [if_neg (by omega)]
    refine ⟨ad.add m, rfl, fun j hj => ?_⟩
    rw [add_off, hcell _ (by omega), List.getElem?_drop]⟩
theorem Rd.of_own {w : World} {base e n : Nat} {k : IntKind} {A : Option Addr} {c : Nat} {xs : List Int} (h : w.ownsRow base e 1 (.slice A n c) n (nums k xs)) : Rd w k A n xs := by
  have hl : xs.length = n := by have := h.1; simp [nums] at this; exact this
  refine ⟨hl, ?_, fun hn => ?_⟩
  · rcases h.2 with ⟨_, h1⟩ | ⟨g', cap', cur, he, _, _, h1, h2, _⟩
    · omega
    · simp only [maxLen] at h2; omega
  · obtain ⟨g, cap, hv, _, _⟩ := h.form hn
    have hA : A = some ⟨g, 0, none⟩ := by injection hv
    subst hA
    refine ⟨_, rfl, fun j hj => h.cells (g := g) rfl j _ ?_⟩
    simp [nums, List.getElem?_eq_getElem (show j < xs.length by omega)]
theorem Rd.of_row {w : World} {k : IntKind} {a : Option Addr} {len cap : Nat} {zs : List Int} (h : IsRow k w a len cap zs) : Rd w k a len (zs.take len) ∧ len ≤ cap ∧ cap ≤ 9223372036854775807 ∧ ∀ x ∈ zs.take len, (Lit.int k x).wf = true := by
  rcases h with ⟨rfl, rfl, rfl, rfl⟩ | ⟨x, rfl, hl, hm, hz, hc, hw⟩
  · exact ⟨Rd.nil _ _ _, by omega, by omega, by simp⟩
  · have hm' : cap ≤ 9223372036854775807 := by simpa [maxLen] using hm
    refine ⟨⟨by rw [List.length_take]; omega, by omega, fun hn => ⟨x, rfl, fun j hj => ?_⟩⟩, hl, hm', fun y hy => hw y (List.mem_of_mem_take hy)⟩
    rw [hc j (by omega), List.getElem?_take, if_pos hj, List.getD_eq_getElem?_getD]
theorem wf_u8_range {x : Int} (h : (Lit.int .u8 x).wf = true) : 0 ≤ x ∧ x < 256 := by
  simp [Lit.wf, IntKind.min, IntKind.max, IntKind.signed, IntKind.bits] at h; omega
theorem wf_u32_range {x : Int} (h : (Lit.int .u32 x).wf = true) : 0 ≤ x ∧ x < 4294967296 := by
  simp [Lit.wf, IntKind.min, IntKind.max, IntKind.signed, IntKind.bits] at h; omega
theorem wf_i64_range {x : Int} (h : (Lit.int .i64 x).wf = true) : -9223372036854775808 ≤ x ∧ x ≤ 9223372036854775807 := by
  simp [Lit.wf, IntKind.min, IntKind.max, IntKind.signed, IntKind.bits] at h; omega
theorem getD_mem_range {xs : List Int} {lo hi : Int} (h : ∀ x ∈ xs, lo ≤ x ∧ x < hi) (h0 : lo ≤ 0 ∧ 0 < hi) (i : Nat) : lo ≤ xs[i]?.getD 0 ∧ xs[i]?.getD 0 < hi := by
  cases hx : xs[i]? with
  | none => exact h0
  | some x => exact h x (List.mem_of_getElem? hx)

/-! ### rows of the call's own -/
theorem own_nil (w : World) (base e size : Nat) : w.ownsRow base e size (.slice none 0 0) 0 [] := ⟨by simp, .inl ⟨rfl, rfl⟩⟩
theorem own_slice {w : World} {base n : Nat} {e : TypeId} {size : Nat} {v : Value} {xs : List Value} (h : w.ownsRow base e size v n xs) : ∃ A c, v = .slice A n c := by
  rcases h.2 with ⟨rfl, rfl⟩ | ⟨g, cap, cur, rfl, _⟩
  · exact ⟨none, 0, rfl⟩
  · exact ⟨_, cap, rfl⟩
theorem own_cap {w : World} {base n c : Nat} {e : TypeId} {size : Nat} {A : Option Addr} {xs : List Value} (h : w.ownsRow base e size (.slice A n c) n xs) : n ≤ c := by
  rcases h.2 with ⟨h1, h2⟩ | ⟨g, cap, cur, hv, _, _, hc, _⟩
  · omega
  · injection hv with h1 h2 h3
    omega
theorem own_base {w : World} {base : Nat} {e : TypeId} {size n : Nat} {v : Value} {xs : List Value} (h : w.ownsRow base e size v n xs) (k : Nat) (hk : v.ownBlock = some k) : base ≤ k := (h.lt k hk).1
theorem grown_of_below {w w1 : World} (h : Below w.heap.size w w1) (row : Option Nat) : w.grownBy w1 row := ⟨h.os, h.tape, h.output, h.size, fun i hi _ => h.block i hi⟩
theorem own_below {w w1 : World} {base : Nat} {e : TypeId} {size n : Nat} {v : Value} {xs : List Value} (h : w.ownsRow base e size v n xs) (hb : Below w.heap.size w w1) : w1.ownsRow base e size v n xs :=
  h.kept (grown_of_below hb none) (by cases v.ownBlock <;> simp)
theorem own_mono {w : World} {base base' : Nat} {e : TypeId} {size n : Nat} {v : Value} {xs : List Value} (h : w.ownsRow base e size v n xs) (hb : base' ≤ base) : w.ownsRow base' e size v n xs := by
  obtain ⟨h1, h2⟩ := h
  refine ⟨h1, ?_⟩
  rcases h2 with h2 | ⟨g, cap, cur, h3, h4, h5⟩
  · exact .inl h2
  · exact .inr ⟨g, cap, cur, h3, by omega, h5⟩


/-- The length of a slice in a slot, for a loop's measure. -/
def lenOf : Value → Nat | .slice _ n _ => n | _ => 0

/-! ### append onto a row of the call's own -/
section
variable {P : Program} {ops : Array Oper} {rest : List Oper} {o : Oper} {a : Act} {Q : Exit → Act → World → Prop}
theorem app_own {w0 W : World} (base size bytes : Nat) (z : Value) (hgd : o.guard = none) (s x : Operand) (t e : TypeId)
    (ho : o.op = .call { callee := .builtin .append, args := #[s, x], argTypes := #[t, t] })
    (ht : P.underlying t = some (.slice e)) (hinfo : (P.info? e).map (fun i => (i.zero, i.size, i.bytes)) = some (some z, size, bytes)) (hzs : z.cells.size = size) (hsz : 0 < size) (hb0 : 0 < bytes)
    (v : Value) (n : Nat) (xs : List Value) (hs : a.eval s = v) (HO : W.ownsRow base e size v n xs)
    (ad : Addr) (m c : Nat) (news : List Value) (hx : a.eval x = .slice (some ad) m c) (hl : news.length = m * size) (hnews : ∀ j u, news[j]? = some u → W.cell? (ad.add j) = some u) (h1 : ∀ u ∈ news, u.oneCell' = true)
    (hbytes : (n + m) * bytes ≤ 140737488355328) (HB : Below base w0 W) (hbase : base ≤ W.heap.size)
    (h : ∀ A1 c1 w1, w1.ownsRow base e size (.slice A1 (n + m) c1) (n + m) (xs ++ news) → Below base w0 w1 → W.heap.size ≤ w1.heap.size → W.grownBy w1 v.ownBlock → wpList P ops Q rest (a.put o.dst (.slice A1 (n + m) c1)) w1) :
    wpList P ops Q (o :: rest) a W := by
  obtain ⟨i0, hi, hz0, hz1, hz2⟩ := info_parts hinfo
  have hlen : n + m ≤ 140737488355328 := Nat.le_trans (Nat.le_mul_of_pos_right _ hb0) hbytes
  refine wpList_append_own W hgd s x t ho base e i0 z size bytes ht hi hz0 hz1 hz2 hzs hsz v n xs hs HO ad m c news hx hl hnews h1 (by simp only [maxLen]; omega) hbytes hbase ?_
  intro v1 w1 hown hg _
  obtain ⟨A1, c1, rfl⟩ := own_slice hown
  exact h A1 c1 w1 hown (HB.grown hg hbase (own_base HO)) hg.size hg
theorem row_news {w : World} {B : Nat} {cs : Array Value} {t : TypeId} {fr : Nat × Nat} (hb : w.heap[B]? = some (.cells cs t fr)) : ∀ j u, cs.toList[j]? = some u → w.cell? ((⟨B, 0, none⟩ : Addr).add j) = some u := World.news_of_block hb
end

/-! ### '==' of arrays -/
section
variable {P : Program} {w : World}
theorem run_forIn_eq (F : Nat → Sem Bool) (f : Nat → Bool) (l : List Nat) (h : ∀ j ∈ l, (F j).run P w = .ok (f j) w) :
    (forIn (m := Sem) (β := Option Bool × Unit) l (none, ()) fun i _ => do
        let r ← F i
        if (!r) = true then pure (ForInStep.done (some false, ())) else pure (ForInStep.yield (none, ()))).run P w =
      .ok (if l.all f then none else some false, ()) w := by
  induction l with
  | nil => simp
  | cons a l ih =>
    have ha := h a (by simp)
    simp only [List.forIn_cons, Sem.run_bind, ha, Result.andThen_ok]
    cases hf : f a with
    | false => simp [hf]
    | true =>
      simp only [Bool.not_true, Bool.false_eq_true, if_false, Sem.run_pure, Result.andThen_ok]
      rw [ih (fun j hj => h j (by simp [hj]))]
      simp [hf]

theorem run_eq_array (d t n e sz : Nat) (i : TypeInfo) (ht : P.underlying t = some (.array n e)) (hi : P.info? e = some i) (hs : i.size = sz) (xs ys : Array Value) (f : Nat → Bool)
    (h : ∀ j, j < n → ∃ a b, (part e xs (j * sz)).run P w = .ok a w ∧ (part e ys (j * sz)).run P w = .ok b w ∧ (Op.equalIn d e a b).run P w = .ok (f j) w) :
    (Op.equalIn (d + 1) t (.agg xs) (.agg ys)).run P w = .ok ((List.range n).all f) w := by
  have hz : (sizeOf e).run P w = .ok sz w := by simp [sizeOf, typeInfo, hi, hs]
  simp only [Op.equalIn, Sem.run_bind, run_underlying ht, Result.andThen_ok, hz]
  rw [Std.Legacy.Range.forIn_eq_forIn_range']
  simp only [Std.Legacy.Range.size, Nat.sub_zero, Nat.add_sub_cancel, Nat.div_one, ← List.range_eq_range']
  have hF := run_forIn_eq (P := P) (w := w) (fun j => do
      let a ← part e xs (j * sz)
      let b ← part e ys (j * sz)
      Op.equalIn d e a b) f (List.range n) (fun j hj => by
        obtain ⟨a, b, h1, h2, h3⟩ := h j (List.mem_range.1 hj)
        simp only [Sem.run_bind, h1, h2, h3, Result.andThen_ok])
  have e1 : ∀ i : Nat, (do let r ← (do
      let a ← part e xs (i * sz)
      let b ← part e ys (i * sz)
      Op.equalIn d e a b : Sem Bool)
                           if (!r) = true then pure (ForInStep.done (some false, ())) else pure (ForInStep.yield (none, ())) : Sem (ForInStep (Option Bool × Unit))) = (do
      let a ← part e xs (i * sz)
      let b ← part e ys (i * sz)
      let r ← Op.equalIn d e a b
      if (!r) = true then pure (ForInStep.done (some false, ())) else pure (ForInStep.yield (none, ()))) := by
    intro i
    simp [bind_assoc]
  simp only [e1] at hF
  rw [hF]
  cases (List.range n).all f <;> simp

theorem run_part_int (t : TypeId) (k : IntKind) (ht : P.underlying t = some (.int k)) (cs : Array Value) (j : Nat) (v : Value) (hv : cs[j]? = some v) : (part t cs j).run P w = .ok v w := by
  simp [part, isAgg, run_underlying ht, hv]

theorem all_range_eq (n : Nat) (xs ys : List Int) (hx : xs.length = n) (hy : ys.length = n) : (List.range n).all (fun j => xs.getD j 0 == ys.getD j 0) = (xs == ys) := by
  rw [Bool.eq_iff_iff]
  simp only [List.all_eq_true, List.mem_range, beq_iff_eq]
  constructor
  · intro h
    apply List.ext_getElem (by omega)
    intro i h1 h2
    have := h i (by omega)
    simpa [List.getD_eq_getElem?_getD, List.getElem?_eq_getElem h1, List.getElem?_eq_getElem h2] using this
  · rintro rfl j _
    rfl

theorem run_eq_ints (d t n e : Nat) (k : IntKind) (i : TypeInfo) (ht : P.underlying t = some (.array n e)) (he : P.underlying e = some (.int k)) (hi : P.info? e = some i) (hs : i.size = 1)
    (xs ys : List Int) (hx : xs.length = n) (hy : ys.length = n) :
    (Op.equalIn (d + 2) t (.agg (xs.map (Value.int k)).toArray) (.agg (ys.map (Value.int k)).toArray)).run P w = .ok (xs == ys) w := by
  rw [run_eq_array (d + 1) t n e 1 i ht hi hs _ _ (fun j => xs.getD j 0 == ys.getD j 0), all_range_eq n xs ys hx hy]
  intro j hj
  refine ⟨.int k (xs.getD j 0), .int k (ys.getD j 0), ?_, ?_, ?_⟩
  · apply run_part_int e k he
    simp [List.getElem?_eq_getElem (show j < xs.length by omega)]
  · apply run_part_int e k he
    simp [List.getElem?_eq_getElem (show j < ys.length by omega)]
  · exact run_equalIn_int w d e k k _ _ he
end

end Go.Proofs.Ytdokmnpkihmkpaa.Base
