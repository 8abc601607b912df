/- append of a slice that came in, nil or not, to a row of the call's own. -/
import Derived.Test.YtdokmnpkihmkpaaRow
import Derived.Laws.AppendOwnNone
set_option linter.unusedVariables false
namespace Go.Proofs.Ytdokmnpkihmkpaa.App
open Go.RowKit Go.Proofs.Ytdokmnpkihmkpaa.Base Go.Proofs.Ytdokmnpkihmkpaa.Row

section
variable {P : Program} {ops : Array Oper} {rest : List Oper} {o : Oper} {a : Act} {Q : Exit → Act → World → Prop}
theorem app_rd {w0 W : World} (base bytes : Nat) (k : IntKind) (z : Value) (hgd : o.guard = none) (s x : Operand) (t e : TypeId)
    (ho : o.op = .call { callee := .builtin .append, args := #[s, x], argTypes := #[t, t] })
    (ht : P.underlying t = some (.slice e)) (hinfo : (P.info? e).map (fun i => (i.zero, i.size, i.bytes)) = some (some z, 1, bytes)) (hzs : z.cells.size = 1) (hb0 : 0 < bytes)
    (v : Value) (n : Nat) (xs : List Value) (hs : a.eval s = v) (HO : W.ownsRow base e 1 v n xs)
    (A : Option Addr) (m c : Nat) (ys : List Int) (hx : a.eval x = .slice A m c) (hr : Rd W k A m ys) (hA : A = none → c = 0)
    (hbytes : (n + m) * bytes ≤ 140737488355328) (HB : Below base w0 W) (hbase : base ≤ W.heap.size)
    (h : ∀ A1 c1 w1, w1.ownsRow base e 1 (.slice A1 (n + m) c1) (n + m) (xs ++ nums k ys) → Below base w0 w1 → W.heap.size ≤ w1.heap.size → wpList P ops Q rest (a.put o.dst (.slice A1 (n + m) c1)) w1) :
    wpList P ops Q (o :: rest) a W := by
  cases A with
  | none =>
    obtain rfl : c = 0 := hA rfl
    have hm : m = 0 := by
      rcases Nat.eq_zero_or_pos m with hm | hm
      · exact hm
      · obtain ⟨ad, e', _⟩ := hr.cells hm
        cases e'
    subst hm
    obtain ⟨i0, hi, hz0, hz1, hz2⟩ := info_parts hinfo
    have hy : ys = [] := List.length_eq_zero_iff.1 hr.len
    subst hy
    obtain ⟨A1, c1, rfl⟩ := own_slice HO
    refine wpList_append_own_none hgd s x t ho base e i0 1 ht hi _ n xs hs HO hx ?_
    have := h A1 c1 W (by simpa [nums] using HO) HB (Nat.le_refl _)
    simpa using this
  | some ad =>
    refine app_own (w0 := w0) base 1 bytes z hgd s x t e ho ht hinfo hzs Nat.one_pos hb0 v n xs hs HO ad m c (nums k ys) hx (by simp [nums, hr.len]) ?_ (nums_one _ _) hbytes HB hbase ?_
    · intro j u hu
      rcases Nat.lt_or_ge j m with hj | hj
      · obtain ⟨ad', e', hc⟩ := hr.at_ j hj
        cases e'
        rw [hc]
        rw [← hu]
        simp [nums, List.getElem?_eq_getElem (show j < ys.length by rw [hr.len]; exact hj)]
      · rw [List.getElem?_eq_none (by simp [nums, hr.len]; exact hj)] at hu
        cases hu
    · intro A1 c1 w1 h1 h2 h3 _
      exact h A1 c1 w1 h1 h2 h3
theorem step_app {K : Act → World → Prop} {E : Prop} {w0 W : World} (base bytes : Nat) (k : IntKind) (z : Value) (hgd : o.guard = none) (s x : Operand) (t e : TypeId)
    (ho : o.op = .call { callee := .builtin .append, args := #[s, x], argTypes := #[t, t] })
    (ht : P.underlying t = some (.slice e)) (hinfo : (P.info? e).map (fun i => (i.zero, i.size, i.bytes)) = some (some z, 1, bytes)) (hzs : z.cells.size = 1) (hb0 : 0 < bytes)
    (v : Value) (n : Nat) (xs : List Value) (hs : a.eval s = v) (HO : W.ownsRow base e 1 v n xs)
    (A : Option Addr) (m c : Nat) (ys : List Int) (hx : a.eval x = .slice A m c) (hr : Rd W k A m ys) (hA : A = none → c = 0)
    (hbytes : (n + m) * bytes ≤ 140737488355328) (HB : Below base w0 W) (hbase : base ≤ W.heap.size)
    (h : ∀ A1 c1 w1, w1.ownsRow base e 1 (.slice A1 (n + m) c1) (n + m) (xs ++ nums k ys) → Below base w0 w1 → W.heap.size ≤ w1.heap.size → K (a.put o.dst (.slice A1 (n + m) c1)) w1) :
    if Region.wanted o (yielded ops a.tmps) = true then Oper.wp P o a W K Q else E := by
  have hw : Region.wanted o (yielded ops a.tmps) = true := by simp [Region.wanted, hgd]
  rw [if_pos hw]
  obtain ⟨i0, hi, hz0, hz1, hz2⟩ := info_parts hinfo
  have hlen : n + m ≤ 140737488355328 := Nat.le_trans (Nat.le_mul_of_pos_right _ hb0) hbytes
  cases A with
  | none =>
    obtain rfl : c = 0 := hA rfl
    have hm : m = 0 := by
      rcases Nat.eq_zero_or_pos m with hm | hm
      · exact hm
      · obtain ⟨ad, e', _⟩ := hr.cells hm
        cases e'
    subst hm
    have hy : ys = [] := List.length_eq_zero_iff.1 hr.len
    subst hy
    obtain ⟨A1, c1, rfl⟩ := own_slice HO
    have hrun := run_append_owned_none (P := P) (w := W) base t o.type e i0 1 ht hi _ n xs HO
    unfold Oper.wp
    simp [execOp, ho, resolve, invoke, builtin, hs, hx, hrun, Result.andThen]
    have := h A1 c1 W (by simpa [nums] using HO) HB (Nat.le_refl _)
    simp only [Nat.add_zero] at this
    exact this
  | some ad =>
    refine wp_append_own W s x t ho base e i0 z 1 bytes ht hi hz0 hz1 hz2 hzs Nat.one_pos v n xs hs HO ad m c (nums k ys) hx (by simp [nums, hr.len]) ?_ (nums_one _ _) (by simp only [maxLen]; omega) hbytes hbase ?_
    · intro j u hu
      rcases Nat.lt_or_ge j m with hj | hj
      · obtain ⟨ad', e', hc⟩ := hr.at_ j hj
        cases e'
        rw [hc]
        rw [← hu]
        simp [nums, List.getElem?_eq_getElem (show j < ys.length by rw [hr.len]; exact hj)]
      · rw [List.getElem?_eq_none (by simp [nums, hr.len]; exact hj)] at hu
        cases hu
    · intro v1 w1 h1 hg _
      obtain ⟨A1, c1, rfl⟩ := own_slice h1
      exact h A1 c1 w1 h1 (HB.grown hg hbase (own_base HO)) hg.size
end

section
variable {P : Program} {ops : Array Oper} {rest : List Oper} {o : Oper} {a : Act} {Q : Exit → Act → World → Prop}
/-- One element appended, out of the literal's own block. -/
theorem app_one {w0 W : World} (base bytes : Nat) (z : Value) (hgd : o.guard = none) (s x : Operand) (t e : TypeId)
    (ho : o.op = .call { callee := .builtin .append, args := #[s, x], argTypes := #[t, t] })
    (ht : P.underlying t = some (.slice e)) (hinfo : (P.info? e).map (fun i => (i.zero, i.size, i.bytes)) = some (some z, 1, bytes)) (hzs : z.cells.size = 1) (hb0 : 0 < bytes)
    (v : Value) (n : Nat) (xs : List Value) (hs : a.eval s = v) (HO : W.ownsRow base e 1 v n xs)
    (y : Value) (hy : y.oneCell' = true) (hx : a.eval x = .slice (some ⟨W.heap.size, 0, none⟩) 1 1)
    (hbytes : (n + 1) * bytes ≤ 140737488355328) (HB : Below base w0 W) (hbase : base ≤ W.heap.size)
    (h : ∀ A1 c1 w1, w1.ownsRow base e 1 (.slice A1 (n + 1) c1) (n + 1) (xs ++ [y]) → Below base w0 w1 → W.heap.size ≤ w1.heap.size → W.grownBy w1 v.ownBlock → wpList P ops Q rest (a.put o.dst (.slice A1 (n + 1) c1)) w1) :
    wpList P ops Q (o :: rest) a (W.alloc (.cells #[y] e)) := by
  refine app_own (w0 := w0) base 1 bytes z hgd s x t e ho ht hinfo hzs Nat.one_pos hb0 v n xs hs (HO.alloc _) ⟨W.heap.size, 0, none⟩ 1 1 [y] hx rfl (row_news (cs := #[y]) (heap_alloc_new _ _)) (by intro u hu; simp at hu; subst hu; exact hy) hbytes (HB.alloc hbase _) (by simp; omega) ?_
  intro A1 c1 w1 h1 h2 h3 h4
  refine h A1 c1 w1 h1 h2 (by simp at h3; omega) ?_
  exact World.grownBy.trans (grown_of_below (bl_alloc (bl_refl W) _) _) h4
end

theorem own_none {w : World} {base e n c : Nat} {xs : List Value} {A : Option Addr} (h : w.ownsRow base e 1 (.slice A n c) n xs) : A = none → c = 0 := by
  rintro rfl
  rcases h.2 with ⟨h1, _⟩ | ⟨g, cap, cur, hv, _⟩
  · injection h1
  · injection hv with h1; cases h1

end Go.Proofs.Ytdokmnpkihmkpaa.App
