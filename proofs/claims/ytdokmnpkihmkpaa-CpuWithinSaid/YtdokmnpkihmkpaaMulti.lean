/- Slices of values of several cells, each told by a function f: no program in sight. -/
import Derived.Test.YtdokmnpkihmkpaaApp
set_option linter.unusedVariables false
namespace Go.Proofs.Ytdokmnpkihmkpaa.Multi
open Go.RowKit Go.Proofs.Ytdokmnpkihmkpaa.Base Go.Proofs.Ytdokmnpkihmkpaa.Row Go.Proofs.Ytdokmnpkihmkpaa.App

theorem range_below {w w1 : World} (h : Below w.heap.size w w1) {g o : Nat} {cs : List Value} (hr : w.rangeAt g o cs) : w1.rangeAt g o cs := fun j v hv => bl_cell h (hr j v hv)

section
variable {α : Type} {f : α → List Value} {sz : Nat}
theorem flat_len (hf : ∀ x, (f x).length = sz) : ∀ l : List α, (l.flatMap f).length = l.length * sz
  | [] => by simp
  | x :: r => by rw [List.flatMap_cons, List.length_append, hf, flat_len hf r, List.length_cons, Nat.succ_mul]; omega
theorem flat_at (hf : ∀ x, (f x).length = sz) : ∀ (l : List α) (i : Nat) (x : α), l[i]? = some x → ∀ j v, (f x)[j]? = some v → (l.flatMap f)[i * sz + j]? = some v
  | [], i, x, h, _, _, _ => by simp at h
  | y :: r, 0, x, h, j, v, hv => by
    simp at h
    subst h
    rw [List.flatMap_cons, Nat.zero_mul, Nat.zero_add, List.getElem?_append_left (List.getElem?_eq_some_iff.1 hv).1]
    exact hv
  | y :: r, i + 1, x, h, j, v, hv => by
    rw [List.flatMap_cons, List.getElem?_append_right (by rw [hf, Nat.succ_mul]; omega), hf, show (i + 1) * sz + j - sz = i * sz + j by rw [Nat.succ_mul]; omega]
    exact flat_at hf r i x (by simpa using h) j v hv
theorem flat_inv (hf : ∀ x, (f x).length = sz) : ∀ (l : List α) (j : Nat) (v : Value), (l.flatMap f)[j]? = some v → ∃ i x j', l[i]? = some x ∧ (f x)[j']? = some v ∧ j = i * sz + j'
  | [], j, v, h => by simp at h
  | y :: r, j, v, h => by
    rw [List.flatMap_cons] at h
    rcases Nat.lt_or_ge j (f y).length with hj | hj
    · rw [List.getElem?_append_left hj] at h
      exact ⟨0, y, j, rfl, h, by simp⟩
    · rw [List.getElem?_append_right hj] at h
      obtain ⟨i, x, j', h1, h2, h3⟩ := flat_inv hf r _ v h
      refine ⟨i + 1, x, j', by simpa using h1, h2, ?_⟩
      rw [hf] at h3 hj
      rw [Nat.succ_mul]; omega
theorem flat_one (h1 : ∀ x, ∀ v ∈ f x, v.oneCell' = true) (l : List α) : ∀ v ∈ l.flatMap f, v.oneCell' = true := by
  intro v hv
  obtain ⟨x, _, hx⟩ := List.mem_flatMap.1 hv
  exact h1 x v hx
end

/-- A slice of n elements that reads as l. -/
structure RF {α : Type} (f : α → List Value) (sz : Nat) (w : World) (A : Option Addr) (n : Nat) (l : List α) : Prop where
  len : l.length = n
  max : n ≤ 9223372036854775807
  cells : 0 < n → ∃ g o, A = some ⟨g, o, none⟩ ∧ ∀ i x, l[i]? = some x → w.rangeAt g (o + i * sz) (f x)
section
variable {α : Type} {f : α → List Value} {sz : Nat} {w : World} {A : Option Addr} {n : Nat} {l : List α}
theorem RF.nil (f : α → List Value) (sz : Nat) (w : World) (A : Option Addr) : RF f sz w A 0 [] := ⟨rfl, by omega, fun h => absurd h (by omega)⟩
theorem RF.at_ (h : RF f sz w A n l) (i : Nat) (hi : i < n) : ∃ g o x, A = some ⟨g, o, none⟩ ∧ l[i]? = some x ∧ w.rangeAt g (o + i * sz) (f x) := by
  obtain ⟨g, o, e, hc⟩ := h.cells (by omega)
  have hl : i < l.length := by rw [h.len]; exact hi
  exact ⟨g, o, l[i], e, List.getElem?_eq_getElem hl, hc i _ (List.getElem?_eq_getElem hl)⟩
theorem RF.below {w1 : World} (h : RF f sz w A n l) (hb : Below w.heap.size w w1) : RF f sz w1 A n l :=
  ⟨h.len, h.max, fun hn => by
    obtain ⟨g, o, e, hc⟩ := h.cells hn
    exact ⟨g, o, e, fun i x hx => range_below hb (hc i x hx)⟩⟩
theorem RF.of_own {base e c : Nat} (hf : ∀ x, (f x).length = sz) (hs0 : 0 < sz) (h : w.ownsRow base e sz (.slice A n c) n (l.flatMap f)) : RF f sz w A n l := by
  have hl : l.length = n := by
    have h1 := h.1
    rw [flat_len hf] at h1
    exact Nat.eq_of_mul_eq_mul_right hs0 h1
  refine ⟨hl, ?_, fun hn => ?_⟩
  · rcases h.2 with ⟨_, h1⟩ | ⟨g', cap', cur, he, _, _, h1, h2, _⟩
    · omega
    · simp only [maxLen] at h2; omega
  · obtain ⟨g, cap, hv, _, _⟩ := h.form hn
    injection hv with hA
    subst hA
    refine ⟨g, 0, rfl, fun i x hx j v hv => ?_⟩
    have := h.cells (g := g) rfl (i * sz + j) v (flat_at hf l i x hx j v hv)
    rw [Addr.add_mid] at this
    rw [Nat.zero_add]
    rwa [Nat.zero_add] at this
theorem RF.src (hf : ∀ x, (f x).length = sz) (h : RF f sz w A n l) (hn : 0 < n) : ∃ ad, A = some ad ∧ ∀ j u, (l.flatMap f)[j]? = some u → w.cell? (ad.add j) = some u := by
  obtain ⟨g, o, rfl, hc⟩ := h.cells hn
  refine ⟨_, rfl, fun j u hu => ?_⟩
  obtain ⟨i, x, j', h1, h2, rfl⟩ := flat_inv hf l j u hu
  rw [Addr.add_mid, ← Nat.add_assoc]
  exact hc i x h1 j' u h2
theorem RF.take (h : RF f sz w A n l) (m : Nat) (hm : m ≤ n) : RF f sz w A m (l.take m) :=
  ⟨by rw [List.length_take, h.len]; omega, by have := h.max; omega, fun hp => by
    obtain ⟨g, o, e, hc⟩ := h.cells (by omega)
    refine ⟨g, o, e, fun i x hx => hc i x ?_⟩
    rw [List.getElem?_take] at hx
    split at hx
    · exact hx
    · cases hx⟩
theorem RF.cut {c : Nat} (hs0 : 0 < sz) (h : RF f sz w A n l) (m : Nat) (hm : m ≤ n) (hc : n ≤ c) : RF f sz w (if c = m then A else A.map (·.add (m * sz))) (n - m) (l.drop m) :=
  ⟨by rw [List.length_drop, h.len], by have := h.max; omega, fun hp => by
    obtain ⟨g, o, rfl, hcell⟩ := h.cells (by omega)
    rw [if_neg (by omega)]
    refine ⟨g, o + m * sz, by rw [Option.map_some, Addr.add_mid], fun i x hx => ?_⟩
    rw [List.getElem?_drop] at hx
    have := hcell _ x hx
    rwa [show o + (m + i) * sz = o + m * sz + i * sz by rw [Nat.add_mul]; omega] at this⟩
end

section
variable {P : Program} {ops : Array Oper} {rest : List Oper} {o : Oper} {a : Act} {Q : Exit → Act → World → Prop}
/-- A slice that came in, nil or not, appended to a row of the call's own. -/
theorem app_rf {α : Type} {f : α → List Value} {w0 W : World} (base sz bytes : Nat) (hf : ∀ x, (f x).length = sz) (h1f : ∀ x, ∀ v ∈ f x, v.oneCell' = true) (z : Value) (hgd : o.guard = none) (s x : Operand) (t e : TypeId)
    (ho : o.op = .call { callee := .builtin .append, args := #[s, x], argTypes := #[t, t] })
    (ht : P.underlying t = some (.slice e)) (hinfo : (P.info? e).map (fun i => (i.zero, i.size, i.bytes)) = some (some z, sz, bytes)) (hzs : z.cells.size = sz) (hs0 : 0 < sz) (hb0 : 0 < bytes)
    (v : Value) (n : Nat) (xs : List α) (hs : a.eval s = v) (HO : W.ownsRow base e sz v n (xs.flatMap f))
    (A : Option Addr) (m c : Nat) (ys : List α) (hx : a.eval x = .slice A m c) (hr : RF f sz W A m ys) (hA : A = none → c = 0)
    (hbytes : (n + m) * bytes ≤ 140737488355328) (HB : Below base w0 W) (hbase : base ≤ W.heap.size)
    (h : ∀ A1 c1 w1, w1.ownsRow base e sz (.slice A1 (n + m) c1) (n + m) ((xs ++ ys).flatMap f) → Below base w0 w1 → W.heap.size ≤ w1.heap.size → W.grownBy w1 v.ownBlock → wpList P ops Q rest (a.put o.dst (.slice A1 (n + m) c1)) w1) :
    wpList P ops Q (o :: rest) a W := by
  cases A with
  | none =>
    obtain rfl : c = 0 := hA rfl
    have hm : m = 0 := by
      rcases Nat.eq_zero_or_pos m with hm | hm
      · exact hm
      · obtain ⟨g, o, e', _⟩ := hr.cells hm
        cases e'
    subst hm
    obtain ⟨i0, hi, hz0, hz1, hz2⟩ := info_parts hinfo
    have hy : ys = [] := List.length_eq_zero_iff.1 hr.len
    subst hy
    obtain ⟨A1, c1, rfl⟩ := own_slice HO
    refine wpList_append_own_none hgd s x t ho base e i0 sz ht hi _ n (xs.flatMap f) hs HO hx ?_
    have := h A1 c1 W (by simpa using HO) HB (Nat.le_refl _) (World.grownBy.refl W _)
    simpa using this
  | some ad =>
    refine app_own (w0 := w0) base sz bytes z hgd s x t e ho ht hinfo hzs hs0 hb0 v n (xs.flatMap f) hs HO ad m c (ys.flatMap f) hx (by rw [flat_len hf, hr.len]) ?_ (flat_one h1f ys) hbytes HB hbase ?_
    · intro j u hu
      rcases Nat.eq_zero_or_pos m with hm | hm
      · subst hm
        obtain rfl : ys = [] := List.length_eq_zero_iff.1 hr.len
        simp at hu
      · obtain ⟨ad', e', hc⟩ := hr.src hf hm
        cases e'
        exact hc j u hu
    · intro A1 c1 w1 h1 h2 h3 h4
      exact h A1 c1 w1 (by rw [List.flatMap_append]; exact h1) h2 h3 h4

/-- One element appended, out of the literal's own block. -/
theorem app_onef {α : Type} {f : α → List Value} {w0 W : World} (base sz bytes : Nat) (hf : ∀ x, (f x).length = sz) (h1f : ∀ x, ∀ v ∈ f x, v.oneCell' = true) (z : Value) (hgd : o.guard = none) (s x : Operand) (t e : TypeId)
    (ho : o.op = .call { callee := .builtin .append, args := #[s, x], argTypes := #[t, t] })
    (ht : P.underlying t = some (.slice e)) (hinfo : (P.info? e).map (fun i => (i.zero, i.size, i.bytes)) = some (some z, sz, bytes)) (hzs : z.cells.size = sz) (hs0 : 0 < sz) (hb0 : 0 < bytes)
    (v : Value) (n : Nat) (xs : List α) (hs : a.eval s = v) (HO : W.ownsRow base e sz v n (xs.flatMap f))
    (y : α) (cs : Array Value) (hcs : cs.toList = f y) (N : Nat) (hN : N = W.heap.size) (hx : a.eval x = .slice (some ⟨N, 0, none⟩) 1 1)
    (hbytes : (n + 1) * bytes ≤ 140737488355328) (HB : Below base w0 W) (hbase : base ≤ W.heap.size)
    (h : ∀ A1 c1 w1, w1.ownsRow base e sz (.slice A1 (n + 1) c1) (n + 1) ((xs ++ [y]).flatMap f) → Below base w0 w1 → W.heap.size ≤ w1.heap.size → W.grownBy w1 v.ownBlock → wpList P ops Q rest (a.put o.dst (.slice A1 (n + 1) c1)) w1) :
    wpList P ops Q (o :: rest) a (W.alloc (.cells cs e)) := by
  subst hN
  refine app_own (w0 := w0) base sz bytes z hgd s x t e ho ht hinfo hzs hs0 hb0 v n (xs.flatMap f) hs (HO.alloc _) ⟨W.heap.size, 0, none⟩ 1 1 (f y) hx (by rw [hf, Nat.one_mul]) (by rw [← hcs]; exact row_news (heap_alloc_new _ _)) (h1f y) hbytes (HB.alloc hbase _) (by simp; omega) ?_
  intro A1 c1 w1 h1 h2 h3 h4
  refine h A1 c1 w1 (by rw [List.flatMap_append]; simpa using h1) h2 (by simp at h3; omega) ?_
  exact World.grownBy.trans (grown_of_below (bl_alloc (bl_refl W) _) _) h4
end
theorem own_nilf {α : Type} (f : α → List Value) (w : World) (base e size : Nat) : w.ownsRow base e size (.slice none 0 0) 0 (([] : List α).flatMap f) := own_nil w base e size
theorem own_noneS {w : World} {base e size n c : Nat} {xs : List Value} {A : Option Addr} (h : w.ownsRow base e size (.slice A n c) n xs) : A = none → c = 0 := by
  rintro rfl
  rcases h.2 with ⟨h1, _⟩ | ⟨g, cap, cur, hv, _⟩
  · injection h1
  · injection hv with h1; cases h1
theorem rf_lit {α : Type} {f : α → List Value} {sz : Nat} {W : World} {g : Nat} {t : TypeId} {cs : Array Value} {x : α} (h : Blk W g t cs) (hcs : cs.toList = f x) : RF f sz W (some ⟨g, 0, none⟩) 1 [x] :=
  ⟨rfl, by omega, fun _ => ⟨g, 0, rfl, fun i y hy j v hv => by
    match i, hy with
    | 0, hy =>
      simp at hy
      subst hy
      simp only [Nat.zero_mul, Nat.zero_add]
      rw [h.cell, ← Array.getElem?_toList, hcs]
      exact hv
    | i + 1, hy => simp at hy⟩⟩
section
variable {P : Program} {ops : Array Oper} {rest : List Oper} {o : Oper} {a : Act} {Q : Exit → Act → World → Prop}
/-- app_rf in a region that draws its order. -/
theorem step_rf {α : Type} {f : α → List Value} {K : Act → World → Prop} {E : Prop} {w0 W : World} (base sz bytes : Nat) (hf : ∀ x, (f x).length = sz) (h1f : ∀ x, ∀ v ∈ f x, v.oneCell' = true) (z : Value) (hgd : o.guard = none) (s x : Operand) (t e : TypeId)
    (ho : o.op = .call { callee := .builtin .append, args := #[s, x], argTypes := #[t, t] })
    (ht : P.underlying t = some (.slice e)) (hinfo : (P.info? e).map (fun i => (i.zero, i.size, i.bytes)) = some (some z, sz, bytes)) (hzs : z.cells.size = sz) (hs0 : 0 < sz) (hb0 : 0 < bytes)
    (v : Value) (n : Nat) (xs : List α) (hs : a.eval s = v) (HO : W.ownsRow base e sz v n (xs.flatMap f))
    (ad : Addr) (m c : Nat) (ys : List α) (hx : a.eval x = .slice (some ad) m c) (hr : RF f sz W (some ad) m ys)
    (hbytes : (n + m) * bytes ≤ 140737488355328) (HB : Below base w0 W) (hbase : base ≤ W.heap.size)
    (h : ∀ A1 c1 w1, w1.ownsRow base e sz (.slice A1 (n + m) c1) (n + m) ((xs ++ ys).flatMap f) → Below base w0 w1 → W.heap.size ≤ w1.heap.size → W.grownBy w1 v.ownBlock → K (a.put o.dst (.slice A1 (n + m) c1)) w1) :
    if Region.wanted o (yielded ops a.tmps) = true then Oper.wp P o a W K Q else E := by
  have hw : Region.wanted o (yielded ops a.tmps) = true := by simp [Region.wanted, hgd]
  rw [if_pos hw]
  obtain ⟨i0, hi, hz0, hz1, hz2⟩ := info_parts hinfo
  have hlen : n + m ≤ 140737488355328 := Nat.le_trans (Nat.le_mul_of_pos_right _ hb0) hbytes
  refine wp_append_own W s x t ho base e i0 z sz bytes ht hi hz0 hz1 hz2 hzs hs0 v n (xs.flatMap f) hs HO ad m c (ys.flatMap f) hx (by rw [flat_len hf, hr.len]) ?_ (flat_one h1f ys) (by simp only [maxLen]; omega) hbytes hbase ?_
  · intro j u hu
    rcases Nat.eq_zero_or_pos m with hm | hm
    · subst hm
      obtain rfl : ys = [] := List.length_eq_zero_iff.1 hr.len
      simp at hu
    · obtain ⟨ad', e', hc⟩ := hr.src hf hm
      cases e'
      exact hc j u hu
  · intro v1 w1 h1 hg _
    obtain ⟨A1, c1, rfl⟩ := own_slice h1
    exact h A1 c1 w1 (by rw [List.flatMap_append]; exact h1) (HB.grown hg hbase (own_base HO)) hg.size hg
end
/-! ### two rows that grow -/
def Apt (v v2 : Value) : Prop := ∀ k, v.ownBlock = some k → v2.ownBlock ≠ some k
theorem Apt.symm {v v2 : Value} (h : Apt v v2) : Apt v2 v := fun k hk e => h k e hk
theorem apt_nil (v : Value) : Apt (.slice none 0 0) v := fun k hk => by cases hk
theorem own_apt {w w1 : World} {base e size n : Nat} {v v2 : Value} {xs : List Value} (h : w.ownsRow base e size v2 n xs) (hd : Apt v v2) (hg : w.grownBy w1 v.ownBlock) : w1.ownsRow base e size v2 n xs := by
  refine h.kept hg ?_
  cases hb : v2.ownBlock with
  | none => exact .inl rfl
  | some k => exact .inr (fun e => hd k e.symm hb)
section
variable {P : Program} {ops : Array Oper} {rest : List Oper} {o : Oper} {a : Act} {Q : Exit → Act → World → Prop}
/-- One element appended, out of the literal's own block; the new row lies where the old one did, or is new. -/
theorem app_one_at {α : Type} {f : α → List Value} {w0 W : World} (base sz bytes : Nat) (hf : ∀ x, (f x).length = sz) (h1f : ∀ x, ∀ v ∈ f x, v.oneCell' = true) (z : Value) (hgd : o.guard = none) (s x : Operand) (t e : TypeId)
    (ho : o.op = .call { callee := .builtin .append, args := #[s, x], argTypes := #[t, t] })
    (ht : P.underlying t = some (.slice e)) (hinfo : (P.info? e).map (fun i => (i.zero, i.size, i.bytes)) = some (some z, sz, bytes)) (hzs : z.cells.size = sz) (hs0 : 0 < sz) (hb0 : 0 < bytes)
    (v : Value) (n : Nat) (xs : List α) (hs : a.eval s = v) (HO : W.ownsRow base e sz v n (xs.flatMap f))
    (y : α) (cs : Array Value) (hcs : cs.toList = f y) (N : Nat) (hN : N = W.heap.size) (hx : a.eval x = .slice (some ⟨N, 0, none⟩) 1 1)
    (hbytes : (n + 1) * bytes ≤ 140737488355328) (HB : Below base w0 W) (hbase : base ≤ W.heap.size)
    (h : ∀ A1 c1 w1, w1.ownsRow base e sz (.slice A1 (n + 1) c1) (n + 1) ((xs ++ [y]).flatMap f) → Below base w0 w1 → W.heap.size ≤ w1.heap.size → W.grownBy w1 v.ownBlock → (∀ v2 base2 e2 sz2 n2 xs2, W.ownsRow base2 e2 sz2 v2 n2 xs2 → Apt v v2 → Apt (.slice A1 (n + 1) c1) v2) → wpList P ops Q rest (a.put o.dst (.slice A1 (n + 1) c1)) w1) :
    wpList P ops Q (o :: rest) a (W.alloc (.cells cs e)) := by
  subst hN
  obtain ⟨i0, hi, hz0, hz1, hz2⟩ := info_parts hinfo
  have hlen : n + 1 ≤ 140737488355328 := Nat.le_trans (Nat.le_mul_of_pos_right _ hb0) hbytes
  have hW1 : (W.alloc (.cells cs e)).heap.size = W.heap.size + 1 := Array.size_push _
  refine wpList_append_own_at (W.alloc (.cells cs e)) hgd s x t ho base e i0 z sz bytes ht hi hz0 hz1 hz2 hzs hs0 v n (xs.flatMap f) hs (HO.alloc _) ⟨W.heap.size, 0, none⟩ 1 1 (f y) hx (by rw [hf, Nat.one_mul]) (by rw [← hcs]; exact row_news (heap_alloc_new _ _)) (h1f y) (by simp only [maxLen]; omega) hbytes (by omega) ?_
  intro v1 w1 h1 hg _ hat
  obtain ⟨A1, c1, rfl⟩ := own_slice h1
  refine h A1 c1 w1 (by rw [List.flatMap_append]; simpa using h1) ((HB.alloc hbase _).grown hg (by omega) (own_base HO)) (by have := hg.size; omega) (World.grownBy.trans (grown_of_below (bl_alloc (bl_refl W) _) _) hg) ?_
  intro v2 base2 e2 sz2 n2 xs2 HO2 hd k hk e2'
  rcases hat with hat | hat
  · rw [hat] at hk
    exact hd k hk e2'
  · rw [hat] at hk
    injection hk with hk
    have := (HO2.lt k e2').2
    omega
end
/-! ### a list of the call's own: where it lies is known by its type -/
/-- A slice that reads as l and lies, if it lies anywhere, in a block of type T. -/
def IsT {α : Type} (f : α → List Value) (sz : Nat) (T : TypeId) (w : World) (A : Option Addr) (n c : Nat) (l : List α) : Prop := RF f sz w A n l ∧ (A = none → c = 0) ∧ ∀ a, A = some a → ∃ cs, Blk w a.block T cs
section
variable {α : Type} {f : α → List Value} {sz : Nat} {T : TypeId} {w w1 : World} {A : Option Addr} {n c : Nat} {l : List α}
theorem ist_nil (f : α → List Value) (sz : Nat) (T : TypeId) (w : World) : IsT f sz T w none 0 0 [] := ⟨RF.nil _ _ _ _, fun _ => rfl, fun a h => by cases h⟩
theorem ist_below (h : IsT f sz T w A n c l) (hb : Below w.heap.size w w1) : IsT f sz T w1 A n c l :=
  ⟨h.1.below hb, h.2.1, fun a ha => by obtain ⟨cs, hk⟩ := h.2.2 a ha; exact ⟨cs, hk.below hb⟩⟩
theorem ist_own {base : Nat} (hf : ∀ x, (f x).length = sz) (hs0 : 0 < sz) (h : w.ownsRow base T sz (.slice A n c) n (l.flatMap f)) : IsT f sz T w A n c l :=
  ⟨RF.of_own hf hs0 h, own_noneS h, fun a ha => by
    subst ha
    rcases h.2 with ⟨h1, _⟩ | ⟨g, cap, cur, hv, _, hk, _⟩
    · cases h1
    · injection hv with h1
      injection h1 with h1
      subst h1
      exact ⟨cur, hk⟩⟩
theorem ist_far (h : IsT f sz T w A n c l) {g : Nat} {T' : TypeId} {cs' : Array Value} (hg : w.grownBy w1 (some g)) (hk : Blk w g T' cs') (hne : T ≠ T') : IsT f sz T w1 A n c l := by
  obtain ⟨h1, h2, h3⟩ := h
  have hb : ∀ a, A = some a → a.block ≠ g := fun a ha e => by
    obtain ⟨cs, hc⟩ := h3 a ha
    rw [e] at hc
    exact (Blk.ne_ hc hk hne) rfl
  refine ⟨⟨h1.len, h1.max, fun hn => ?_⟩, h2, fun a ha => ?_⟩
  · obtain ⟨g', o, e, hc⟩ := h1.cells hn
    refine ⟨g', o, e, fun i x hx j v hv => ?_⟩
    exact hg.cell (hc i x hx j v hv) (fun e' => by injection e' with e'; exact hb _ e e')
  · obtain ⟨cs, hc⟩ := h3 a ha
    exact ⟨cs, hc.grown hg (fun e' => by injection e' with e'; exact hb a ha e')⟩
theorem ist_len (h : IsT f sz T w A n c l) : n = l.length := h.1.len.symm
end
/-! ### copy of elements of several cells into a block known whole -/
section
variable {P : Program} {ops : Array Oper} {rest : List Oper} {o : Oper} {a : Act} {Q : Exit → Act → World → Prop} {W : World}
theorem run_copy_mul (sz : Nat) (dT sT ty elem : TypeId) (hu : P.underlying dT = some (.slice elem)) (hsz : (P.info? elem).map (·.size) = some sz) (g off dLen dCap : Nat) (t : TypeId) (cur : Array Value) (hg : Blk W g t cur)
    (ad : Addr) (n c m : Nat) (hm : Nat.min n dLen = m) (cs : List Value) (hl : cs.length = m * sz) (hsrc : ∀ j v, cs[j]? = some v → W.cell? (ad.add j) = some v) (hfit : off + cs.length ≤ cur.size) (h1 : ∀ v ∈ cs, v.oneCell' = true) :
    (Builtin.copy_ #[dT, sT] ty #[.slice (some ⟨g, off, none⟩) dLen dCap, .slice (some ad) n c]).run P W = .ok (goInt m) (W.setCells g off cs) := by
  have hld := run_loadCells_list (P := P) W ad cs hsrc
  have ht := hg.there off cs.length hfit
  have hst := run_storeCells_cells (P := P) g off cs 0 W (fun j hj => by simpa using (ht j hj).1) (fun j hj => by simpa using (ht j hj).2) h1
  cases hq : P.info? elem with
  | none => simp [hq] at hsz
  | some i =>
    have hi : i.size = sz := by simpa [hq] using hsz
    have hd : (Builtin.copy_ #[dT, sT] ty #[.slice (some ⟨g, off, none⟩) dLen dCap, .slice (some ad) n c]).run P W = .ok (goInt (Nat.min n dLen)) (W.setCells g off cs) := by
      simp [Builtin.copy_, run_underlying hu, Builtin.lenOf, Builtin.firstCells, sizeOf, typeInfo, hq, hi, hm, ← hl, hld, hst]
    rw [hd, hm]
theorem wl_copy_mul (sz : Nat) (hgd : o.guard = none) (d s : Operand) (dT sT : TypeId) (ho : o.op = .call { callee := .builtin .copy, args := #[d, s], argTypes := #[dT, sT] }) (elem : TypeId)
    (hu : P.underlying dT = some (.slice elem)) (hsz : (P.info? elem).map (·.size) = some sz) (g off dLen dCap : Nat) (hd : a.eval d = .slice (some ⟨g, off, none⟩) dLen dCap) (t : TypeId) (cur : Array Value) (hg : Blk W g t cur)
    (ad : Addr) (n c m : Nat) (hs : a.eval s = .slice (some ad) n c) (hm : Nat.min n dLen = m) (cs : List Value) (hl : cs.length = m * sz) (hsrc : ∀ j v, cs[j]? = some v → W.cell? (ad.add j) = some v) (hfit : off + cs.length ≤ cur.size) (h1 : ∀ v ∈ cs, v.oneCell' = true)
    (h : ∀ w', Blk w' g t (lay cur off cs) → W.grownBy w' (some g) → W.heap.size ≤ w'.heap.size → wpList P ops Q rest (a.put o.dst (goInt m)) w') : wpList P ops Q (o :: rest) a W := by
  refine wpList_plain hgd fun K hK => ?_
  have hrun := run_copy_mul (P := P) sz dT sT o.type elem hu hsz g off dLen dCap t cur hg ad n c m hm cs hl hsrc hfit h1
  unfold Oper.wp execOp
  simp only [ho, resolve, invoke, builtin, Sem.run_bind, Sem.run_pure, Result.andThen_ok, List.map_toArray, List.map_cons, List.map_nil, hd, hs, hrun]
  exact hK _ _ (h _ (hg.setCells cs off) (grownBy_setCells g cs off W) (Nat.le_of_eq (size_setCells g cs off W).symm))
end
end Go.Proofs.Ytdokmnpkihmkpaa.Multi
