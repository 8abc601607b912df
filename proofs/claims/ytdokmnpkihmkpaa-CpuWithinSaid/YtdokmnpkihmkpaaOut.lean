/- What a call leaves: all blocks but some; rows of the call's own whose elements are written in place. No program in sight. -/
import Derived.Test.YtdokmnpkihmkpaaMulti
set_option linter.unusedVariables false
namespace Go.Proofs.Ytdokmnpkihmkpaa.Out
open Go.RowKit Go.Proofs.Ytdokmnpkihmkpaa.Base Go.Proofs.Ytdokmnpkihmkpaa.Row Go.Proofs.Ytdokmnpkihmkpaa.App Go.Proofs.Ytdokmnpkihmkpaa.Multi

/-- All blocks but those of S are as they were. -/
structure Out (w w' : World) (S : Nat → Prop) : Prop where
  os : w'.os = w.os
  tape : w'.tape = w.tape
  output : w'.output = w.output
  size : w.heap.size ≤ w'.heap.size
  block : ∀ i, i < w.heap.size → ¬ S i → w'.heap[i]? = w.heap[i]?
section
variable {w w1 w2 w0 : World} {S S2 : Nat → Prop}
theorem Out.refl (w : World) (S : Nat → Prop) : Out w w S := ⟨rfl, rfl, rfl, Nat.le_refl _, fun _ _ _ => rfl⟩
theorem Out.of_below (h : Below w.heap.size w w1) (S : Nat → Prop) : Out w w1 S := ⟨h.os, h.tape, h.output, h.size, fun i hi _ => h.block i hi⟩
theorem Out.of_grown {row : Option Nat} (h : w.grownBy w1 row) (hS : ∀ k, row = some k → S k) : Out w w1 S := ⟨h.os, h.tape, h.output, h.size, fun i hi hn => h.block i hi (fun e => hn (hS i e.symm))⟩
theorem Out.mono (h : Out w w1 S) (hS : ∀ i, S i → S2 i) : Out w w1 S2 := ⟨h.os, h.tape, h.output, h.size, fun i hi hn => h.block i hi (fun h' => hn (hS i h'))⟩
theorem Out.trans (h : Out w w1 S) (k : Out w1 w2 S2) (hS : ∀ i, S2 i → S i ∨ w.heap.size ≤ i) : Out w w2 S :=
  ⟨k.os.trans h.os, k.tape.trans h.tape, k.output.trans h.output, Nat.le_trans h.size k.size, fun i hi hn =>
    (k.block i (Nat.lt_of_lt_of_le hi h.size) (fun h' => (hS i h').elim hn (fun h2 => by omega))).trans (h.block i hi hn)⟩
theorem Out.below {B : Nat} (h : Out w w1 S) (hb : Below B w0 w) (hB : B ≤ w.heap.size) (hS : ∀ i, S i → B ≤ i) : Below B w0 w1 :=
  hb.trans ⟨h.os, h.tape, h.output, h.size, fun i hi => h.block i (by omega) (fun h' => by have := hS i h'; omega)⟩
theorem Out.below0 (h : Out w w1 S) (hS : ∀ i, S i → w.heap.size ≤ i) : Below w.heap.size w w1 := h.below (bl_refl w) (Nat.le_refl _) hS
theorem Blk.out {g : Nat} {t : TypeId} {cs : Array Value} (h : Blk w g t cs) (k : Out w w1 S) (hg : ¬ S g) : Blk w1 g t cs := (k.block g h.lt hg).trans h
theorem own_out {base e sz n : Nat} {v : Value} {xs : List Value} (h : w.ownsRow base e sz v n xs) (k : Out w w1 S) (hv : ∀ b, v.ownBlock = some b → ¬ S b) : w1.ownsRow base e sz v n xs := by
  obtain ⟨h1, h2⟩ := h
  refine ⟨h1, ?_⟩
  rcases h2 with h2 | ⟨g, cap, cur, rfl, hb, hk, hr⟩
  · exact .inl h2
  · exact .inr ⟨g, cap, cur, rfl, hb, Blk.out (h := hk) k (hv g rfl), hr⟩
theorem RF.out {α : Type} {f : α → List Value} {sz n : Nat} {A : Option Addr} {l : List α} (h : RF f sz w A n l) (k : Out w w1 S) (hA : ∀ a, A = some a → ¬ S a.block) : RF f sz w1 A n l :=
  ⟨h.len, h.max, fun hn => by
    obtain ⟨g, o, e, hc⟩ := h.cells hn
    refine ⟨g, o, e, fun i x hx j v hv => ?_⟩
    have h0 := hc i x hx j v hv
    have hlt : g < w.heap.size := World.block_lt_of_cell? w _ h0
    have hb := k.block g hlt (hA _ e)
    rw [← h0]
    simp only [World.cell?, hb]⟩
end

section
variable {α : Type} {f : α → List Value} {sz : Nat}
theorem flat_get (hf : ∀ x, (f x).length = sz) (l : List α) (q r : Nat) (x : α) (hx : l[q]? = some x) (hr : r < sz) : (l.flatMap f)[q * sz + r]? = (f x)[r]? := by
  have hl : r < (f x).length := by rw [hf]; exact hr
  rw [List.getElem?_eq_getElem hl]
  exact flat_at hf l q x hx r _ (List.getElem?_eq_getElem hl)
variable {w w' : World} {base e n c : Nat} {A : Option Addr} {l : List α}
/-- The block of a row, and what its elements are. -/
theorem own_blk (hf : ∀ x, (f x).length = sz) (h : w.ownsRow base e sz (.slice A n c) n (l.flatMap f)) (hn : 0 < n) :
    ∃ g cur, A = some ⟨g, 0, none⟩ ∧ base ≤ g ∧ Blk w g e cur ∧ cur.size = c * sz ∧ n ≤ c ∧ ∀ i x, l[i]? = some x → ∀ j v, (f x)[j]? = some v → cur[i * sz + j]? = some v := by
  rcases h.2 with ⟨_, h1⟩ | ⟨g, cap, cur, hv, hb, hk, hc, hm, hs, ht⟩
  · omega
  · injection hv with hA _ hcap
    subst hA
    subst hcap
    refine ⟨g, cur, rfl, hb, hk, hs, hc, fun i x hx j v hv => ?_⟩
    have h1 := flat_at hf l i x hx j v hv
    rw [← ht, List.getElem?_take] at h1
    split at h1
    · rwa [Array.getElem?_toList] at h1
    · cases h1
/-- An element written in place. -/
theorem own_put (hf : ∀ x, (f x).length = sz) (hs0 : 0 < sz) (h : w.ownsRow base e sz (.slice A n c) n (l.flatMap f)) (i : Nat) (hi : i < n) (x : α) {g : Nat} (hA : A = some ⟨g, 0, none⟩) {cur : Array Value} (hk : Blk w g e cur)
    (hk' : Blk w' g e (lay cur (i * sz) (f x))) : w'.ownsRow base e sz (.slice A n c) n ((l.set i x).flatMap f) := by
  have hl : l.length = n := by
    have h1 := h.1
    rw [flat_len hf] at h1
    exact Nat.eq_of_mul_eq_mul_right hs0 h1
  rcases h.2 with ⟨_, h1⟩ | ⟨g', cap, cur', hv, hb, hk0, hc, hm, hs, ht⟩
  · omega
  · injection hv with hA' _ hcap
    subst hcap
    rw [hA] at hA'
    injection hA' with hA'
    injection hA' with hg
    subst hg
    have hcur : cur' = cur := by
      unfold Blk at hk
      rw [hk] at hk0
      injection hk0 with h1
      injection h1 with h1
      exact h1.symm
    subst hcur
    have hfit : i * sz + (f x).length ≤ cur'.size := by
      rw [hf, hs]
      have : (i + 1) * sz ≤ c * sz := Nat.mul_le_mul_right _ (by omega)
      rw [Nat.succ_mul] at this
      exact this
    refine ⟨by rw [flat_len hf, List.length_set, hl], .inr ⟨g, c, _, by rw [hA], hb, hk', hc, hm, by rw [lay_size]; exact hs, ?_⟩⟩
    apply List.ext_getElem?
    intro j
    rw [List.getElem?_take]
    by_cases hj : j < n * sz
    · rw [if_pos hj, Array.getElem?_toList, lay_get _ _ _ _ hfit]
      have hq : j / sz < n := (Nat.div_lt_iff_lt_mul hs0).2 hj
      have hr : j % sz < sz := Nat.mod_lt _ hs0
      have hjd : j = (j / sz) * sz + j % sz := by rw [Nat.mul_comm]; exact (Nat.div_add_mod j sz).symm
      generalize j / sz = q at *
      generalize j % sz = r at *
      subst hjd
      have hy : l[q]? = some (l[q]'(by omega)) := List.getElem?_eq_getElem (by omega)
      have hold : cur'[q * sz + r]? = (l.flatMap f)[q * sz + r]? := by
        rw [← ht, List.getElem?_take, if_pos hj, Array.getElem?_toList]
      by_cases hqi : q = i
      · subst hqi
        rw [if_pos ⟨by omega, by rw [hf]; omega⟩, Nat.add_sub_cancel_left]
        rw [flat_get hf (l.set q x) q r x (List.getElem?_set_self (by omega)) hr]
      · rw [if_neg, hold, flat_get hf l q r _ hy hr, flat_get hf (l.set i x) q r _ (by rw [List.getElem?_set_ne (fun e => hqi e.symm)]; exact hy) hr]
        rw [hf]
        rintro ⟨h1, h2⟩
        rcases Nat.lt_or_ge q i with h3 | h3
        · have : (q + 1) * sz ≤ i * sz := Nat.mul_le_mul_right _ h3
          rw [Nat.succ_mul] at this
          omega
        · have : (i + 1) * sz ≤ q * sz := Nat.mul_le_mul_right _ (by omega)
          rw [Nat.succ_mul] at this
          omega
    · rw [if_neg hj, List.getElem?_eq_none (by rw [flat_len hf, List.length_set, hl]; omega)]
end

section
variable {P : Program} {ops : Array Oper} {rest : List Oper} {o : Oper} {a : Act} {Q : Exit → Act → World → Prop}
/-- One element appended, out of the literal's own block; the new row lies where the old one did, or is new. -/
theorem app_one_w {α : Type} {f : α → List Value} {w0 W : World} (base sz bytes : Nat) (hf : ∀ x, (f x).length = sz) (h1f : ∀ x, ∀ v ∈ f x, v.oneCell' = true) (z : Value) (hgd : o.guard = none) (s x : Operand) (t e : TypeId)
    (ho : o.op = .call { callee := .builtin .append, args := #[s, x], argTypes := #[t, t] })
    (ht : P.underlying t = some (.slice e)) (hinfo : (P.info? e).map (fun i => (i.zero, i.size, i.bytes)) = some (some z, sz, bytes)) (hzs : z.cells.size = sz) (hs0 : 0 < sz) (hb0 : 0 < bytes)
    (v : Value) (n : Nat) (xs : List α) (hs : a.eval s = v) (HO : W.ownsRow base e sz v n (xs.flatMap f))
    (y : α) (cs : Array Value) (hcs : cs.toList = f y) (N : Nat) (hN : N = W.heap.size) (hx : a.eval x = .slice (some ⟨N, 0, none⟩) 1 1)
    (hbytes : (n + 1) * bytes ≤ 140737488355328) (hbase : base ≤ W.heap.size)
    (h : ∀ A1 c1 w1, w1.ownsRow base e sz (.slice A1 (n + 1) c1) (n + 1) ((xs ++ [y]).flatMap f) → W.grownBy w1 v.ownBlock → W.heap.size ≤ w1.heap.size → (∀ a1, A1 = some a1 → v.ownBlock = some a1.block ∨ W.heap.size ≤ a1.block) → wpList P ops Q rest (a.put o.dst (.slice A1 (n + 1) c1)) w1) :
    wpList P ops Q (o :: rest) a (W.alloc (.cells cs e)) := by
  subst hN
  obtain ⟨i0, hi, hz0, hz1, hz2⟩ := info_parts hinfo
  have hlen : n + 1 ≤ 140737488355328 := Nat.le_trans (Nat.le_mul_of_pos_right _ hb0) hbytes
  have hW1 : (W.alloc (.cells cs e)).heap.size = W.heap.size + 1 := Array.size_push _
  refine wpList_append_own_at (W.alloc (.cells cs e)) hgd s x t ho base e i0 z sz bytes ht hi hz0 hz1 hz2 hzs hs0 v n (xs.flatMap f) hs (HO.alloc _) ⟨W.heap.size, 0, none⟩ 1 1 (f y) hx (by rw [hf, Nat.one_mul]) (by rw [← hcs]; exact row_news (heap_alloc_new _ _)) (h1f y) (by simp only [maxLen]; omega) hbytes (by omega) ?_
  intro v1 w1 h1 hg _ hat
  obtain ⟨A1, c1, rfl⟩ := own_slice h1
  refine h A1 c1 w1 (by rw [List.flatMap_append]; simpa using h1) (World.grownBy.trans (grown_of_below (bl_alloc (bl_refl W) _) _) hg) (by have := hg.size; omega) ?_
  rintro a1 rfl
  rcases hat with hat | hat
  · left; rw [← hat]; rfl
  · right
    have : a1.block = (W.alloc (.cells cs e)).heap.size := by injection hat
    omega
end
end Go.Proofs.Ytdokmnpkihmkpaa.Out
