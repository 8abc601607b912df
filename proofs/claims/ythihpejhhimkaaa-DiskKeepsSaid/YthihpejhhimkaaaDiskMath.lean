/- Plain disks: blocks that last, writes that wait. No program in sight. -/
import Derived.Test.YthihpejhhimkaaaMulti
set_option linter.unusedVariables false
namespace Go.Proofs.Ythihpejhhimkaaa.DiskMath
open Go.RowKit Go.Proofs.Ythihpejhhimkaaa.Base Go.Proofs.Ythihpejhhimkaaa.Row Go.Proofs.Ythihpejhhimkaaa.Multi

/-- What a block holds. -/
structure Bk where
  l : List Int
  h : l.length = 64
theorem Bk.ext' {a b : Bk} (h : a.l = b.l) : a = b := by cases a; cases b; cases h; rfl
instance : DecidableEq Bk := fun a b => if h : a.l = b.l then isTrue (Bk.ext' h) else isFalse (fun e => h (by rw [e]))
def zb : Bk := ⟨List.replicate 64 0, List.length_replicate⟩
def bv (b : Bk) : List Value := nums .u8 b.l
def bc (b : Bk) : Array Value := (bv b).toArray
theorem bv_len (b : Bk) : (bv b).length = 64 := by rw [bv, nums_length, b.h]
theorem bv_one (b : Bk) : ∀ v ∈ bv b, v.oneCell' = true := nums_one _ _
theorem bc_one (b : Bk) : ∀ v ∈ bc b, v.oneCell' = true := by
  intro v hv
  exact bv_one b v (by simpa [bc] using hv)
theorem bc_size (b : Bk) : (bc b).size = 64 := by rw [bc, List.size_toArray, bv_len]
theorem bc_list (b : Bk) : (bc b).toList = bv b := by simp [bc]
/-- A write. -/
structure Wr where
  b : Nat
  d : Bk
def wv (x : Wr) : List Value := .int .i64 x.b :: bv x.d
def wc (x : Wr) : Array Value := (wv x).toArray
theorem wv_len (x : Wr) : (wv x).length = 65 := by rw [wv, List.length_cons, bv_len]
theorem wv_one (x : Wr) : ∀ v ∈ wv x, v.oneCell' = true := by
  intro v hv
  rw [wv, List.mem_cons] at hv
  rcases hv with rfl | hv
  · rfl
  · exact bv_one _ v hv
theorem wc_size (x : Wr) : (wc x).size = 65 := by rw [wc, List.size_toArray, wv_len]
theorem wc_one (x : Wr) : ∀ v ∈ wc x, v.oneCell' = true := by
  intro v hv
  exact wv_one x v (by simpa [wc] using hv)

/-! ### reading -/
def at_ (L : List Bk) (b : Nat) : Bk := L[b]?.getD zb
/-- What the first k waiting writes make of a block, the last one standing. -/
def over (W : List Wr) (b : Nat) (o : Bk) : Nat → Bk
  | 0 => o
  | k + 1 => match W[k]? with
    | some x => if x.b = b then x.d else over W b o k
    | none => over W b o k
theorem over_yes {W : List Wr} {b : Nat} {o : Bk} {k : Nat} {x : Wr} (hx : W[k]? = some x) (h : x.b = b) : over W b o (k + 1) = x.d := by simp [over, hx, h]
theorem over_no {W : List Wr} {b : Nat} {o : Bk} {k : Nat} {x : Wr} (hx : W[k]? = some x) (h : ¬ x.b = b) : over W b o (k + 1) = over W b o k := by simp [over, hx, h]
def read (L : List Bk) (W : List Wr) (b : Nat) : Bk := over W b (at_ L b) W.length

/-! ### landing -/
def land (W : List Wr) (keep : Nat → Bool) (L : List Bk) : Nat → List Bk
  | 0 => L
  | k + 1 => match W[k]? with
    | some x => if keep k then (land W keep L k).set x.b x.d else land W keep L k
    | none => land W keep L k
theorem land_yes {W : List Wr} {keep : Nat → Bool} {L : List Bk} {k : Nat} {x : Wr} (hx : W[k]? = some x) (h : keep k = true) : land W keep L (k + 1) = (land W keep L k).set x.b x.d := by simp [land, hx, h]
theorem land_no {W : List Wr} {keep : Nat → Bool} {L : List Bk} {k : Nat} {x : Wr} (hx : W[k]? = some x) (h : keep k = false) : land W keep L (k + 1) = land W keep L k := by simp [land, hx, h]
theorem land_len (W : List Wr) (keep : Nat → Bool) (L : List Bk) : ∀ k, (land W keep L k).length = L.length
  | 0 => rfl
  | k + 1 => by
    unfold land
    split
    · split
      · rw [List.length_set, land_len W keep L k]
      · exact land_len W keep L k
    · exact land_len W keep L k
def count (keep : Nat → Bool) : Nat → Nat
  | 0 => 0
  | k + 1 => if keep k then count keep k + 1 else count keep k
theorem count_yes {keep : Nat → Bool} {k : Nat} (h : keep k = true) : count keep (k + 1) = count keep k + 1 := by simp [count, h]
theorem count_no {keep : Nat → Bool} {k : Nat} (h : keep k = false) : count keep (k + 1) = count keep k := by simp [count, h]
theorem count_le (keep : Nat → Bool) : ∀ k, count keep k ≤ k
  | 0 => Nat.le_refl _
  | k + 1 => by
    unfold count
    have := count_le keep k
    split <;> omega
/-- What waits on, of the first k. -/
def rest (W : List Wr) (keep : Nat → Bool) : Nat → List Wr
  | 0 => []
  | k + 1 => match W[k]? with
    | some x => if keep k then rest W keep k else rest W keep k ++ [x]
    | none => rest W keep k
theorem rest_yes {W : List Wr} {keep : Nat → Bool} {k : Nat} {x : Wr} (hx : W[k]? = some x) (h : keep k = true) : rest W keep (k + 1) = rest W keep k := by simp [rest, hx, h]
theorem rest_no {W : List Wr} {keep : Nat → Bool} {k : Nat} {x : Wr} (hx : W[k]? = some x) (h : keep k = false) : rest W keep (k + 1) = rest W keep k ++ [x] := by simp [rest, hx, h]
theorem rest_count {W : List Wr} {keep : Nat → Bool} : ∀ k, k ≤ W.length → (rest W keep k).length + count keep k = k
  | 0, _ => rfl
  | k + 1, h => by
    have ih := rest_count (W := W) (keep := keep) k (by omega)
    have hx : W[k]? = some W[k] := List.getElem?_eq_getElem (by omega)
    cases hk : keep k with
    | true => rw [rest_yes hx hk, count_yes hk]; omega
    | false => rw [rest_no hx hk, count_no hk, List.length_append, List.length_singleton]; omega
theorem rest_mem {W : List Wr} {keep : Nat → Bool} : ∀ k, ∀ x ∈ rest W keep k, x ∈ W
  | 0, x, h => by simp [rest] at h
  | k + 1, x, h => by
    unfold rest at h
    split at h
    · rename_i y hy
      split at h
      · exact rest_mem k x h
      · rcases List.mem_append.1 h with h | h
        · exact rest_mem k x h
        · obtain rfl : x = y := by simpa using h
          exact List.mem_of_getElem? hy
    · exact rest_mem k x h

/-- Writes of blocks that there are. -/
def Ok (L : List Bk) (W : List Wr) : Prop := ∀ x ∈ W, x.b < L.length
theorem ok_nil (L : List Bk) : Ok L [] := by simp [Ok]
theorem Ok.push {L : List Bk} {W : List Wr} (h : Ok L W) {b : Nat} (hb : b < L.length) (d : Bk) : Ok L (W ++ [⟨b, d⟩]) := by
  intro x hx
  rcases List.mem_append.1 hx with hx | hx
  · exact h x hx
  · obtain rfl : x = ⟨b, d⟩ := by simpa using hx
    exact hb
theorem Ok.at {L : List Bk} {W : List Wr} (h : Ok L W) {k : Nat} {x : Wr} (hx : W[k]? = some x) : x.b < L.length := h x (List.mem_of_getElem? hx)
theorem Ok.land {L : List Bk} {W W' : List Wr} (h : Ok L W') (keep : Nat → Bool) (k : Nat) : Ok (land W keep L k) W' := fun x hx => by rw [land_len]; exact h x hx
theorem Ok.rest {L : List Bk} {W : List Wr} (h : Ok L W) (keep : Nat → Bool) (k : Nat) : Ok L (rest W keep k) := fun x hx => h x (rest_mem k x hx)

/-- A block behind a landing: as it was, or as a write of it. -/
theorem land_at {W : List Wr} {keep : Nat → Bool} {L : List Bk} (b : Nat) : ∀ k, at_ (land W keep L k) b = at_ L b ∨ ∃ j x, j < k ∧ W[j]? = some x ∧ x.b = b ∧ at_ (land W keep L k) b = x.d
  | 0 => .inl rfl
  | k + 1 => by
    have ih := land_at (W := W) (keep := keep) (L := L) b k
    have up : (at_ (land W keep L k) b = at_ L b ∨ ∃ j x, j < k ∧ W[j]? = some x ∧ x.b = b ∧ at_ (land W keep L k) b = x.d) → (at_ (land W keep L k) b = at_ L b ∨ ∃ j x, j < k + 1 ∧ W[j]? = some x ∧ x.b = b ∧ at_ (land W keep L k) b = x.d) := by
      rintro (h | ⟨j, x, h1, h2, h3, h4⟩)
      · exact .inl h
      · exact .inr ⟨j, x, by omega, h2, h3, h4⟩
    cases hx : W[k]? with
    | none =>
      have e : land W keep L (k + 1) = land W keep L k := by simp [land, hx]
      rw [e]
      exact up ih
    | some x =>
      cases hk : keep k with
      | false =>
        rw [land_no hx hk]
        exact up ih
      | true =>
        rw [land_yes hx hk]
        by_cases hb : x.b = b
        · by_cases hl : x.b < (land W keep L k).length
          · refine .inr ⟨k, x, by omega, hx, hb, ?_⟩
            unfold at_
            rw [← hb, List.getElem?_set_self hl]; rfl
          · rw [List.set_eq_of_length_le (by omega)]
            exact up ih
        · have e : at_ ((land W keep L k).set x.b x.d) b = at_ (land W keep L k) b := by
            unfold at_
            rw [List.getElem?_set_ne hb]
          rw [e]
          exact up ih
end Go.Proofs.Ythihpejhhimkaaa.DiskMath
