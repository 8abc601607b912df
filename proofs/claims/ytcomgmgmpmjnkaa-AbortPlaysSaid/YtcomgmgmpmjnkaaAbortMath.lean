/- Plain lists of wants: what asking, turning and telling make of them. No program in sight. -/
import Derived.Test.YtcomgmgmpmjnkaaMulti
set_option linter.unusedVariables false
namespace Go.Proofs.Ytcomgmgmpmjnkaa.AbortMath

/-- A want. -/
structure Wt where
  e : Int
  k : Int
  n : Int
  l : Int
deriving DecidableEq
def wv (x : Wt) : List Value := [.int .i64 x.e, .int .i64 x.k, .int .i64 x.n, .int .i64 x.l]
def wa (x : Wt) : Array Value := #[.int .i64 x.e, .int .i64 x.k, .int .i64 x.n, .int .i64 x.l]
theorem wv_len (x : Wt) : (wv x).length = 4 := rfl
theorem wv_one (x : Wt) : ∀ v ∈ wv x, v.oneCell' = true := by
  intro v hv
  simp [wv] at hv
  rcases hv with rfl | rfl | rfl | rfl <;> rfl
theorem wa_one (x : Wt) : ∀ v ∈ wa x, v.oneCell' = true := by
  intro v hv
  simp [wa] at hv
  rcases hv with rfl | rfl | rfl | rfl <;> rfl
theorem wa_list (x : Wt) : (wa x).toList = wv x := rfl

def may (x : Wt) : Bool := decide (0 ≤ x.e ∧ x.e < 16 ∧ 0 ≤ x.k ∧ x.k < 4 ∧ 0 ≤ x.n ∧ x.n < 512 ∧ 1 ≤ x.l ∧ x.l ≤ 100)
def hit (e k n : Int) (x : Wt) : Bool := x.e == e && x.k == k && x.n == n
def has (l : List Wt) (e k n : Int) : Bool := l.any (hit e k n)
/-- The first want of a name, or the length. -/
def at_ (l : List Wt) (e k n : Int) : Nat := l.findIdx (hit e k n)
theorem at_le (l : List Wt) (e k n : Int) : at_ l e k n ≤ l.length := List.findIdx_le_length
theorem at_no {l : List Wt} {e k n : Int} (j : Nat) (x : Wt) (hj : j < at_ l e k n) (hx : l[j]? = some x) : hit e k n x = false := by
  have h1 := List.not_of_lt_findIdx hj
  have hl : j < l.length := Nat.lt_of_lt_of_le hj (at_le l e k n)
  rw [List.getElem?_eq_getElem hl] at hx
  injection hx with hx
  subst hx
  simpa using h1
theorem at_yes {l : List Wt} {e k n : Int} (x : Wt) (hx : l[at_ l e k n]? = some x) : hit e k n x = true := by
  obtain ⟨hl, rfl⟩ := List.getElem?_eq_some_iff.1 hx
  exact List.findIdx_getElem (w := hl)
theorem at_has (l : List Wt) (e k n : Int) : has l e k n = decide (at_ l e k n < l.length) := by
  rw [Bool.eq_iff_iff, decide_eq_true_eq]
  unfold has at_
  rw [List.any_eq_true, List.findIdx_lt_length]

def pask (l : List Wt) (x : Wt) : Int × List Wt :=
  if may x then (if has l x.e x.k x.n then (4, l) else if l.length = 64 then (7, l) else (0, l ++ [x])) else (1, l)
def dec (x : Wt) : Wt := { x with l := x.l - 1 }
def outs (l : List Wt) : List Wt := (l.filter (fun x => !(x.l == 1))).map dec
def dues (l : List Wt) : List Wt := (l.filter (fun x => x.l == 1)).map dec

theorem outs_succ {l : List Wt} {k : Nat} {x : Wt} (hx : l[k]? = some x) : outs (l.take (k + 1)) = outs (l.take k) ++ (if x.l = 1 then [] else [dec x]) := by
  obtain ⟨hl, rfl⟩ := List.getElem?_eq_some_iff.1 hx
  unfold outs
  rw [List.take_succ_eq_append_getElem hl, List.filter_append, List.map_append]
  by_cases h : l[k].l = 1 <;> simp [h]
theorem dues_succ {l : List Wt} {k : Nat} {x : Wt} (hx : l[k]? = some x) : dues (l.take (k + 1)) = dues (l.take k) ++ (if x.l = 1 then [dec x] else []) := by
  obtain ⟨hl, rfl⟩ := List.getElem?_eq_some_iff.1 hx
  unfold dues
  rw [List.take_succ_eq_append_getElem hl, List.filter_append, List.map_append]
  by_cases h : l[k].l = 1 <;> simp [h]
theorem outs_le (l : List Wt) (k : Nat) : (outs (l.take k)).length ≤ k := by
  unfold outs
  rw [List.length_map]
  exact Nat.le_trans (List.length_filter_le _ _) (by rw [List.length_take]; omega)
theorem dues_le (l : List Wt) (k : Nat) : (dues (l.take k)).length ≤ k := by
  unfold dues
  rw [List.length_map]
  exact Nat.le_trans (List.length_filter_le _ _) (by rw [List.length_take]; omega)

/-- All may be, and there are not too many. -/
def Fit (l : List Wt) : Prop := l.length ≤ 64 ∧ ∀ x ∈ l, may x = true
theorem fit_nil : Fit [] := ⟨by simp, by simp⟩
theorem may_l {x : Wt} (h : may x = true) : 0 ≤ x.e ∧ x.e < 16 ∧ 0 ≤ x.k ∧ x.k < 4 ∧ 0 ≤ x.n ∧ x.n < 512 ∧ 1 ≤ x.l ∧ x.l ≤ 100 := by
  unfold may at h
  rwa [decide_eq_true_eq] at h
theorem ask_fit {l : List Wt} (h : Fit l) (x : Wt) : Fit (pask l x).2 := by
  unfold pask
  split
  · split
    · exact h
    · split
      · exact h
      · have := h.1
        refine ⟨by simp; omega, fun y hy => ?_⟩
        rcases List.mem_append.1 hy with hy | hy
        · exact h.2 y hy
        · obtain rfl : y = x := by simpa using hy
          assumption
  · exact h
theorem ask_e (l : List Wt) (x : Wt) : (pask l x).1 = 0 ∨ (pask l x).1 = 1 ∨ (pask l x).1 = 4 ∨ (pask l x).1 = 7 := by
  unfold pask
  split
  · split
    · simp
    · split <;> simp
  · simp
theorem ask_ok {l : List Wt} {x : Wt} (h : (pask l x).1 = 0) : (pask l x).2 = l ++ [x] ∧ has l x.e x.k x.n = false ∧ may x = true := by
  unfold pask at h ⊢
  split at h
  · rename_i h1
    split at h
    · simp at h
    · rename_i h2
      split at h
      · simp at h
      · rename_i h3
        rw [if_pos h1, if_neg h2, if_neg h3]
        exact ⟨rfl, by simpa using h2, h1⟩
  · simp at h
theorem outs_fit {l : List Wt} (h : Fit l) : Fit (outs l) := by
  have h1 := h.1
  refine ⟨by unfold outs; rw [List.length_map]; exact Nat.le_trans (List.length_filter_le _ _) h1, fun y hy => ?_⟩
  unfold outs at hy
  obtain ⟨x, hx, rfl⟩ := List.mem_map.1 hy
  obtain ⟨hx1, hx2⟩ := List.mem_filter.1 hx
  obtain ⟨a1, a2, a3, a4, a5, a6, a7, a8⟩ := may_l (h.2 x hx1)
  have : ¬ x.l = 1 := by simpa using hx2
  unfold may dec
  rw [decide_eq_true_eq]
  refine ⟨a1, a2, a3, a4, a5, a6, ?_, ?_⟩ <;> simp <;> omega

/-! ### the wants of one name -/
def own (e k n : Int) (l : List Wt) : List Wt := l.filter (hit e k n)
theorem own_none {e k n : Int} {l : List Wt} (h : has l e k n = false) : own e k n l = [] := by
  unfold own
  rw [List.filter_eq_nil_iff]
  unfold has at h
  simpa using h
theorem hit_dec (e k n : Int) (x : Wt) : hit e k n (dec x) = hit e k n x := rfl
theorem own_outs (e k n : Int) (l : List Wt) : own e k n (outs l) = outs (own e k n l) := by
  unfold own outs
  rw [List.filter_map, List.filter_filter, List.filter_filter]
  congr 1
  apply List.filter_congr
  intro x _
  show (hit e k n (dec x) && _) = _
  rw [hit_dec, Bool.and_comm]
theorem own_dues (e k n : Int) (l : List Wt) : own e k n (dues l) = dues (own e k n l) := by
  unfold own dues
  rw [List.filter_map, List.filter_filter, List.filter_filter]
  congr 1
  apply List.filter_congr
  intro x _
  show (hit e k n (dec x) && _) = _
  rw [hit_dec, Bool.and_comm]
/-- How many of a name there are among the first j. -/
def cnt (e k n : Int) (l : List Wt) (j : Nat) : Nat := (own e k n (l.take j)).length
theorem cnt_zero (e k n : Int) (l : List Wt) : cnt e k n l 0 = 0 := by simp [cnt, own]
theorem cnt_succ {e k n : Int} {l : List Wt} {j : Nat} {x : Wt} (hx : l[j]? = some x) : cnt e k n l (j + 1) = cnt e k n l j + (if hit e k n x then 1 else 0) := by
  obtain ⟨hl, rfl⟩ := List.getElem?_eq_some_iff.1 hx
  unfold cnt own
  rw [List.take_succ_eq_append_getElem hl, List.filter_append, List.length_append]
  cases h : hit e k n l[j] <;> simp [h]
theorem cnt_le (e k n : Int) (l : List Wt) (j : Nat) : cnt e k n l j ≤ j := by
  unfold cnt own
  exact Nat.le_trans (List.length_filter_le _ _) (by rw [List.length_take]; omega)
theorem cnt_all (e k n : Int) (l : List Wt) : cnt e k n l l.length = (own e k n l).length := by rw [cnt, List.take_length]

/-- What stands of the want behind i turns. -/
def Stands (x : Wt) (i : Nat) (l : List Wt) : Prop := own x.e x.k x.n l = if (i : Int) < x.l then [{ x with l := x.l - i }] else []
theorem hit_self (x : Wt) (i : Int) : hit x.e x.k x.n { x with l := i } = true := by simp [hit]
theorem stands_zero {l : List Wt} {x : Wt} (h : (pask l x).1 = 0) : Stands x 0 (pask l x).2 := by
  obtain ⟨h1, h2, h3⟩ := ask_ok h
  have := (may_l h3)
  have hl : ((0 : Nat) : Int) < x.l := by simp; omega
  unfold Stands
  rw [h1, if_pos hl]
  unfold own
  rw [List.filter_append]
  have := own_none h2
  unfold own at this
  rw [this]
  have hs : hit x.e x.k x.n x = true := by simp [hit]
  simp [hs]
theorem stands_succ {x : Wt} {i : Nat} {l : List Wt} (h : Stands x i l) : Stands x (i + 1) (outs l) ∧ (own x.e x.k x.n (dues l)).length = if (i : Int) + 1 = x.l then 1 else 0 := by
  unfold Stands at h ⊢
  rw [own_outs, own_dues, h]
  by_cases h1 : (i : Int) < x.l
  · rw [if_pos h1]
    by_cases h2 : (i : Int) + 1 = x.l
    · have e1 : (x.l - (i : Int) == 1) = true := by simp; omega
      rw [if_neg (by simp; omega), if_pos h2]
      simp [outs, dues, e1]
    · have e1 : (x.l - (i : Int) == 1) = false := by simp; omega
      rw [if_pos (by simp; omega), if_neg h2]
      simp [outs, dues, e1, dec]
      omega
  · rw [if_neg h1, if_neg (by simp; omega), if_neg (by omega)]
    simp [outs, dues]

/-! ### the wants of AbortMost -/
def mk (i : Nat) : Wt := ⟨(i % 16 : Nat), 0, i, 5⟩
def mks (m : Nat) : List Wt := (List.range m).map mk
theorem mks_len (m : Nat) : (mks m).length = m := by simp [mks]
theorem mk_may (i : Nat) (h : i < 512) : may (mk i) = true := by
  unfold may mk
  rw [decide_eq_true_eq]
  refine ⟨?_, ?_, ?_, ?_, ?_, ?_, ?_, ?_⟩ <;> simp <;> omega
theorem mks_has (m i : Nat) (h : m ≤ i) : has (mks m) (mk i).e (mk i).k (mk i).n = false := by
  unfold has
  rw [Bool.eq_false_iff]
  intro hh
  obtain ⟨x, hx, hx2⟩ := List.any_eq_true.1 hh
  unfold mks at hx
  obtain ⟨j, hj, rfl⟩ := List.mem_map.1 hx
  rw [List.mem_range] at hj
  simp [hit, mk] at hx2
  omega
theorem mks_ask (m i : Nat) (hm : m = min i 64) (hi : i < 127) : pask (mks m) (mk i) = (if i < 64 then 0 else 7, mks (min (i + 1) 64)) := by
  unfold pask
  rw [if_pos (mk_may i (by omega)), if_neg (by rw [mks_has m i (by omega)]; simp), mks_len]
  by_cases h : i < 64
  · rw [if_neg (by omega), if_pos h, hm, show min i 64 = i by omega, show min (i + 1) 64 = i + 1 by omega]
    congr 1
    unfold mks
    rw [List.range_succ, List.map_append]; rfl
  · rw [if_pos (by omega), if_neg h, hm, show min i 64 = 64 by omega, show min (i + 1) 64 = 64 by omega]
end Go.Proofs.Ytcomgmgmpmjnkaa.AbortMath
