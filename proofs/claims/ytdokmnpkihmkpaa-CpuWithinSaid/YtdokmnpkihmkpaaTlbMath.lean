/- Plain lists of entries: what laying, dropping and telling make of them. No program in sight. -/
import Derived.Test.YtdokmnpkihmkpaaMulti
set_option linter.unusedVariables false
namespace Go.Proofs.Ytdokmnpkihmkpaa.TlbMath
open Go.RowKit Go.Proofs.Ytdokmnpkihmkpaa.Base Go.Proofs.Ytdokmnpkihmkpaa.Row Go.Proofs.Ytdokmnpkihmkpaa.Multi

/-- An entry. -/
structure En where
  s : Int
  p : Int
  f : Int
  w : Bool
deriving DecidableEq
def ev (x : En) : List Value := [Value.int .i64 x.s, .int .i64 x.p, .int .i64 x.f, .bool x.w]
def ea (x : En) : Array Value := #[.int .i64 x.s, .int .i64 x.p, .int .i64 x.f, .bool x.w]
def ez : En := ⟨0, 0, 0, false⟩
theorem ev_len (x : En) : (ev x).length = 4 := rfl
theorem ev_one (x : En) : ∀ v ∈ ev x, v.oneCell' = true := by
  intro v hv
  simp [ev] at hv
  rcases hv with rfl | rfl | rfl | rfl <;> rfl
theorem ea_one (x : En) : ∀ v ∈ ea x, v.oneCell' = true := by
  intro v hv
  simp [ea] at hv
  rcases hv with rfl | rfl | rfl | rfl <;> rfl

def pg (s p : Int) (x : En) : Bool := x.s == s && x.p == p
/-- No two of one page; not too many. -/
def Uni (l : List En) : Prop := l.length ≤ 8 ∧ l.Pairwise (fun a b => ¬ (a.s = b.s ∧ a.p = b.p))
theorem uni_nil : Uni [] := ⟨by simp, List.Pairwise.nil⟩
theorem uni_filter {l : List En} (h : Uni l) (q : En → Bool) : Uni (l.filter q) := ⟨Nat.le_trans (List.length_filter_le _ _) h.1, h.2.filter _⟩
theorem erase_filter (s p : Int) : ∀ (l : List En), l.Pairwise (fun a b => ¬ (a.s = b.s ∧ a.p = b.p)) → l.eraseIdx (l.findIdx (pg s p)) = l.filter (fun x => !pg s p x)
  | [], _ => rfl
  | a :: r, h => by
    rw [List.pairwise_cons] at h
    rw [List.findIdx_cons]
    cases hp : pg s p a with
    | true =>
      simp only [cond_true, List.eraseIdx_cons_zero, List.filter_cons, hp, Bool.not_true]
      simp only [Bool.false_eq_true, if_false]
      symm
      rw [List.filter_eq_self]
      intro b hb
      have := h.1 b hb
      unfold pg at hp ⊢
      simp at hp this ⊢
      omega
    | false =>
      simp only [cond_false, List.eraseIdx_cons_succ, List.filter_cons, hp, Bool.not_false, if_true]
      rw [erase_filter s p r h.2]
def at_ (l : List En) (s p : Int) : Nat := l.findIdx (pg s p)
theorem at_le (l : List En) (s p : Int) : at_ l s p ≤ l.length := List.findIdx_le_length
theorem at_no {l : List En} {s p : Int} (j : Nat) (x : En) (hj : j < at_ l s p) (hx : l[j]? = some x) : pg s p x = false := by
  have h1 := List.not_of_lt_findIdx hj
  have hl : j < l.length := Nat.lt_of_lt_of_le hj (at_le l s p)
  rw [List.getElem?_eq_getElem hl] at hx
  injection hx with hx
  subst hx
  simpa using h1
theorem at_yes {l : List En} {s p : Int} (x : En) (hx : l[at_ l s p]? = some x) : pg s p x = true := by
  obtain ⟨hl, rfl⟩ := List.getElem?_eq_some_iff.1 hx
  exact List.findIdx_getElem (w := hl)
theorem filter_none {l : List En} {s p : Int} (h : at_ l s p = l.length) : l.filter (fun x => !pg s p x) = l := by
  rw [List.filter_eq_self]
  intro x hx
  obtain ⟨j, hj, rfl⟩ := List.mem_iff_getElem.1 hx
  have := at_no (s := s) (p := p) j l[j] (by rw [h]; exact hj) (List.getElem?_eq_getElem hj)
  simp [this]
theorem erase_at {l : List En} (h : Uni l) (s p : Int) : l.eraseIdx (at_ l s p) = l.filter (fun x => !pg s p x) := erase_filter s p l h.2

/-- Laid. -/
def cap8 (l : List En) : List En := if l.length = 8 then l.tail else l
def put (l : List En) (e : En) : List En := cap8 (l.filter (fun x => !pg e.s e.p x)) ++ [e]
theorem cap8_len {l : List En} (h : l.length ≤ 8) : (cap8 l).length ≤ 7 := by
  unfold cap8
  split
  · rw [List.length_tail]; omega
  · omega
theorem put_uni {l : List En} (h : Uni l) (e : En) : Uni (put l e) := by
  have h1 := uni_filter h (fun x => !pg e.s e.p x)
  refine ⟨by unfold put; rw [List.length_append]; have := cap8_len h1.1; simp; omega, ?_⟩
  unfold put
  rw [List.pairwise_append]
  have hsub : ∀ x ∈ cap8 (l.filter (fun x => !pg e.s e.p x)), x ∈ l.filter (fun x => !pg e.s e.p x) := by
    intro x hx
    unfold cap8 at hx
    split at hx
    · exact List.mem_of_mem_tail hx
    · exact hx
  refine ⟨?_, List.pairwise_singleton _ _, fun a ha b hb => ?_⟩
  · unfold cap8
    split
    · exact h1.2.sublist (List.tail_sublist _)
    · exact h1.2
  · obtain rfl : b = e := by simpa using hb
    have := (List.mem_filter.1 (hsub a ha)).2
    unfold pg at this
    simp at this
    omega
theorem put_len {l : List En} (h : Uni l) (e : En) : (put l e).length ≤ 8 := (put_uni h e).1

/-- Kinds of dropping: a frame, a space, a page. -/
def isK (k a b : Int) (x : En) : Bool := (k == 0 && x.f == a) || (k == 1 && x.s == a) || (k == 2 && (x.s == a && x.p == b))
def without (l : List En) (k a b : Int) : List En := l.filter (fun x => !isK k a b x)
theorem without_page (l : List En) (s p : Int) : without l 2 s p = l.filter (fun x => !pg s p x) := by
  unfold without isK pg
  congr 1
theorem without_uni {l : List En} (h : Uni l) (k a b : Int) : Uni (without l k a b) := uni_filter h _
theorem without_le (l : List En) (k a b : Int) : (without l k a b).length ≤ l.length := List.length_filter_le _ _

/-- What stands in memory: entries, noughts, how many, misses. -/
def pad (l : List En) : List En := l ++ List.replicate (8 - l.length) ez
theorem pad_len {l : List En} (h : l.length ≤ 8) : (pad l).length = 8 := by unfold pad; rw [List.length_append, List.length_replicate]; omega
def tc (l : List En) (m : Int) : Array Value := ((pad l).flatMap ev ++ [Value.int .i64 l.length, Value.int .i64 m]).toArray
theorem tc_size {l : List En} (h : l.length ≤ 8) (m : Int) : (tc l m).size = 34 := by
  unfold tc
  rw [List.size_toArray, List.length_append, flat_len ev_len, pad_len h]; rfl
theorem tc_n {l : List En} (h : l.length ≤ 8) (m : Int) : (tc l m)[32]? = some (.int .i64 l.length) := by
  unfold tc
  rw [List.getElem?_toArray, List.getElem?_append_right (by rw [flat_len ev_len, pad_len h]; omega), flat_len ev_len, pad_len h]; rfl
theorem tc_m {l : List En} (h : l.length ≤ 8) (m : Int) : (tc l m)[33]? = some (.int .i64 m) := by
  unfold tc
  rw [List.getElem?_toArray, List.getElem?_append_right (by rw [flat_len ev_len, pad_len h]; omega), flat_len ev_len, pad_len h]; rfl
theorem tc_at {l : List En} (m : Int) (i : Nat) (x : En) (hx : (pad l)[i]? = some x) : ∀ j v, (ev x)[j]? = some v → (tc l m)[i * 4 + j]? = some v := by
  intro j v hv
  have h1 := flat_at ev_len (pad l) i x hx j v hv
  unfold tc
  rw [List.getElem?_toArray, List.getElem?_append_left (List.getElem?_eq_some_iff.1 h1).1]
  exact h1
theorem pad_at {l : List En} {i : Nat} {x : En} (hx : l[i]? = some x) : (pad l)[i]? = some x := by
  unfold pad
  rw [List.getElem?_append_left (List.getElem?_eq_some_iff.1 hx).1]
  exact hx
/-- Cells of any eight entries. -/
def t8 (L : List En) (n m : Int) : Array Value := (L.flatMap ev ++ [Value.int .i64 n, Value.int .i64 m]).toArray
theorem tc_t8 (l : List En) (m : Int) : tc l m = t8 (pad l) l.length m := rfl
theorem t8_size {L : List En} (h : L.length = 8) (n m : Int) : (t8 L n m).size = 34 := by
  unfold t8
  rw [List.size_toArray, List.length_append, flat_len ev_len, h]; rfl
theorem t8_setn {L : List En} (h : L.length = 8) (n m k : Int) : (t8 L n m).setIfInBounds 32 (.int .i64 k) = t8 L k m := by
  apply Array.ext_getElem?
  intro i
  have hl : (L.flatMap ev).length = 32 := by rw [flat_len ev_len, h]
  unfold t8
  simp only [List.setIfInBounds_toArray, List.getElem?_toArray]
  rw [List.set_append_right _ _ (by omega), hl]
  simp
theorem t8_setm {L : List En} (h : L.length = 8) (n m k : Int) : (t8 L n m).setIfInBounds 33 (.int .i64 k) = t8 L n k := by
  apply Array.ext_getElem?
  intro i
  have hl : (L.flatMap ev).length = 32 := by rw [flat_len ev_len, h]
  unfold t8
  simp only [List.setIfInBounds_toArray, List.getElem?_toArray]
  rw [List.set_append_right _ _ (by omega), hl]
  simp
theorem t8_one (L : List En) (n m : Int) : ∀ v ∈ t8 L n m, v.oneCell' = true := by
  intro v hv
  unfold t8 at hv
  simp at hv
  rcases hv with ⟨x, _, hx⟩ | rfl | rfl
  · exact ev_one x v hx
  · rfl
  · rfl
theorem lay_any (cs vs : List Value) (o : Nat) (h : o + vs.length ≤ cs.length) : lay cs.toArray o vs = (cs.take o ++ (vs ++ cs.drop (o + vs.length))).toArray := by
  apply Array.ext_getElem?
  intro i
  rw [lay_get _ _ _ _ (by simpa using h)]
  rw [List.getElem?_toArray, List.getElem?_toArray]
  by_cases h1 : o ≤ i ∧ i < o + vs.length
  · rw [if_pos h1, List.getElem?_append_right (by rw [List.length_take]; omega), List.length_take, Nat.min_eq_left (by omega), List.getElem?_append_left (by omega)]
  · rw [if_neg h1]
    rcases Nat.lt_or_ge i o with h2 | h2
    · rw [List.getElem?_append_left (by rw [List.length_take]; omega), List.getElem?_take, if_pos h2]
    · rw [List.getElem?_append_right (by rw [List.length_take]; omega), List.length_take, Nat.min_eq_left (by omega), List.getElem?_append_right (by omega), List.getElem?_drop]
      congr 1; omega
theorem flat_take (l : List En) (i : Nat) : (l.take i).flatMap ev = (l.flatMap ev).take (i * 4) := by
  induction l generalizing i with
  | nil => simp
  | cons a r ih =>
    cases i with
    | zero => simp
    | succ i =>
      rw [List.take_succ_cons, List.flatMap_cons, List.flatMap_cons, ih, List.take_append, ev_len, show (i + 1) * 4 - 4 = i * 4 by omega]
      rw [List.take_of_length_le (l := ev a) (by rw [ev_len]; omega)]
theorem flat_drop (l : List En) (i : Nat) : (l.drop i).flatMap ev = (l.flatMap ev).drop (i * 4) := by
  induction l generalizing i with
  | nil => simp
  | cons a r ih =>
    cases i with
    | zero => simp
    | succ i =>
      rw [List.drop_succ_cons, ih, List.flatMap_cons, List.drop_append, ev_len, show (i + 1) * 4 - 4 = i * 4 by omega]
      rw [List.drop_eq_nil_of_le (as := ev a) (by rw [ev_len]; omega), List.nil_append]
/-- Entries laid over entries. -/
theorem t8_lay {L M : List En} (hL : L.length = 8) (o : Nat) (n m : Int) (h : o + M.length ≤ 8) : lay (t8 L n m) (o * 4) (M.flatMap ev) = t8 (L.take o ++ (M ++ L.drop (o + M.length))) n m := by
  unfold t8
  have hl : (L.flatMap ev).length = 32 := by rw [flat_len ev_len, hL]
  have hm : (M.flatMap ev).length = M.length * 4 := flat_len ev_len M
  rw [lay_any _ _ _ (by rw [List.length_append, hl, hm]; simp; omega)]
  congr 1
  rw [List.flatMap_append, List.flatMap_append, flat_take, flat_drop, List.take_append_of_le_length (by omega), List.drop_append_of_le_length (by omega), hm]
  rw [show o * 4 + M.length * 4 = (o + M.length) * 4 by omega]
  simp [List.append_assoc]
/-- An entry taken out. -/
theorem cut_pad {l : List En} (h : l.length ≤ 8) (i : Nat) (hi : i < l.length) :
    ((pad l).take i ++ (l.drop (i + 1) ++ (pad l).drop (i + (l.drop (i + 1)).length))).set (l.length - 1) ez = pad (l.eraseIdx i) := by
  apply List.ext_getElem?
  intro j
  have hpl := pad_len h
  have hdl : (l.drop (i + 1)).length = l.length - (i + 1) := List.length_drop
  have hel : (l.eraseIdx i).length = l.length - 1 := List.length_eraseIdx_of_lt hi
  rw [hdl, List.getElem?_set]
  have hlen : ((pad l).take i ++ (l.drop (i + 1) ++ (pad l).drop (i + (l.length - (i + 1))))).length = 8 := by
    rw [List.length_append, List.length_append, List.length_take, List.length_drop, List.length_drop, hpl]; omega
  unfold pad
  rw [hel]
  by_cases hj : l.length - 1 = j
  · rw [if_pos hj, if_pos (by unfold pad at hlen; rw [hlen]; omega)]
    rw [List.getElem?_append_right (by omega), hel, List.getElem?_replicate, if_pos (by omega)]
  · rw [if_neg hj]
    rcases Nat.lt_or_ge j i with h1 | h1
    · rw [List.getElem?_append_left (by rw [List.length_take, List.length_append, List.length_replicate]; omega), List.getElem?_take, if_pos h1, List.getElem?_append_left (by omega), List.getElem?_append_left (by omega), List.getElem?_eraseIdx, if_pos h1]
    · rw [List.getElem?_append_right (by rw [List.length_take, List.length_append, List.length_replicate]; omega), List.length_take, List.length_append, List.length_replicate, Nat.min_eq_left (by omega)]
      rcases Nat.lt_or_ge j (l.length - 1) with h2 | h2
      · rw [List.getElem?_append_left (by omega), List.getElem?_drop, List.getElem?_append_left (by omega), List.getElem?_eraseIdx, if_neg (by omega)]
        congr 1; omega
      · rw [List.getElem?_append_right (by omega), List.getElem?_drop, hdl, List.getElem?_append_right (by omega), List.getElem?_append_right (by omega), hel, List.getElem?_replicate, List.getElem?_replicate]
        by_cases h3 : j < 8
        · rw [if_pos (by omega), if_pos (by omega)]
        · rw [if_neg (by omega), if_neg (by omega)]
/-- An entry laid behind all. -/
theorem push_pad {l : List En} (h : l.length < 8) (e : En) : (pad l).set l.length e = pad (l ++ [e]) := by
  apply List.ext_getElem?
  intro j
  rw [List.getElem?_set]
  unfold pad
  rw [List.length_append, List.length_replicate, List.length_append, List.length_singleton]
  by_cases hj : l.length = j
  · rw [if_pos hj, if_pos (by omega), List.getElem?_append_left (by rw [List.length_append]; simp; omega), List.getElem?_append_right (by omega), hj]
    simp
  · rw [if_neg hj]
    rcases Nat.lt_or_ge j l.length with h1 | h1
    · rw [List.getElem?_append_left h1, List.getElem?_append_left (by rw [List.length_append]; omega), List.getElem?_append_left h1]
    · rw [List.getElem?_append_right h1, List.getElem?_append_right (by rw [List.length_append]; simp; omega), List.getElem?_replicate, List.getElem?_replicate, List.length_append, List.length_singleton]
      by_cases h3 : j < 8
      · rw [if_pos (by omega), if_pos (by omega)]
      · rw [if_neg (by omega), if_neg (by omega)]
theorem set_as_lay {L : List En} (i : Nat) (e : En) (hi : i < L.length) : L.take i ++ ([e] ++ L.drop (i + 1)) = L.set i e := by
  rw [List.set_eq_take_append_cons_drop, if_pos hi]; rfl

/-! ### dropping from behind -/
def keep (l : List En) (q : En → Bool) (i : Nat) : List En := l.take i ++ (l.drop i).filter (fun x => !q x)
theorem keep_all (l : List En) (q : En → Bool) : keep l q l.length = l := by simp [keep]
theorem keep_zero (l : List En) (q : En → Bool) : keep l q 0 = l.filter (fun x => !q x) := by simp [keep]
theorem keep_at {l : List En} {q : En → Bool} {i : Nat} {x : En} (hx : l[i]? = some x) : (keep l q (i + 1))[i]? = some x := by
  obtain ⟨hi, rfl⟩ := List.getElem?_eq_some_iff.1 hx
  unfold keep
  rw [List.getElem?_append_left (by rw [List.length_take]; omega), List.getElem?_take, if_pos (by omega), List.getElem?_eq_getElem hi]
theorem keep_yes {l : List En} {q : En → Bool} {i : Nat} {x : En} (hx : l[i]? = some x) (hq : q x = true) : (keep l q (i + 1)).eraseIdx i = keep l q i := by
  obtain ⟨hi, rfl⟩ := List.getElem?_eq_some_iff.1 hx
  unfold keep
  rw [List.take_succ_eq_append_getElem hi, List.append_assoc, List.eraseIdx_append_of_length_le (by rw [List.length_take]; omega), List.length_take, Nat.min_eq_left (by omega), Nat.sub_self]
  rw [List.drop_eq_getElem_cons hi, List.filter_cons, hq]
  rfl
theorem keep_no {l : List En} {q : En → Bool} {i : Nat} {x : En} (hx : l[i]? = some x) (hq : q x = false) : keep l q (i + 1) = keep l q i := by
  obtain ⟨hi, rfl⟩ := List.getElem?_eq_some_iff.1 hx
  unfold keep
  rw [List.take_succ_eq_append_getElem hi, List.append_assoc, List.drop_eq_getElem_cons hi, List.filter_cons, hq]
  rfl
theorem keep_le (l : List En) (q : En → Bool) (i : Nat) : (keep l q i).length ≤ l.length := by
  unfold keep
  have := List.length_filter_le (fun x => !q x) (l.drop i)
  rw [List.length_append, List.length_take]
  rw [List.length_drop] at this
  omega
theorem keep_gt {l : List En} {q : En → Bool} {i : Nat} (hi : i < l.length) : i < (keep l q (i + 1)).length := by
  unfold keep
  rw [List.length_append, List.length_take]; omega
theorem filter_len (l : List En) (q : En → Bool) : (l.filter q).length ≤ l.length := List.length_filter_le _ _
end Go.Proofs.Ytdokmnpkihmkpaa.TlbMath
