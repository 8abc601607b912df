/- Arguments of flat types (structs and arrays of numbers and bools, slices of such), opened to their cells. No program in sight. -/
import Derived.WalkKit
import Derived.ChangeArms
import Derived.OpenShut
import Derived.Deep.Slices
import Derived.Deep.Fields
import Derived.WideShapes
set_option linter.unusedVariables false
namespace Go.Proofs.Ytdokmnpkihmkpaa.Flat
open Go.RowKit Go.ChangeShapes Go.WideShapes Go.Deep

def isI (k : IntKind) (v : Value) : Prop := ∃ n, v = .int k n ∧ (Lit.int k n).wf = true
def isB (v : Value) : Prop := ∃ b, v = .bool b
/-- A type whose values are just so many cells, each of its kind. -/
def FlatOf (P : Program) (t : TypeId) (ps : List (Value → Prop)) : Prop :=
  P.cellsOf t = ps.length ∧ ∀ {H : Type} (enc : TypeId × Value → H) (w : World) (base : Nat) (spare : Nat → Bool) (held : Bool) (fuel : Nat) (cs : List Value) (x : DataW H × List MemPlace),
    DataW.trod enc P w base spare held fuel t cs = some x → cs.length = ps.length ∧ ∀ (i : Nat) (p : Value → Prop), ps[i]? = some p → ∃ v, cs[i]? = some v ∧ p v

theorem flatten_get {α : Type} : ∀ (pss : List (List α)) (i : Nat) (p : α), pss.flatten[i]? = some p → ∃ j ps i', pss[j]? = some ps ∧ ps[i']? = some p ∧ i = (pss.take j).flatten.length + i'
  | [], i, p, h => by simp at h
  | ps :: r, i, p, h => by
    rw [List.flatten_cons] at h
    rcases Nat.lt_or_ge i ps.length with hi | hi
    · rw [List.getElem?_append_left hi] at h
      exact ⟨0, ps, i, rfl, h, by simp⟩
    · rw [List.getElem?_append_right hi] at h
      obtain ⟨j, qs, i', h1, h2, h3⟩ := flatten_get r _ p h
      exact ⟨j + 1, qs, i', by simpa using h1, h2, by rw [List.take_succ_cons, List.flatten_cons, List.length_append]; omega⟩
theorem rep_len {α : Type} (ps : List α) : ∀ n : Nat, (List.replicate n ps).flatten.length = n * ps.length
  | 0 => by simp
  | n + 1 => by rw [List.replicate_succ, List.flatten_cons, List.length_append, rep_len ps n, Nat.succ_mul]; omega
theorem take_one_get {cs : List Value} {o n i : Nat} {v : Value} (h : ((cs.drop o).take n)[i]? = some v) : cs[o + i]? = some v := by
  rw [List.getElem?_take] at h
  split at h
  · rwa [List.getElem?_drop] at h
  · cases h

section
variable {P : Program} {t : TypeId}
theorem flat_int {k : IntKind} (ht : P.underlying t = some (.int k)) (hc : P.cellsOf t = 1) : FlatOf P t [isI k] := ⟨hc, fun enc w base spare held fuel cs x h => by
  obtain ⟨n, rfl, _, hw⟩ := DataW.trod_int ht h
  refine ⟨rfl, fun i p hp => ?_⟩
  cases i with
  | zero =>
    simp at hp
    subst hp
    exact ⟨_, rfl, n, rfl, hw⟩
  | succ i => simp at hp⟩
theorem flat_bool (ht : P.underlying t = some .bool) (hc : P.cellsOf t = 1) : FlatOf P t [isB] := ⟨hc, fun enc w base spare held fuel cs x h => by
  obtain ⟨b, rfl, _⟩ := DataW.trod_bool ht h
  refine ⟨rfl, fun i p hp => ?_⟩
  cases i with
  | zero =>
    simp at hp
    subst hp
    exact ⟨_, rfl, b, rfl⟩
  | succ i => simp at hp⟩
theorem flat_struct {fs : Array Field} (ht : P.underlying t = some (.struct fs)) (pss : List (List (Value → Prop))) (hc : P.cellsOf t = pss.flatten.length)
    (hf : ∀ j ps, pss[j]? = some ps → ∃ f, fs[j]? = some f ∧ f.offset = (pss.take j).flatten.length ∧ FlatOf P f.type ps) : FlatOf P t pss.flatten := ⟨hc, fun enc w base spare held fuel cs x h => by
  obtain ⟨xs, n, _, _, hl, hxl, hg⟩ := DataW.trod_struct ht h
  refine ⟨hl.trans hc, fun i p hp => ?_⟩
  obtain ⟨j, ps, i', h1, h2, h3⟩ := flatten_get pss i p hp
  obtain ⟨f, hfj, hfo, hff⟩ := hf j ps h1
  have hx := hg j f hfj
  have hjl : j < xs.length := by rw [hxl]; exact (Array.getElem?_eq_some_iff.1 hfj).1
  rw [List.getElem?_eq_getElem hjl] at hx
  obtain ⟨v, hv, hpv⟩ := (hff.2 enc w base spare held n _ _ hx).2 i' p h2
  refine ⟨v, ?_, hpv⟩
  rw [h3, ← hfo]
  exact take_one_get hv⟩
theorem flat_array {n : Nat} {e : TypeId} (ht : P.underlying t = some (.array n e)) {ps : List (Value → Prop)} (he : FlatOf P e ps) (hc : P.cellsOf t = (List.replicate n ps).flatten.length) : FlatOf P t (List.replicate n ps).flatten := ⟨hc, fun enc w base spare held fuel cs x h => by
  obtain ⟨xs, m, _, _, hl, hxl, hg⟩ := DataW.trod_array ht h
  refine ⟨hl.trans hc, fun i p hp => ?_⟩
  obtain ⟨j, ps', i', h1, h2, h3⟩ := flatten_get _ i p hp
  have hj : j < n := by
    rcases Nat.lt_or_ge j n with hj | hj
    · exact hj
    · rw [List.getElem?_eq_none (by simpa using hj)] at h1; cases h1
  rw [List.getElem?_replicate, if_pos hj] at h1
  injection h1 with h1
  subst h1
  have hx := hg j hj
  rw [List.getElem?_eq_getElem (by omega)] at hx
  obtain ⟨v, hv, hpv⟩ := (he.2 enc w base spare held m _ _ hx).2 i' p h2
  refine ⟨v, ?_, hpv⟩
  rw [h3, List.take_replicate, rep_len, Nat.min_eq_left (by omega), ← he.1]
  exact take_one_get hv⟩
end

section
variable {H : Type} {enc : TypeId × Value → H} {P : Program} {w : World} {base b0 : Nat} {spare : Nat → Bool} {held : Bool} {t : TypeId} {v : Value} {d : DataW H} {p : List MemPlace} {r : Reach}
/-- A flat argument by value. -/
theorem open_flat {ps : List (Value → Prop)} (hp : FlatOf P t ps) {cs : Array Value} (hv : v = .agg cs) (h : DataW.Trod enc P w base spare held t v d p) :
    cs.size = ps.length ∧ ∀ (i : Nat) q, ps[i]? = some q → ∃ u, cs[i]? = some u ∧ q u := by
  obtain ⟨fuel, hf⟩ := h
  subst hv
  obtain ⟨h1, h2⟩ := hp.2 enc w base spare held fuel _ _ hf
  refine ⟨by simpa [Value.cells] using h1, fun i q hq => ?_⟩
  obtain ⟨u, hu, hq⟩ := h2 i q hq
  exact ⟨u, by simpa [Value.cells] using hu, hq⟩
/-- What a slice of flat elements is. -/
def FlatRow (w : World) (ps : List (Value → Prop)) (A : Option Addr) (n c : Nat) : Prop :=
  (A = none ∧ n = 0 ∧ c = 0) ∨ ∃ a, A = some a ∧ n ≤ c ∧ c ≤ maxLen ∧ ∀ i, i < n → ∀ j q, ps[j]? = some q → ∃ u, w.cell? (a.add (i * ps.length + j)) = some u ∧ q u
theorem open_flat_slice {e : TypeId} (ht : P.underlying t = some (.slice e)) {ps : List (Value → Prop)} (hp : FlatOf P e ps) (hv : Value.okWide P w r b0 t v) (h : DataW.Trod enc P w base spare held t v d p) :
    ∃ A n c, v = .slice A n c ∧ FlatRow w ps A n c := by
  obtain ⟨A, n, c, rfl⟩ := okWide_slice ht hv
  obtain ⟨fuel, hf⟩ := h
  refine ⟨A, n, c, rfl, ?_⟩
  rcases open_slice ht hf with ⟨hcs, _⟩ | ⟨a, len, cap, m, n', D, Pl, hcs, _, hl, hm, hmm, _, hi⟩
  · simp [Value.cells] at hcs
    exact .inl hcs
  · simp [Value.cells] at hcs
    obtain ⟨rfl, rfl, rfl⟩ := hcs
    refine .inr ⟨a, rfl, hl, hm, fun i hin j q hq => ?_⟩
    have him : i < m := by rw [hmm]; split <;> omega
    obtain ⟨cs', hc, ht'⟩ := hi i him
    obtain ⟨_, hcl, hat⟩ := World.cells?_some hc
    obtain ⟨u, hu, hqu⟩ := (hp.2 enc w base spare held n' _ _ ht').2 j q hq
    refine ⟨u, ?_, hqu⟩
    have hj : j < P.cellsOf e := by
      rw [hp.1]
      exact (List.getElem?_eq_some_iff.1 hq).1
    rw [← add_add, ← hp.1, hat j hj, hu]
end
end Go.Proofs.Ytdokmnpkihmkpaa.Flat
