/- Arguments whose types hold slices and strings (structs of slices, slices of such structs), opened to their cells in one world. No program in sight. -/
import Derived.Test.YtdokmnpkihmkpaaFlat
set_option linter.unusedVariables false
namespace Go.Proofs.Ytdokmnpkihmkpaa.FlatW
open Go.RowKit Go.ChangeShapes Go.WideShapes Go.Deep Go.Proofs.Ytdokmnpkihmkpaa.Flat

/-- A type whose values are, in this world, just so many cells, each of its kind. -/
def FlatAt (P : Program) (w : World) (t : TypeId) (ps : List (Value → Prop)) : Prop :=
  P.cellsOf t = ps.length ∧ ∀ {H : Type} (enc : TypeId × Value → H) (base : Nat) (spare : Nat → Bool) (held : Bool) (fuel : Nat) (cs : List Value) (x : DataW H × List MemPlace),
    DataW.trod enc P w base spare held fuel t cs = some x → cs.length = ps.length ∧ ∀ (i : Nat) (p : Value → Prop), ps[i]? = some p → ∃ v, cs[i]? = some v ∧ p v
theorem flat_at {P : Program} {t : TypeId} {ps : List (Value → Prop)} (h : FlatOf P t ps) (w : World) : FlatAt P w t ps := ⟨h.1, fun enc base spare held fuel cs x hx => h.2 enc w base spare held fuel cs x hx⟩
section
variable {P : Program} {w : World} {t : TypeId}
theorem at_struct {fs : Array Field} (ht : P.underlying t = some (.struct fs)) (pss : List (List (Value → Prop))) (hc : P.cellsOf t = pss.flatten.length)
    (hf : ∀ j ps, pss[j]? = some ps → ∃ f, fs[j]? = some f ∧ f.offset = (pss.take j).flatten.length ∧ FlatAt P w f.type ps) : FlatAt P w t pss.flatten := ⟨hc, fun enc base spare held fuel cs x h => by
  obtain ⟨xs, n, _, _, hl, hxl, hg⟩ := DataW.trod_struct ht h
  refine ⟨hl.trans hc, fun i p hp => ?_⟩
  obtain ⟨j, ps, i', h1, h2, h3⟩ := flatten_get pss i p hp
  obtain ⟨f, hfj, hfo, hff⟩ := hf j ps h1
  have hx := hg j f hfj
  have hjl : j < xs.length := by rw [hxl]; exact (Array.getElem?_eq_some_iff.1 hfj).1
  rw [List.getElem?_eq_getElem hjl] at hx
  obtain ⟨v, hv, hpv⟩ := (hff.2 enc base spare held n _ _ hx).2 i' p h2
  refine ⟨v, ?_, hpv⟩
  rw [h3, ← hfo]
  exact take_one_get hv⟩
theorem at_array {n : Nat} {e : TypeId} (ht : P.underlying t = some (.array n e)) {ps : List (Value → Prop)} (he : FlatAt P w e ps) (hc : P.cellsOf t = (List.replicate n ps).flatten.length) : FlatAt P w t (List.replicate n ps).flatten := ⟨hc, fun enc base spare held fuel cs x h => by
  obtain ⟨xs, m, _, _, hl, hxl, hg⟩ := DataW.trod_array ht h
  refine ⟨hl.trans hc, fun i p hp => ?_⟩
  obtain ⟨j, ps', i', h1, h2, h3⟩ := flatten_get _ i p hp
  have hj : j < n := by
    rcases Nat.lt_or_ge j n with hj | hj
    · exact hj
    · rw [List.getElem?_eq_none (by simpa using hj)] at h1; cases h1
  rw [List.getElem?_replicate, if_pos hj] at h1
  injection h1 with h1
  subst h1
  have hx := hg j hj
  rw [List.getElem?_eq_getElem (by omega)] at hx
  obtain ⟨v, hv, hpv⟩ := (he.2 enc base spare held m _ _ hx).2 i' p h2
  refine ⟨v, ?_, hpv⟩
  rw [h3, List.take_replicate, rep_len, Nat.min_eq_left (by omega), ← he.1]
  exact take_one_get hv⟩

/-- A cell that is a string. -/
def isStr (v : Value) : Prop := ∃ s : ByteArray, v = .string s ∧ s.size ≤ maxLen
theorem at_string (ht : P.underlying t = some .string) (hc : P.cellsOf t = 1) : FlatAt P w t [isStr] := ⟨hc, fun enc base spare held fuel cs x h => by
  obtain ⟨s, rfl, _, hs⟩ := DataW.trod_string ht h
  refine ⟨rfl, fun i p hp => ?_⟩
  cases i with
  | zero =>
    simp at hp
    subst hp
    exact ⟨_, rfl, s, rfl, hs⟩
  | succ i => simp at hp⟩
/-- A cell that is a slice of flat elements. -/
def isS (w : World) (ps : List (Value → Prop)) (v : Value) : Prop := ∃ A n c, v = .slice A n c ∧ FlatRow w ps A n c
theorem at_slice {e : TypeId} (ht : P.underlying t = some (.slice e)) {ps : List (Value → Prop)} (hp : FlatAt P w e ps) (hc : P.cellsOf t = 1) : FlatAt P w t [isS w ps] := ⟨hc, fun enc base spare held fuel cs x h => by
  rcases open_slice ht h with ⟨hcs, _⟩ | ⟨a, len, cap, m, n', D, Pl, hcs, _, hl, hm, hmm, _, hi⟩
  · subst hcs
    refine ⟨rfl, fun i p hp => ?_⟩
    cases i with
    | succ i => simp at hp
    | zero =>
      simp at hp
      subst hp
      exact ⟨_, rfl, none, 0, 0, rfl, .inl ⟨rfl, rfl, rfl⟩⟩
  · subst hcs
    refine ⟨rfl, fun i p hpi => ?_⟩
    cases i with
    | succ i => simp at hpi
    | zero =>
      simp at hpi
      subst hpi
      refine ⟨_, rfl, some a, len, cap, rfl, .inr ⟨a, rfl, hl, hm, fun i hin j q hq => ?_⟩⟩
      have him : i < m := by rw [hmm]; split <;> omega
      obtain ⟨cs', hc, ht'⟩ := hi i him
      obtain ⟨_, hcl, hat⟩ := World.cells?_some hc
      obtain ⟨u, hu, hqu⟩ := (hp.2 enc base spare held n' _ _ ht').2 j q hq
      refine ⟨u, ?_, hqu⟩
      have hj : j < P.cellsOf e := by
        rw [hp.1]
        exact (List.getElem?_eq_some_iff.1 hq).1
      rw [← add_add, ← hp.1, hat j hj, hu]⟩
end
section
variable {H : Type} {enc : TypeId × Value → H} {P : Program} {w : World} {base b0 : Nat} {spare : Nat → Bool} {held : Bool} {t : TypeId} {v : Value} {d : DataW H} {p : List MemPlace} {r : Reach}
/-- A flat argument by value. -/
theorem open_at {ps : List (Value → Prop)} (hp : FlatAt P w t ps) {cs : Array Value} (hv : v = .agg cs) (h : DataW.Trod enc P w base spare held t v d p) :
    cs.size = ps.length ∧ ∀ (i : Nat) q, ps[i]? = some q → ∃ u, cs[i]? = some u ∧ q u := by
  obtain ⟨fuel, hf⟩ := h
  subst hv
  obtain ⟨h1, h2⟩ := hp.2 enc base spare held fuel _ _ hf
  refine ⟨by simpa [Value.cells] using h1, fun i q hq => ?_⟩
  obtain ⟨u, hu, hq⟩ := h2 i q hq
  exact ⟨u, by simpa [Value.cells] using hu, hq⟩
theorem open_at_slice {e : TypeId} (ht : P.underlying t = some (.slice e)) {ps : List (Value → Prop)} (hp : FlatAt P w e ps) (hv : Value.okWide P w r b0 t v) (h : DataW.Trod enc P w base spare held t v d p) :
    ∃ A n c, v = .slice A n c ∧ FlatRow w ps A n c := by
  obtain ⟨A, n, c, rfl⟩ := okWide_slice ht hv
  obtain ⟨fuel, hf⟩ := h
  refine ⟨A, n, c, rfl, ?_⟩
  rcases open_slice ht hf with ⟨hcs, _⟩ | ⟨a, len, cap, m, n', D, Pl, hcs, _, hl, hm, hmm, _, hi⟩
  · simp [Value.cells] at hcs
    exact .inl hcs
  · simp [Value.cells] at hcs
    obtain ⟨rfl, rfl, rfl⟩ := hcs
    refine .inr ⟨a, rfl, hl, hm, fun i hin j q hq => ?_⟩
    have him : i < m := by rw [hmm]; split <;> omega
    obtain ⟨cs', hc, ht'⟩ := hi i him
    obtain ⟨_, hcl, hat⟩ := World.cells?_some hc
    obtain ⟨u, hu, hqu⟩ := (hp.2 enc base spare held n' _ _ ht').2 j q hq
    refine ⟨u, ?_, hqu⟩
    have hj : j < P.cellsOf e := by
      rw [hp.1]
      exact (List.getElem?_eq_some_iff.1 hq).1
    rw [← add_add, ← hp.1, hat j hj, hu]
end
end Go.Proofs.Ytdokmnpkihmkpaa.FlatW
