/- Rows cut and laid anew in place: what slices.Delete and slices.DeleteFunc need. No program in sight. -/
import Derived.Test.YtcomgmgmpmjnkaaOut
import Derived.Test.YtcomgmgmpmjnkaaHeldW
import Derived.Lib.SliceRun
set_option linter.unusedVariables false
namespace Go.Proofs.Ytcomgmgmpmjnkaa.Del
open Go.RowKit Go.Proofs.Ytcomgmgmpmjnkaa.Base Go.Proofs.Ytcomgmgmpmjnkaa.Row Go.Proofs.Ytcomgmgmpmjnkaa.App Go.Proofs.Ytcomgmgmpmjnkaa.Multi

theorem take_lay {cur : Array Value} {o : Nat} {vs : List Value} (h : o + vs.length ≤ cur.size) : (lay cur o vs).toList.take (o + vs.length) = cur.toList.take o ++ vs := by
  apply List.ext_getElem?
  intro j
  rw [List.getElem?_take, Array.getElem?_toList, lay_get _ _ _ _ h]
  by_cases h1 : j < o
  · rw [if_pos (by omega), if_neg (by omega), List.getElem?_append_left (by simp; omega), List.getElem?_take, if_pos h1, Array.getElem?_toList]
  · rw [List.getElem?_append_right (by simp; omega)]
    have : (cur.toList.take o).length = o := by simp; omega
    rw [this]
    by_cases h2 : j < o + vs.length
    · rw [if_pos h2, if_pos ⟨by omega, h2⟩]
    · rw [if_neg h2, List.getElem?_eq_none (by omega)]
theorem take_lay_lo {cur : Array Value} {o m : Nat} {vs : List Value} (h : o + vs.length ≤ cur.size) (hm : m ≤ o) : (lay cur o vs).toList.take m = cur.toList.take m := by
  apply List.ext_getElem?
  intro j
  rw [List.getElem?_take, List.getElem?_take, Array.getElem?_toList, Array.getElem?_toList, lay_get _ _ _ _ h]
  by_cases h1 : j < m
  · rw [if_pos h1, if_pos h1, if_neg (by omega)]
  · rw [if_neg h1, if_neg h1]
/-- What an own row is made of. -/
theorem own_parts {w : World} {base : Nat} {e : TypeId} {sz g n c : Nat} {xs : List Value} (h : w.ownsRow base e sz (.slice (some ⟨g, 0, none⟩) n c) n xs) : ∃ cur, Blk w g e cur ∧ base ≤ g ∧ n ≤ c ∧ c ≤ maxLen ∧ cur.size = c * sz ∧ cur.toList.take (n * sz) = xs := by
  rcases h.2 with ⟨h1, _⟩ | ⟨g', cap, cur, hv, hb, hk, hc, hm, hs, ht⟩
  · cases h1
  · injection hv with h1 h2 h3
    injection h1 with h1
    injection h1 with h1
    subst h1 h3
    exact ⟨cur, hk, hb, hc, hm, hs, ht⟩
theorem own_made {w : World} {base : Nat} {e : TypeId} {sz g n c : Nat} {xs : List Value} {cur : Array Value} (hk : Blk w g e cur) (hb : base ≤ g) (hc : n ≤ c) (hm : c ≤ maxLen) (hs : cur.size = c * sz) (ht : cur.toList.take (n * sz) = xs) (hx : xs.length = n * sz) : w.ownsRow base e sz (.slice (some ⟨g, 0, none⟩) n c) n xs :=
  ⟨hx, .inr ⟨g, c, cur, rfl, hb, hk, hc, hm, hs, ht⟩⟩
theorem zero_len (z : Array Value) (n : Nat) : (Builtin.zeroCells z n).toList.length = n * z.size := by simp [Builtin.zeroCells]
/-- 'clear(s)' of elements of several cells. -/
theorem run_clear_mul {P : Program} (w : World) (t e ty : TypeId) (z : Value) (ht : P.underlying t = some (.slice e)) (hv : ∀ w, (zeroValue e).run P w = .ok z w) (b o n c : Nat) (hn : 0 < n) (h1 : ∀ v ∈ (Builtin.zeroCells z.cells n).toList, v.oneCell' = true)
    (hc : ∀ j, j < n * z.cells.size → (w.cell? ⟨b, o + j, none⟩).isSome = true) (hf : ∀ j, j < n * z.cells.size → w.frozen? ⟨b, o + j, none⟩ = false) :
    (Builtin.clear_ #[t] ty #[.slice (some ⟨b, o, none⟩) n c]).run P w = .ok (.tuple #[]) (w.setCells b o (Builtin.zeroCells z.cells n).toList) := by
  have hst := run_storeCells_cells (P := P) b o (Builtin.zeroCells z.cells n).toList 0 w (by rw [zero_len]; simpa using hc) (by rw [zero_len]; simpa using hf) h1
  simp only [Nat.add_zero] at hst
  obtain ⟨m, rfl⟩ : ∃ m, n = m + 1 := ⟨n - 1, by omega⟩
  simp [Builtin.clear_, run_underlying ht, hv, hst]
end Go.Proofs.Ytcomgmgmpmjnkaa.Del
