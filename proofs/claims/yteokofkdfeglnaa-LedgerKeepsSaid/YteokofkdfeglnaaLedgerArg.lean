/- The ledger laws' arguments, opened. -/
import Derived.Test.YteokofkdfeglnaaFlat
import Derived.Test.YteokofkdfeglnaaProg
set_option linter.unusedVariables false
namespace Go.Proofs.Yteokofkdfeglnaa.LedgerArg
open Go.RowKit Go.ChangeShapes Go.WideShapes Go.Deep Go.Proofs.Yteokofkdfeglnaa.Flat

theorem f_int : FlatOf Try.prog 3 [isI .i64] := flat_int Try.underlying3 (by kernel_rfl)
theorem f_deed : FlatOf Try.prog 52 ([[isI .i64], [isI .i64], [isI .i64], [isI .i64], [isI .i64]] : List (List (Value → Prop))).flatten :=
  flat_struct Try.underlying52 _ (by kernel_rfl) fun j ps h => by
    match j, h with
    | 0, h => simp at h; subst h; exact ⟨_, rfl, rfl, f_int⟩
    | 1, h => simp at h; subst h; exact ⟨_, rfl, rfl, f_int⟩
    | 2, h => simp at h; subst h; exact ⟨_, rfl, rfl, f_int⟩
    | 3, h => simp at h; subst h; exact ⟨_, rfl, rfl, f_int⟩
    | 4, h => simp at h; subst h; exact ⟨_, rfl, rfl, f_int⟩
theorem f_all : FlatOf Try.prog 22 (List.replicate 4 [isI .i64]).flatten := flat_array Try.underlying22 f_int (by kernel_rfl)

def Five (v : Value) : Prop := ∃ a b c d e : Int, v = .agg #[.int .i64 a, .int .i64 b, .int .i64 c, .int .i64 d, .int .i64 e]
def Four (v : Value) : Prop := ∃ a b c d : Int, v = .agg #[.int .i64 a, .int .i64 b, .int .i64 c, .int .i64 d]
theorem five_of {H : Type} {enc : TypeId × Value → H} {W : World} {base : Nat} {v : Value} {d : DataW H} {p : List MemPlace} (hv : Value.okWide Try.prog W .any base 52 v)
    (h : DataW.Trod enc Try.prog W 0 (fun _ => true) true 52 v d p) : Five v := by
  obtain ⟨cs, rfl, _⟩ := okWide_struct Try.underlying52 hv
  obtain ⟨hsz, hi⟩ := open_flat f_deed rfl h
  obtain ⟨_, h0, a, rfl, _⟩ := hi 0 _ rfl
  obtain ⟨_, h1, b, rfl, _⟩ := hi 1 _ rfl
  obtain ⟨_, h2, c, rfl, _⟩ := hi 2 _ rfl
  obtain ⟨_, h3, d, rfl, _⟩ := hi 3 _ rfl
  obtain ⟨_, h4, e, rfl, _⟩ := hi 4 _ rfl
  refine ⟨a, b, c, d, e, ?_⟩
  congr 1
  apply Array.ext_getElem?
  intro i
  match i with
  | 0 => exact h0
  | 1 => exact h1
  | 2 => exact h2
  | 3 => exact h3
  | 4 => exact h4
  | i + 5 => rw [Array.getElem?_eq_none (by rw [hsz]; show 5 ≤ i + 5; omega), Array.getElem?_eq_none (by show 5 ≤ i + 5; omega)]
theorem okWide_array {P : Program} {w : World} {r : Reach} {base : Nat} {t : TypeId} {v : Value} {n : Nat} {e : TypeId} (ht : P.underlying t = some (.array n e)) (h : Value.okWide P w r base t v) : ∃ cs, v = .agg cs := by
  simp only [Value.okWide, ht] at h
  obtain ⟨cs, h1, _⟩ := h
  exact ⟨cs, h1⟩
theorem four_of {H : Type} {enc : TypeId × Value → H} {W : World} {base : Nat} {v : Value} {d : DataW H} {p : List MemPlace} (hv : Value.okWide Try.prog W .any base 22 v)
    (h : DataW.Trod enc Try.prog W 0 (fun _ => true) true 22 v d p) : Four v := by
  obtain ⟨cs, rfl⟩ := okWide_array Try.underlying22 hv
  obtain ⟨hsz, hi⟩ := open_flat f_all rfl h
  obtain ⟨_, h0, a, rfl, _⟩ := hi 0 _ rfl
  obtain ⟨_, h1, b, rfl, _⟩ := hi 1 _ rfl
  obtain ⟨_, h2, c, rfl, _⟩ := hi 2 _ rfl
  obtain ⟨_, h3, d, rfl, _⟩ := hi 3 _ rfl
  refine ⟨a, b, c, d, ?_⟩
  congr 1
  apply Array.ext_getElem?
  intro i
  match i with
  | 0 => exact h0
  | 1 => exact h1
  | 2 => exact h2
  | 3 => exact h3
  | i + 4 => rw [Array.getElem?_eq_none (by rw [hsz]; show 4 ≤ i + 4; omega), Array.getElem?_eq_none (by show 4 ≤ i + 4; omega)]
/-- A slice of deeds. -/
def Deeds (w : World) (v : Value) : Prop := ∃ A n c, v = .slice A n c ∧ FlatRow w ([[isI .i64], [isI .i64], [isI .i64], [isI .i64], [isI .i64]] : List (List (Value → Prop))).flatten A n c
theorem deeds_of {H : Type} {enc : TypeId × Value → H} {W : World} {base : Nat} {v : Value} {d : DataW H} {p : List MemPlace} (hv : Value.okWide Try.prog W .any base 45 v)
    (h : DataW.Trod enc Try.prog W 0 (fun _ => true) true 45 v d p) : Deeds W v := by
  obtain ⟨A, n, c, hv', hf⟩ := open_flat_slice Try.underlying45 f_deed hv h
  exact ⟨A, n, c, hv', hf⟩
end Go.Proofs.Yteokofkdfeglnaa.LedgerArg
