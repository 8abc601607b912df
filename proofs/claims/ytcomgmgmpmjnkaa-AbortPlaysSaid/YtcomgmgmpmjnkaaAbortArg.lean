/- The arguments of the laws of layer 17, opened. -/
import Derived.Test.YtcomgmgmpmjnkaaFlat
import Derived.Test.YtcomgmgmpmjnkaaAbort5
set_option linter.unusedVariables false
namespace Go.Proofs.Ytcomgmgmpmjnkaa.AbortArg
open Go.RowKit Go.ChangeShapes Go.WideShapes Go.Deep Go.Proofs.Ytcomgmgmpmjnkaa.Base Go.Proofs.Ytcomgmgmpmjnkaa.Flat Go.Proofs.Ytcomgmgmpmjnkaa.AbortMath

theorem f_int : FlatOf Try.prog 3 [isI .i64] := flat_int Try.underlying3 (by kernel_rfl)
def w4 : List (Value → Prop) := ([[isI .i64], [isI .i64], [isI .i64], [isI .i64]] : List (List (Value → Prop))).flatten
theorem f_want : FlatOf Try.prog 64 w4 :=
  flat_struct Try.underlying64 _ (by kernel_rfl) fun j ps h => by
    match j, h with
    | 0, h => simp at h; subst h; exact ⟨_, rfl, rfl, f_int⟩
    | 1, h => simp at h; subst h; exact ⟨_, rfl, rfl, f_int⟩
    | 2, h => simp at h; subst h; exact ⟨_, rfl, rfl, f_int⟩
    | 3, h => simp at h; subst h; exact ⟨_, rfl, rfl, f_int⟩
def d5 : List (Value → Prop) := ([[isI .i64], w4] : List (List (Value → Prop))).flatten
theorem f_deed : FlatOf Try.prog 69 d5 :=
  flat_struct Try.underlying69 _ (by kernel_rfl) fun j ps h => by
    match j, h with
    | 0, h => simp at h; subst h; exact ⟨_, rfl, rfl, f_int⟩
    | 1, h => simp at h; subst h; exact ⟨_, rfl, rfl, f_want⟩
/-- A want by value. -/
def Want1 (v : Value) : Prop := ∃ x : Wt, v = .agg (wa x)
set_option maxRecDepth 100000 in
theorem want_of {H : Type} {enc : TypeId × Value → H} {W : World} {base : Nat} {v : Value} {d : DataW H} {p : List MemPlace} (hv : Value.okWide Try.prog W .any base 64 v)
    (h : DataW.Trod enc Try.prog W 0 (fun _ => true) true 64 v d p) : Want1 v := by
  obtain ⟨cs, rfl, _⟩ := okWide_struct Try.underlying64 hv
  obtain ⟨hsz, hi⟩ := open_flat f_want rfl h
  obtain ⟨_, h0, a, rfl, _⟩ := hi 0 _ rfl
  obtain ⟨_, h1, b, rfl, _⟩ := hi 1 _ rfl
  obtain ⟨_, h2, c, rfl, _⟩ := hi 2 _ rfl
  obtain ⟨_, h3, d, rfl, _⟩ := hi 3 _ rfl
  refine ⟨⟨a, b, c, d⟩, ?_⟩
  congr 1
  apply Array.ext_getElem?
  intro i
  match i with
  | 0 => exact h0
  | 1 => exact h1
  | 2 => exact h2
  | 3 => exact h3
  | i + 4 => rw [Array.getElem?_eq_none (by rw [hsz]; show 4 ≤ i + 4; omega), Array.getElem?_eq_none (by show 4 ≤ i + 4; omega)]
/-- A slice of deeds. -/
def Deeds (w : World) (v : Value) : Prop := ∃ A n c, v = .slice A n c ∧ FlatRow w d5 A n c
set_option maxRecDepth 100000 in
theorem deeds_of {H : Type} {enc : TypeId × Value → H} {W : World} {base : Nat} {v : Value} {d : DataW H} {p : List MemPlace} (hv : Value.okWide Try.prog W .any base 62 v)
    (h : DataW.Trod enc Try.prog W 0 (fun _ => true) true 62 v d p) : Deeds W v := by
  obtain ⟨A, n, c, hv', hf⟩ := open_flat_slice Try.underlying62 f_deed hv h
  exact ⟨A, n, c, hv', hf⟩
theorem flat_max {w : World} {ps : List (Value → Prop)} {A : Option Addr} {n c : Nat} (h : FlatRow w ps A n c) : n ≤ 9223372036854775807 := by
  rcases h with ⟨_, h, _⟩ | ⟨_, _, h1, h2, _⟩
  · omega
  · simp only [maxLen] at h2; omega
theorem add_lit (a : Addr) (i j : Nat) (hj : j ≠ 0) : a.add (i + j) = ⟨(a.add i).block, (a.add i).off + j, none⟩ := by
  rw [← add_off]
  generalize a.add i = b
  unfold Addr.add
  rw [if_neg hj]
/-- A deed's cells. -/
def DeedAt (w : World) (q : Addr) (kd : Int) (x : Wt) : Prop :=
  w.cell? q = some (.int .i64 kd) ∧ w.cell? ⟨q.block, q.off + 1, none⟩ = some (.int .i64 x.e) ∧ w.cell? ⟨q.block, q.off + 2, none⟩ = some (.int .i64 x.k) ∧ w.cell? ⟨q.block, q.off + 3, none⟩ = some (.int .i64 x.n) ∧ w.cell? ⟨q.block, q.off + 4, none⟩ = some (.int .i64 x.l)
theorem DeedAt.below {w w1 : World} {q : Addr} {kd : Int} {x : Wt} (h : DeedAt w q kd x) (hb : Below w.heap.size w w1) : DeedAt w1 q kd x :=
  ⟨bl_cell hb h.1, bl_cell hb h.2.1, bl_cell hb h.2.2.1, bl_cell hb h.2.2.2.1, bl_cell hb h.2.2.2.2⟩
theorem deed_at {w : World} {A : Option Addr} {n c : Nat} (h : FlatRow w d5 A n c) (k : Nat) (hk : k < n) :
    ∃ (ad : Addr) (kd : Int) (x : Wt), A = some ad ∧ DeedAt w (ad.add (k * 5)) kd x := by
  rcases h with ⟨_, h0, _⟩ | ⟨ad, rfl, _, _, hi⟩
  · omega
  obtain ⟨_, h0, a, rfl, _⟩ := hi k hk 0 _ rfl
  obtain ⟨_, h1, b, rfl, _⟩ := hi k hk 1 _ rfl
  obtain ⟨_, h2, c, rfl, _⟩ := hi k hk 2 _ rfl
  obtain ⟨_, h3, d, rfl, _⟩ := hi k hk 3 _ rfl
  obtain ⟨_, h4, e, rfl, _⟩ := hi k hk 4 _ rfl
  refine ⟨ad, a, ⟨b, c, d, e⟩, rfl, h0, ?_, ?_, ?_, ?_⟩
  · rw [← add_lit ad (k * 5) 1 (by omega)]; exact h1
  · rw [← add_lit ad (k * 5) 2 (by omega)]; exact h2
  · rw [← add_lit ad (k * 5) 3 (by omega)]; exact h3
  · rw [← add_lit ad (k * 5) 4 (by omega)]; exact h4
end Go.Proofs.Ytcomgmgmpmjnkaa.AbortArg
