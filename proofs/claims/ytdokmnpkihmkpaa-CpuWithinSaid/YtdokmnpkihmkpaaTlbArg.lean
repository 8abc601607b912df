/- The arguments of the laws of layer 5, opened. -/
import Derived.Test.YtdokmnpkihmkpaaFlat
import Derived.Test.YtdokmnpkihmkpaaTlb5
set_option linter.unusedVariables false
namespace Go.Proofs.Ytdokmnpkihmkpaa.TlbArg
open Go.RowKit Go.ChangeShapes Go.WideShapes Go.Deep Go.Proofs.Ytdokmnpkihmkpaa.Base Go.Proofs.Ytdokmnpkihmkpaa.Flat Go.Proofs.Ytdokmnpkihmkpaa.TlbMath

theorem f_int : FlatOf Try.prog 3 [isI .i64] := flat_int Try.underlying3 (by kernel_rfl)
theorem f_bool : FlatOf Try.prog 4 [isB] := flat_bool Try.underlying4 (by kernel_rfl)
def e4 : List (Value → Prop) := ([[isI .i64], [isI .i64], [isI .i64], [isB]] : List (List (Value → Prop))).flatten
theorem f_entry : FlatOf Try.prog 58 e4 :=
  flat_struct Try.underlying58 _ (by kernel_rfl) fun j ps h => by
    match j, h with
    | 0, h => simp at h; subst h; exact ⟨_, rfl, rfl, f_int⟩
    | 1, h => simp at h; subst h; exact ⟨_, rfl, rfl, f_int⟩
    | 2, h => simp at h; subst h; exact ⟨_, rfl, rfl, f_int⟩
    | 3, h => simp at h; subst h; exact ⟨_, rfl, rfl, f_bool⟩
def d5 : List (Value → Prop) := ([[isI .i64], e4] : List (List (Value → Prop))).flatten
theorem f_deed : FlatOf Try.prog 60 d5 :=
  flat_struct Try.underlying60 _ (by kernel_rfl) fun j ps h => by
    match j, h with
    | 0, h => simp at h; subst h; exact ⟨_, rfl, rfl, f_int⟩
    | 1, h => simp at h; subst h; exact ⟨_, rfl, rfl, f_entry⟩
/-- A slice of deeds. -/
def Deeds (w : World) (v : Value) : Prop := ∃ A n c, v = .slice A n c ∧ FlatRow w d5 A n c
set_option maxRecDepth 100000 in
theorem deeds_of {H : Type} {enc : TypeId × Value → H} {W : World} {base : Nat} {v : Value} {d : DataW H} {p : List MemPlace} (hv : Value.okWide Try.prog W .any base 49 v)
    (h : DataW.Trod enc Try.prog W 0 (fun _ => true) true 49 v d p) : Deeds W v := by
  obtain ⟨A, n, c, hv', hf⟩ := open_flat_slice Try.underlying49 f_deed hv h
  exact ⟨A, n, c, hv', hf⟩
theorem flat_max {w : World} {ps : List (Value → Prop)} {A : Option Addr} {n c : Nat} (h : FlatRow w ps A n c) : n ≤ 9223372036854775807 := by
  rcases h with ⟨_, h, _⟩ | ⟨_, _, h1, h2, _⟩
  · omega
  · simp only [maxLen] at h2; omega
theorem add_lit (a : Addr) (i j : Nat) (hj : j ≠ 0) : a.add (i + j) = ⟨(a.add i).block, (a.add i).off + j, none⟩ := by
  rw [← add_off]
  generalize a.add i = b
  unfold Addr.add
  rw [if_neg hj]
/-- A deed's cells. -/
def DeedAt (w : World) (q : Addr) (kd : Int) (x : En) : Prop :=
  w.cell? q = some (.int .i64 kd) ∧ w.cell? ⟨q.block, q.off + 1, none⟩ = some (.int .i64 x.s) ∧ w.cell? ⟨q.block, q.off + 2, none⟩ = some (.int .i64 x.p) ∧ w.cell? ⟨q.block, q.off + 3, none⟩ = some (.int .i64 x.f) ∧ w.cell? ⟨q.block, q.off + 4, none⟩ = some (.bool x.w)
theorem DeedAt.below {w w1 : World} {q : Addr} {kd : Int} {x : En} (h : DeedAt w q kd x) (hb : Below w.heap.size w w1) : DeedAt w1 q kd x :=
  ⟨bl_cell hb h.1, bl_cell hb h.2.1, bl_cell hb h.2.2.1, bl_cell hb h.2.2.2.1, bl_cell hb h.2.2.2.2⟩
theorem deed_at {w : World} {A : Option Addr} {n c : Nat} (h : FlatRow w d5 A n c) (k : Nat) (hk : k < n) :
    ∃ (ad : Addr) (kd : Int) (x : En), A = some ad ∧ DeedAt w (ad.add (k * 5)) kd x := by
  rcases h with ⟨_, h0, _⟩ | ⟨ad, rfl, _, _, hi⟩
  · omega
  obtain ⟨_, h0, a, rfl, _⟩ := hi k hk 0 _ rfl
  obtain ⟨_, h1, b, rfl, _⟩ := hi k hk 1 _ rfl
  obtain ⟨_, h2, c, rfl, _⟩ := hi k hk 2 _ rfl
  obtain ⟨_, h3, d, rfl, _⟩ := hi k hk 3 _ rfl
  obtain ⟨_, h4, e, rfl⟩ := hi k hk 4 _ rfl
  refine ⟨ad, a, ⟨b, c, d, e⟩, rfl, h0, ?_, ?_, ?_, ?_⟩
  · rw [← add_lit ad (k * 5) 1 (by omega)]; exact h1
  · rw [← add_lit ad (k * 5) 2 (by omega)]; exact h2
  · rw [← add_lit ad (k * 5) 3 (by omega)]; exact h3
  · rw [← add_lit ad (k * 5) 4 (by omega)]; exact h4
end Go.Proofs.Ytdokmnpkihmkpaa.TlbArg
