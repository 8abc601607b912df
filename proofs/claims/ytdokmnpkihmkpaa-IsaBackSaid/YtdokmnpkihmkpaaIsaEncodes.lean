/- IsaEncodes: at every instruction the law's text returns true. -/
import Derived.Test.YtdokmnpkihmkpaaIsaAw
import Derived.Test.YtdokmnpkihmkpaaFlat
import Derived.Deep.RegionHeld3
set_option linter.unusedVariables false
namespace Go.Proofs.Ytdokmnpkihmkpaa.IsaEncodes
open Go.RowKit Go.Proofs.Ytdokmnpkihmkpaa.Base Go.Proofs.Ytdokmnpkihmkpaa.Row Go.Proofs.Ytdokmnpkihmkpaa.Once Go.Proofs.Ytdokmnpkihmkpaa.Isa Go.Proofs.Ytdokmnpkihmkpaa.Isa2 Go.Proofs.Ytdokmnpkihmkpaa.Math Go.Proofs.Ytdokmnpkihmkpaa.IsaMath Go.Proofs.Ytdokmnpkihmkpaa.Isa3 Go.Proofs.Ytdokmnpkihmkpaa.IsaRef Go.Proofs.Ytdokmnpkihmkpaa.IsaAw Go.Proofs.Ytdokmnpkihmkpaa.Flat
open Go.ChangeShapes Go.WideShapes Go.Deep

set_option maxRecDepth 100000 in
set_option maxHeartbeats 8000000 in
theorem main (op a b n : Int) (w : World) : Calls Try.prog 9 #[.agg (ins op a b n)] w fun e w' => e = .returned (.bool true) ∧ Below w.heap.size w w' := by
  go_enter Try.func9, Try.ntmps9
  go_wp2_with (first
    | ((with_reducible refine wl_box rfl 77 _ rfl (ins op a b n) rfl ?_); intro w1 k1 b1 s1; have d0 := k1.cellv 0 (.int .i64 op) rfl)
    | (with_reducible refine wl_build0 rfl 92 rfl (oc 0 0 (nums .i64 T0 ++ [])) zero_t ?_)
    | ((with_reducible refine wl_box rfl 92 _ rfl (oc 0 0 (nums .i64 T0 ++ [])) rfl ?_); intro w2 k2 b2 s2; have k1b := k1.below b2)
    | (with_reducible refine wl_load rfl 77 _ rfl w.heap.size rfl 77 (ins op a b n) _ k1b Try.underlying77 rfl (size_j _ rfl) ?_))
  have B2 := bl_then b1 b2
  have z1 := b1.size
  have zz := s1
  refine (instr_c op a b n w2).mono ?_
  rintro r w3 ⟨rfl, b3⟩
  have KD3 := k1b.below b3
  have TB3 : Tb w3 w1.heap.size 92 [] := .inl (k2.below b3)
  have B3 := bl_then B2 b3
  clear k1 k1b k2 b1 b2 d0 B2 b3
  go_wp2_with fail
  refine (encode_c w1.heap.size 92 [] op a b n w3 TB3).mono ?_
  rintro r w4 ⟨rfl, TB4, g4⟩
  have KD4 := KD3.grown g4 (fun e => by injection e with e; omega)
  have B4 := below_grown B3 B3.size g4 z1
  clear KD3 TB3 B3 g4
  go_wp2_with (first
    | (with_reducible refine wl_load rfl 77 _ rfl w.heap.size rfl 77 (ins op a b n) _ KD4 Try.underlying77 rfl (size_j _ rfl) ?_))
  refine (encode_r op a b n w4).mono ?_
  rintro r w5 ⟨rfl, b5⟩
  have KD' := Lib.hid (KD4.below b5)
  have TB' := Lib.hid (TB4.below b5)
  have HB' := Lib.hid (bl_then B4 b5)
  have hV := Lib.hid (fun w' h => valid_c w1.heap.size 92 [] op a b n w' h)
  rw [val_eq] at hV
  have hR := Lib.hid (valid_r op a b n)
  generalize refB op a b n = v at *
  generalize encR op a b n = x at *
  clear KD4 TB4 B4 b5
  have hvv : (v == v) = true := beq_self_eq_true v
  have hxx : (x == x) = true := beq_self_eq_true x
  go_wp2_with fail
  have KD := KD'.out.drew
  have TB := TB'.out.drew
  have HB := bl_drew HB'.out
  have t0 : w5.drew.cell? ⟨w.heap.size, 0, none⟩ = some (.int .i64 op) := KD.cellv 0 _ rfl
  have t1 : w5.drew.cell? ⟨w.heap.size, 1, none⟩ = some (.int .i64 a) := KD.cellv 1 _ rfl
  have t2 : w5.drew.cell? ⟨w.heap.size, 2, none⟩ = some (.int .i64 b) := KD.cellv 2 _ rfl
  have t3 : w5.drew.cell? ⟨w.heap.size, 3, none⟩ = some (.int .i64 n) := KD.cellv 3 _ rfl
  go_region_held3 (fun w' => w'.cell? ⟨w.heap.size, 0, none⟩ = some (.int .i64 op) ∧ w'.cell? ⟨w.heap.size, 1, none⟩ = some (.int .i64 a) ∧ w'.cell? ⟨w.heap.size, 2, none⟩ = some (.int .i64 b) ∧ w'.cell? ⟨w.heap.size, 3, none⟩ = some (.int .i64 n))
    (first
      | go_keep
      | exact ⟨KD.cellv 0 _ rfl, KD.cellv 1 _ rfl, KD.cellv 2 _ rfl, KD.cellv 3 _ rfl⟩)
    (first
      | (go_at_call 44; refine (instr_c op a b n _).mono ?_; rintro r wa ⟨rfl, ba⟩; have TB := TB.below ba; have KD := KD.below ba; have HB := bl_then HB ba)
      | (go_at_call 46; refine (hV.out _ TB).mono ?_; rintro r wa ⟨rfl, TB, ga⟩; have KD := KD.grown ga (fun e => by injection e with e; omega); have HB := below_grown HB HB.size ga z1)
      | (go_at_call 47; refine (hR.out _).mono ?_; rintro r wa ⟨rfl, ba⟩; have TB := TB.below ba; have KD := KD.below ba; have HB := bl_then HB ba)
      | (go_at_call 48; refine (awake_c _).mono ?_; rintro r wa ⟨rfl, ba⟩; have TB := TB.below ba; have KD := KD.below ba; have HB := bl_then HB ba))
  all_goals (
    go_wp2
    go_ret
    exact ⟨rfl, HB⟩)

theorem f_int : FlatOf Try.prog 3 [isI .i64] := flat_int Try.underlying3 (by kernel_rfl)
set_option maxRecDepth 100000 in
theorem f_ins : FlatOf Try.prog 77 ([[isI .i64], [isI .i64], [isI .i64], [isI .i64]] : List (List (Value → Prop))).flatten :=
  flat_struct Try.underlying77 _ (by kernel_rfl) fun j ps h => by
    match j, h with
    | 0, h => simp at h; subst h; exact ⟨_, rfl, rfl, f_int⟩
    | 1, h => simp at h; subst h; exact ⟨_, rfl, rfl, f_int⟩
    | 2, h => simp at h; subst h; exact ⟨_, rfl, rfl, f_int⟩
    | 3, h => simp at h; subst h; exact ⟨_, rfl, rfl, f_int⟩
def Ins (v : Value) : Prop := ∃ a b c d : Int, v = .agg (ins a b c d)
set_option maxRecDepth 100000 in
theorem ins_of {H : Type} {enc : TypeId × Value → H} {W : World} {base : Nat} {v : Value} {d : DataW H} {p : List MemPlace} (hv : Value.okWide Try.prog W .any base 77 v)
    (h : DataW.Trod enc Try.prog W 0 (fun _ => true) true 77 v d p) : Ins v := by
  obtain ⟨cs, rfl, _⟩ := okWide_struct Try.underlying77 hv
  obtain ⟨hsz, hi⟩ := open_flat f_ins rfl h
  obtain ⟨_, h0, a, rfl, _⟩ := hi 0 _ rfl
  obtain ⟨_, h1, b, rfl, _⟩ := hi 1 _ rfl
  obtain ⟨_, h2, c, rfl, _⟩ := hi 2 _ rfl
  obtain ⟨_, h3, d, rfl, _⟩ := hi 3 _ rfl
  refine ⟨a, b, c, d, ?_⟩
  congr 1
  apply Array.ext_getElem?
  intro i
  match i with
  | 0 => exact h0
  | 1 => exact h1
  | 2 => exact h2
  | 3 => exact h3
  | i + 4 => rw [Array.getElem?_eq_none (by rw [hsz]; show 4 ≤ i + 4; omega), Array.getElem?_eq_none (by show 4 ≤ i + 4; omega)]
def Arg (i : Nat) (w : World) (v : Value) : Prop := Ins v
set_option maxRecDepth 100000 in
theorem arg0 {H : Type} {enc : TypeId × Value → H} {W : World} {base : Nat} {v : Value} {d : DataW H} {p : List MemPlace} (hv : Value.okWide Try.prog W .any base 77 v)
    (h : DataW.Trod enc Try.prog W 0 (fun _ => true) true 77 v d p) : Arg 0 W v := ins_of hv h
set_option maxRecDepth 100000 in
theorem walk (v0 : Value) (w : World) (h0 : Arg 0 w v0) : Calls Try.prog 9 #[v0] w fun e w' => e = .returned (.bool true) ∧ Below w.heap.size w w' := by
  obtain ⟨a, b, c, d, rfl⟩ := h0
  exact main a b c d w
end Go.Proofs.Ytdokmnpkihmkpaa.IsaEncodes
