/- '==' of instructions. -/
import Derived.Test.YtdokmnpkihmkpaaIsaDec
set_option linter.unusedVariables false
namespace Go.Proofs.Ytdokmnpkihmkpaa.IsaEq
open Go.RowKit Go.Proofs.Ytdokmnpkihmkpaa.Base Go.Proofs.Ytdokmnpkihmkpaa.Isa2 Go.Proofs.Ytdokmnpkihmkpaa.IsaMath Go.Proofs.Ytdokmnpkihmkpaa.Isa3

def eqI (op a b n op' a' b' n' : Int) : Bool := (op == op') && ((a == a') && ((b == b') && (n == n')))
theorem four {fs : List Field} (h : fs.length = 4) : ∃ f0 f1 f2 f3, fs = [f0, f1, f2, f3] := by
  match fs, h with
  | [a, b, c, d], _ => exact ⟨a, b, c, d, rfl⟩

theorem eq_i (op a b n op' a' b' n' : Int) (w : World) : (Op.equalIn 10000 94 (.agg (ins op a b n)) (.agg (ins op' a' b' n'))).run Try.prog w = .ok (eqI op a b n op' a' b' n') w := by
  rw [run_equalIn_struct w 9999 94 _ _ (by kernel_rfl) (by kernel_rfl)]
  have hi : ∀ (j : Nat) (v : Value) (cs : Array Value), cs[j]? = some v → (part 3 cs j).run Try.prog w = .ok v w := fun j v cs hv => run_part_int 3 .i64 Try.underlying3 cs j v hv
  have he : ∀ d x y, (Op.equalIn (d + 1) 3 (.int .i64 x) (.int .i64 y)).run Try.prog w = .ok (x == y) w := fun d x y => run_equalIn_int w d 3 .i64 .i64 x y Try.underlying3
  have hf : (Try.prog.fieldsOf 94).toList.map (fun f => (f.name, f.type, f.offset)) = [("Op", 3, 0), ("A", 3, 1), ("B", 3, 2), ("Imm", 3, 3)] := by kernel_rfl
  generalize (Try.prog.fieldsOf 94).toList = fs at *
  obtain ⟨f0, f1, f2, f3, rfl⟩ := four (by have hl := congrArg List.length hf; simpa using hl)
  simp only [List.map_cons, List.map_nil, List.cons.injEq, Prod.mk.injEq, and_true] at hf
  obtain ⟨⟨n0, t0, o0⟩, ⟨n1, t1, o1⟩, ⟨n2, t2, o2⟩, ⟨n3, t3, o3⟩⟩ := hf
  simp [Op.eqFields, n0, n1, n2, n3, t0, t1, t2, t3, o0, o1, o2, o3, hi 0 (.int .i64 op) (ins op a b n) rfl, hi 1 (.int .i64 a) (ins op a b n) rfl, hi 2 (.int .i64 b) (ins op a b n) rfl, hi 3 (.int .i64 n) (ins op a b n) rfl, hi 0 (.int .i64 op') (ins op' a' b' n') rfl, hi 1 (.int .i64 a') (ins op' a' b' n') rfl, hi 2 (.int .i64 b') (ins op' a' b' n') rfl, hi 3 (.int .i64 n') (ins op' a' b' n') rfl, he 9998]
  unfold eqI
  by_cases h1 : op = op'
  · by_cases h2 : a = a'
    · by_cases h3 : b = b'
      · by_cases h4 : n = n'
        · simp [h1, h2, h3, h4]
        · simp [h1, h2, h3, h4]
      · simp [h1, h2, h3]
    · simp [h1, h2]
  · simp [h1]

theorem eq_j (op a b n op' a' b' n' : Int) (w : World) : (Op.equalIn 10000 77 (.agg (ins op a b n)) (.agg (ins op' a' b' n'))).run Try.prog w = .ok (eqI op a b n op' a' b' n') w := by
  rw [run_equalIn_struct w 9999 77 _ _ (by kernel_rfl) (by kernel_rfl)]
  have hi : ∀ (j : Nat) (v : Value) (cs : Array Value), cs[j]? = some v → (part 3 cs j).run Try.prog w = .ok v w := fun j v cs hv => run_part_int 3 .i64 Try.underlying3 cs j v hv
  have he : ∀ d x y, (Op.equalIn (d + 1) 3 (.int .i64 x) (.int .i64 y)).run Try.prog w = .ok (x == y) w := fun d x y => run_equalIn_int w d 3 .i64 .i64 x y Try.underlying3
  have hf : (Try.prog.fieldsOf 77).toList.map (fun f => (f.name, f.type, f.offset)) = [("Op", 3, 0), ("A", 3, 1), ("B", 3, 2), ("Imm", 3, 3)] := by kernel_rfl
  generalize (Try.prog.fieldsOf 77).toList = fs at *
  obtain ⟨f0, f1, f2, f3, rfl⟩ := four (by have hl := congrArg List.length hf; simpa using hl)
  simp only [List.map_cons, List.map_nil, List.cons.injEq, Prod.mk.injEq, and_true] at hf
  obtain ⟨⟨n0, t0, o0⟩, ⟨n1, t1, o1⟩, ⟨n2, t2, o2⟩, ⟨n3, t3, o3⟩⟩ := hf
  simp [Op.eqFields, n0, n1, n2, n3, t0, t1, t2, t3, o0, o1, o2, o3, hi 0 (.int .i64 op) (ins op a b n) rfl, hi 1 (.int .i64 a) (ins op a b n) rfl, hi 2 (.int .i64 b) (ins op a b n) rfl, hi 3 (.int .i64 n) (ins op a b n) rfl, hi 0 (.int .i64 op') (ins op' a' b' n') rfl, hi 1 (.int .i64 a') (ins op' a' b' n') rfl, hi 2 (.int .i64 b') (ins op' a' b' n') rfl, hi 3 (.int .i64 n') (ins op' a' b' n') rfl, he 9998]
  unfold eqI
  by_cases h1 : op = op'
  · by_cases h2 : a = a'
    · by_cases h3 : b = b'
      · by_cases h4 : n = n'
        · simp [h1, h2, h3, h4]
        · simp [h1, h2, h3, h4]
      · simp [h1, h2, h3]
    · simp [h1, h2]
  · simp [h1]

theorem eqI_refl (op a b n : Int) : eqI op a b n op a b n = true := by simp [eqI]
theorem dec_form (x : Int) : ∃ p q r s, decI x = ins p q r s ∧ (decB x = true → p = x / 16777216 ∧ q = x / 1048576 % 16 ∧ r = x / 65536 % 16 ∧ s = simm x) := by
  unfold decI
  by_cases h : refB (x / 16777216) (x / 1048576 % 16) (x / 65536 % 16) (simm x) = true
  · rw [if_pos h]
    exact ⟨_, _, _, _, rfl, fun _ => ⟨rfl, rfl, rfl, rfl⟩⟩
  · rw [if_neg h]
    exact ⟨0, 0, 0, 0, rfl, fun h2 => absurd h2 h⟩
theorem enc_dec (x : Int) (h0 : 0 ≤ x) (h1 : x < 4294967296) : encN (x / 16777216) (x / 1048576 % 16) (x / 65536 % 16) (simm x) = x := by
  unfold encN simm
  split <;> omega
theorem enc_range {op a b n : Int} (h : refB op a b n = true) : 0 ≤ encN op a b n ∧ encN op a b n < 4294967296 := by
  obtain ⟨r1, r2, r3, r4, r5, r6, r7, r8⟩ := ref_ranges h
  unfold encN; omega
theorem enc_fields {op a b n : Int} (h : refB op a b n = true) : encN op a b n / 16777216 = op ∧ encN op a b n / 1048576 % 16 = a ∧ encN op a b n / 65536 % 16 = b ∧ simm (encN op a b n) = n := by
  obtain ⟨r1, r2, r3, r4, r5, r6, r7, r8⟩ := ref_ranges h
  unfold encN simm
  refine ⟨by omega, by omega, by omega, ?_⟩
  split <;> omega
theorem dec_enc {op a b n : Int} (h : refB op a b n = true) : decB (encN op a b n) = true ∧ decI (encN op a b n) = ins op a b n := by
  obtain ⟨e1, e2, e3, e4⟩ := enc_fields h
  unfold decB decI
  rw [e1, e2, e3, e4, h]
  exact ⟨rfl, if_pos rfl⟩
theorem enc_inj {op a b n op' a' b' n' : Int} (h : refB op a b n = true) (h' : refB op' a' b' n' = true) : (encN op a b n == encN op' a' b' n') = eqI op a b n op' a' b' n' := by
  rw [Bool.eq_iff_iff]
  unfold eqI
  simp only [beq_iff_eq, Bool.and_eq_true]
  constructor
  · intro he
    obtain ⟨e1, e2, e3, e4⟩ := enc_fields h
    obtain ⟨e1', e2', e3', e4'⟩ := enc_fields h'
    rw [he] at e1 e2 e3 e4
    exact ⟨e1.symm.trans e1', e2.symm.trans e2', e3.symm.trans e3', e4.symm.trans e4'⟩
  · rintro ⟨rfl, rfl, rfl, rfl⟩
    rfl
end Go.Proofs.Ytdokmnpkihmkpaa.IsaEq
