/- Renaming of calls: plain; the closures; '==' of calls. -/
import Derived.Test.YteokofkdfeglnaaAbi5
import Derived.Test.YteokofkdfeglnaaHeld
import Derived.StillTailTactics
set_option linter.unusedVariables false
namespace Go.Proofs.Yteokofkdfeglnaa.Abi8
open Go.RowKit Go.Proofs.Yteokofkdfeglnaa.Base Go.Proofs.Yteokofkdfeglnaa.Row Go.Proofs.Yteokofkdfeglnaa.App Go.Proofs.Yteokofkdfeglnaa.Multi Go.Proofs.Yteokofkdfeglnaa.Abi Go.Proofs.Yteokofkdfeglnaa.Abi2 Go.Proofs.Yteokofkdfeglnaa.Abi3 Go.Proofs.Yteokofkdfeglnaa.Abi4 Go.Proofs.Yteokofkdfeglnaa.StEq Go.Proofs.Yteokofkdfeglnaa.Held Go.Proofs.Yteokofkdfeglnaa.Abi5

/-- A call's cells, its numbers in a list. -/
def cl (op : Int) (ns ws rs : List Int) (pc : Int) : Array Value := (Value.int .i64 op :: (nums .i64 ns ++ (nums .u32 ws ++ (nums .u32 rs ++ [Value.int .u32 pc])))).toArray
theorem cl_ca (op n0 n1 n2 n3 : Int) (ws rs : List Int) (pc : Int) : ca op n0 n1 n2 n3 ws rs pc = cl op [n0, n1, n2, n3] ws rs pc := rfl
theorem cl_size (op : Int) (ns ws rs : List Int) (pc : Int) (hn : ns.length = 4) (hw : ws.length = 16) (hr : rs.length = 16) : (cl op ns ws rs pc).size = 38 := by
  simp [cl, nums_length, hn, hw, hr]
theorem sz_cl (op : Int) (ns ws rs : List Int) (pc : Int) (hn : ns.length = 4) (hw : ws.length = 16) (hr : rs.length = 16) : (Try.prog.info? 29).map (·.size) = some (cl op ns ws rs pc).size := by rw [cl_size _ _ _ _ _ hn hw hr]; kernel_rfl
theorem cl_one (op : Int) (ns ws rs : List Int) (pc : Int) : ∀ v ∈ cl op ns ws rs pc, v.oneCell' = true := by
  intro v hv
  rw [cl, List.mem_toArray] at hv
  rcases List.mem_cons.1 hv with rfl | hv
  · rfl
  rcases List.mem_append.1 hv with hv | hv
  · exact nums_one _ _ v hv
  rcases List.mem_append.1 hv with hv | hv
  · exact nums_one _ _ v hv
  rcases List.mem_append.1 hv with hv | hv
  · exact nums_one _ _ v hv
  · rw [List.mem_singleton] at hv
    subst hv; rfl
theorem cl_get (op : Int) (ns ws rs : List Int) (pc : Int) (i : Nat) (h : i < ns.length) : (cl op ns ws rs pc)[1 + i]? = some (.int .i64 (ns[i]?.getD 0)) := by
  rw [cl, List.getElem?_toArray, Nat.add_comm, List.getElem?_cons_succ, List.getElem?_append_left (by rw [nums_length]; exact h)]
  simp [nums, List.getElem?_eq_getElem h]
theorem cl_set (op : Int) (ns ws rs : List Int) (pc : Int) (i : Nat) (v : Int) (h : i < ns.length) : (cl op ns ws rs pc).setIfInBounds (1 + i) (.int .i64 v) = cl op (ns.set i v) ws rs pc := by
  rw [cl, cl, List.setIfInBounds_toArray, Nat.add_comm, List.set_cons_succ, List.set_append_left _ _ (by rw [nums_length]; exact h)]
  simp only [nums, List.map_set]
def z4 : List Int := [0, 0, 0, 0]
theorem new_call : (Try.prog.info? 29).map (fun i => i.zero.map (·.cells)) = some (some (cl 0 z4 z16 z16 0)) := by kernel_rfl
theorem zero_call : Try.prog.built 29 [] = some (cl 0 z4 z16 z16 0) := by kernel_rfl

/-! ### the renaming -/
abbrev Fn2 := Int → Int → Int × Bool
def stp (f : Fn2) (a : List Int × Bool) (x : Int × Int) : List Int × Bool := (a.1.set x.1.toNat (f x.2 (a.1[x.1.toNat]?.getD 0)).1, a.2 && (f x.2 (a.1[x.1.toNat]?.getD 0)).2)
def run (f : Fn2) (l : List (Int × Int)) (ns : List Int) : List Int × Bool := l.foldl (stp f) (ns, true)
theorem run_zero (f : Fn2) (l : List (Int × Int)) (ns : List Int) : run f (l.take 0) ns = (ns, true) := by simp [run]
theorem run_succ {f : Fn2} {l : List (Int × Int)} {ns : List Int} {k : Nat} {x : Int × Int} (hx : l[k]? = some x) : run f (l.take (k + 1)) ns = stp f (run f (l.take k) ns) x := by
  obtain ⟨hl, rfl⟩ := List.getElem?_eq_some_iff.1 hx
  unfold run
  rw [List.take_succ_eq_append_getElem hl, List.foldl_append]; rfl
theorem stp_len (f : Fn2) (a : List Int × Bool) (x : Int × Int) : (stp f a x).1.length = a.1.length := by simp [stp]
theorem fold_len (f : Fn2) : ∀ (l : List (Int × Int)) (a : List Int × Bool), (l.foldl (stp f) a).1.length = a.1.length
  | [], a => rfl
  | x :: l, a => by rw [List.foldl_cons, fold_len f l, stp_len]
theorem fold_false (f : Fn2) : ∀ (l : List (Int × Int)) (a : List Int × Bool), a.2 = false → (l.foldl (stp f) a).2 = false
  | [], a, h => h
  | x :: l, a, h => by rw [List.foldl_cons]; exact fold_false f l _ (by simp [stp, h])
theorem run_len (f : Fn2) (l : List (Int × Int)) (ns : List Int) : (run f l ns).1.length = ns.length := fold_len f l _
theorem run_false {f : Fn2} {l : List (Int × Int)} {ns : List Int} {k : Nat} (h : (run f (l.take k) ns).2 = false) : (run f l ns).2 = false := by
  unfold run at *
  rw [← List.take_append_drop k l, List.foldl_append]
  exact fold_false f _ _ h
/-- By the places of a text. -/
def rn (f : Fn2) (s : ByteArray) (ns : List Int) : Nat → List Int
  | 0 => ns
  | k + 1 => if 0 ≤ lk (s.data[k]?.getD 0) then (rn f s ns k).set k (f (lk (s.data[k]?.getD 0)) (ns[k]?.getD 0)).1 else rn f s ns k
def ok (f : Fn2) (s : ByteArray) (ns : List Int) : Nat → Bool
  | 0 => true
  | k + 1 => if 0 ≤ lk (s.data[k]?.getD 0) then ok f s ns k && (f (lk (s.data[k]?.getD 0)) (ns[k]?.getD 0)).2 else ok f s ns k
theorem rn_yes {f : Fn2} {s : ByteArray} {ns : List Int} {k : Nat} (h : 0 ≤ lk (s.data[k]?.getD 0)) : rn f s ns (k + 1) = (rn f s ns k).set k (f (lk (s.data[k]?.getD 0)) (ns[k]?.getD 0)).1 := by simp [rn, h]
theorem rn_no {f : Fn2} {s : ByteArray} {ns : List Int} {k : Nat} (h : ¬ 0 ≤ lk (s.data[k]?.getD 0)) : rn f s ns (k + 1) = rn f s ns k := by simp [rn, h]
theorem ok_yes {f : Fn2} {s : ByteArray} {ns : List Int} {k : Nat} (h : 0 ≤ lk (s.data[k]?.getD 0)) : ok f s ns (k + 1) = (ok f s ns k && (f (lk (s.data[k]?.getD 0)) (ns[k]?.getD 0)).2) := by simp [ok, h]
theorem ok_no {f : Fn2} {s : ByteArray} {ns : List Int} {k : Nat} (h : ¬ 0 ≤ lk (s.data[k]?.getD 0)) : ok f s ns (k + 1) = ok f s ns k := by simp [ok, h]
theorem rn_len (f : Fn2) (s : ByteArray) (ns : List Int) : ∀ k, (rn f s ns k).length = ns.length
  | 0 => rfl
  | k + 1 => by
    unfold rn
    split
    · rw [List.length_set, rn_len f s ns k]
    · exact rn_len f s ns k
theorem rn_above (f : Fn2) (s : ByteArray) (ns : List Int) : ∀ k j, k ≤ j → (rn f s ns k)[j]? = ns[j]?
  | 0, j, _ => rfl
  | k + 1, j, h => by
    unfold rn
    split
    · rw [List.getElem?_set_ne (by omega), rn_above f s ns k j (by omega)]
    · exact rn_above f s ns k j (by omega)
theorem run_nm (f : Fn2) (s : ByteArray) (ns : List Int) : ∀ k, run f (nm s k) ns = (rn f s ns k, ok f s ns k)
  | 0 => rfl
  | k + 1 => by
    by_cases h : 0 ≤ lk (s.data[k]?.getD 0)
    · rw [nm_yes h, rn_yes h, ok_yes h]
      have ih := run_nm f s ns k
      unfold run at ih ⊢
      rw [List.foldl_append, ih]
      simp only [List.foldl_cons, List.foldl_nil, stp, Int.toNat_natCast, rn_above f s ns k k (Nat.le_refl _)]
    · rw [nm_no h, rn_no h, ok_no h]
      exact run_nm f s ns k
theorem nm_mem {s : ByteArray} : ∀ {k : Nat} {x : Int × Int}, x ∈ nm s k → ∃ j : Nat, j < k ∧ x.1 = j
  | 0, x, h => by simp [nm] at h
  | k + 1, x, h => by
    unfold nm at h
    split at h
    · rcases List.mem_append.1 h with h | h
      · obtain ⟨j, h1, h2⟩ := nm_mem h
        exact ⟨j, by omega, h2⟩
      · rw [List.mem_singleton] at h
        subst h
        exact ⟨k, by omega, rfl⟩
    · obtain ⟨j, h1, h2⟩ := nm_mem h
      exact ⟨j, by omega, h2⟩
/-- What means itself stays. -/
def same : Fn2 := fun _ n => (n, true)
theorem rn_same (s : ByteArray) (ns : List Int) : ∀ k, k ≤ ns.length → rn same s ns k = ns ∧ ok same s ns k = true
  | 0, _ => ⟨rfl, rfl⟩
  | k + 1, h => by
    obtain ⟨h1, h2⟩ := rn_same s ns k (by omega)
    by_cases hl : 0 ≤ lk (s.data[k]?.getD 0)
    · rw [rn_yes hl, ok_yes hl, h1, h2]
      refine ⟨?_, rfl⟩
      apply List.ext_getElem?
      intro j
      by_cases hj : k = j
      · subst hj
        rw [List.getElem?_set_self (by omega)]
        simp [same, List.getElem?_eq_getElem (show k < ns.length by omega)]
      · rw [List.getElem?_set_ne hj]
    · rw [rn_no hl, ok_no hl]
      exact ⟨h1, h2⟩
/-- Holes. -/
def ho (s : ByteArray) (ns : List Int) (hole : Int) : Nat → Bool
  | 0 => false
  | k + 1 => if 0 ≤ lk (s.data[k]?.getD 0) then ho s ns hole k || (ns[k]?.getD 0 == hole) else ho s ns hole k
theorem ho_yes {s : ByteArray} {ns : List Int} {hole : Int} {k : Nat} (h : 0 ≤ lk (s.data[k]?.getD 0)) : ho s ns hole (k + 1) = (ho s ns hole k || (ns[k]?.getD 0 == hole)) := by simp [ho, h]
theorem ho_no {s : ByteArray} {ns : List Int} {hole : Int} {k : Nat} (h : ¬ 0 ≤ lk (s.data[k]?.getD 0)) : ho s ns hole (k + 1) = ho s ns hole k := by simp [ho, h]
theorem ok_ho (f : Fn2) (hole : Int) (hf : ∀ k n, (f k n).2 = (n != hole)) (s : ByteArray) (ns : List Int) : ∀ k, ok f s ns k = !ho s ns hole k
  | 0 => rfl
  | k + 1 => by
    by_cases h : 0 ≤ lk (s.data[k]?.getD 0)
    · rw [ok_yes h, ho_yes h, ok_ho f hole hf s ns k, hf]
      simp [bne]
    · rw [ok_no h, ho_no h]
      exact ok_ho f hole hf s ns k

/-! ### the closures -/
def mean (by_ hole : Int) : Fn2 := fun k n => (bits .and .i64 (wrap64 (wrap64 (bits .and .i64 n 511 + by_) + wrap64 (7 * k))) 511, n != hole)
set_option maxRecDepth 100000 in
theorem mean_c (by_ hole k n : Int) (b1 b2 : Nat) (w : World) (h1 : w.cell? ⟨b1, 0, none⟩ = some (.int .i64 by_)) (h2 : w.cell? ⟨b2, 0, none⟩ = some (.int .i64 hole)) :
    Calls Try.prog 21 #[.int .i64 k, .int .i64 n, .pointer (some ⟨b1, 0, none⟩), .pointer (some ⟨b2, 0, none⟩)] w fun r w' => r = .returned (.tuple #[.int .i64 (mean by_ hole k n).1, .bool (mean by_ hole k n).2]) ∧ ∃ m, w' = w.drewN m := by
  go_enter Try.func21, Try.ntmps21
  go_wp2_with fail
  go_quiet (fail)
  go_wp2_with fail
  go_ret2
  exact ⟨rfl, _, rfl⟩
set_option maxRecDepth 100000 in
theorem same_c (k n : Int) (w : World) :
    Calls Try.prog 22 #[.int .i64 k, .int .i64 n] w fun r w' => r = .returned (.tuple #[.int .i64 (same k n).1, .bool (same k n).2]) ∧ ∃ m, w' = w.drewN m := by
  go_enter Try.func22, Try.ntmps22
  go_wp2_with fail
  go_ret2
  exact ⟨rfl, 0, rfl⟩

/-! ### equality of calls -/
theorem eq_four (d : Nat) (xs ys : List Int) (hx : xs.length = 4) (hy : ys.length = 4) (w : World) :
    (Op.equalIn (d + 2) 22 (.agg (nums .i64 xs).toArray) (.agg (nums .i64 ys).toArray)).run Try.prog w = .ok (xs == ys) w := by
  obtain ⟨i0, hi, _, hz1, _⟩ := info_parts (show (Try.prog.info? 3).map (fun i => (i.zero, i.size, i.bytes)) = some (some (.int .i64 0), 1, 8) by kernel_rfl)
  exact run_eq_ints d 22 4 3 .i64 i0 Try.underlying22 Try.underlying3 hi hz1 xs ys hx hy
theorem cl_parts (op : Int) (ns ws rs : List Int) (pc : Int) (hn : ns.length = 4) (hw : ws.length = 16) (hr : rs.length = 16) (w : World) :
    (part 3 (cl op ns ws rs pc) 0).run Try.prog w = .ok (.int .i64 op) w ∧ (part 22 (cl op ns ws rs pc) 1).run Try.prog w = .ok (.agg (nums .i64 ns).toArray) w ∧ (part 25 (cl op ns ws rs pc) 5).run Try.prog w = .ok (.agg (nums .u32 ws).toArray) w ∧ (part 27 (cl op ns ws rs pc) 21).run Try.prog w = .ok (.agg (cxL rs pc).toArray) w := by
  refine ⟨run_part_int 3 .i64 Try.underlying3 _ 0 _ (by simp [cl]), ?_, ?_, ?_⟩
  · refine run_part_row 22 (.inl ⟨4, 3, Try.underlying22⟩) 4 (by kernel_rfl) _ 1 _ ?_
    simp [cl, nums_length, hn]
  · refine run_part_row 25 (.inl ⟨16, 23, Try.underlying25⟩) 16 (by kernel_rfl) _ 5 _ ?_
    simp [cl, nums_length, hn, hw]
  · refine run_part_row 27 (.inr ⟨_, Try.underlying27⟩) 17 (by kernel_rfl) _ 21 _ ?_
    simp [cl, cxL, nums_length, hn, hw, hr, List.drop_append, List.take_append]
    rw [List.drop_of_length_le (by rw [nums_length, hn]; omega), List.take_nil, List.nil_append, List.take_of_length_le (by rw [nums_length, hr]; omega)]
theorem eq_call (op op' : Int) (ns ns' ws ws' rs rs' : List Int) (pc pc' : Int) (hn : ns.length = 4) (hw : ws.length = 16) (hr : rs.length = 16) (hn' : ns'.length = 4) (hw' : ws'.length = 16) (hr' : rs'.length = 16) (w : World) :
    (Op.equalIn 10000 29 (.agg (cl op ns ws rs pc)) (.agg (cl op' ns' ws' rs' pc'))).run Try.prog w = .ok (op == op' && (ns == ns' && (ws == ws' && (rs == rs' && pc == pc')))) w := by
  obtain ⟨a0, a1, a2, a3⟩ := cl_parts op ns ws rs pc hn hw hr w
  obtain ⟨b0, b1, b2, b3⟩ := cl_parts op' ns' ws' rs' pc' hn' hw' hr' w
  have e0 : (Op.equalIn 9999 3 (.int .i64 op) (.int .i64 op')).run Try.prog w = .ok (op == op') w := run_equalIn_int w 9998 3 .i64 .i64 op op' Try.underlying3
  have e1 := eq_four 9997 ns ns' hn hn' w
  have e2 := eq_rows 25 9997 Try.underlying25 ws ws' hw hw' w
  have e3 := eq_cx 9996 rs rs' pc pc' hr hr' w
  have := eq_struct (P := Try.prog) (w := w) 9999 29 (cl op ns ws rs pc) (cl op' ns' ws' rs' pc') (by kernel_rfl) (by kernel_rfl) [(3, 0), (22, 1), (25, 5), (27, 21)] (by kernel_rfl)
    (fun x => if x.2 = 0 then op == op' else if x.2 = 1 then ns == ns' else if x.2 = 5 then ws == ws' else (rs == rs' && pc == pc')) (fun x hx' => by
      simp only [List.mem_cons, List.not_mem_nil, or_false] at hx'
      rcases hx' with rfl | rfl | rfl | rfl
      · exact ⟨_, _, a0, b0, e0⟩
      · exact ⟨_, _, a1, b1, e1⟩
      · exact ⟨_, _, a2, b2, e2⟩
      · exact ⟨_, _, a3, b3, e3⟩)
  rw [this]
  simp
end Go.Proofs.Yteokofkdfeglnaa.Abi8
