/- Contracts of package abi: which calls may be. -/
import Derived.Test.YteokofkdfeglnaaAbi4
import Derived.Test.YteokofkdfeglnaaStEq
set_option linter.unusedVariables false
namespace Go.Proofs.Yteokofkdfeglnaa.Abi5
open Go.RowKit Go.Proofs.Yteokofkdfeglnaa.Base Go.Proofs.Yteokofkdfeglnaa.Row Go.Proofs.Yteokofkdfeglnaa.App Go.Proofs.Yteokofkdfeglnaa.Multi Go.Proofs.Yteokofkdfeglnaa.Abi Go.Proofs.Yteokofkdfeglnaa.Abi2 Go.Proofs.Yteokofkdfeglnaa.Abi3 Go.Proofs.Yteokofkdfeglnaa.Abi4 Go.Proofs.Yteokofkdfeglnaa.StEq

/-- A call's cells. -/
def ca (op n0 n1 n2 n3 : Int) (ws rs : List Int) (pc : Int) : Array Value := ([Value.int .i64 op, Value.int .i64 n0, Value.int .i64 n1, Value.int .i64 n2, Value.int .i64 n3] ++ (nums .u32 ws ++ (nums .u32 rs ++ [Value.int .u32 pc]))).toArray
def cxL (rs : List Int) (pc : Int) : List Value := nums .u32 rs ++ [Value.int .u32 pc]
theorem ca_ws (op n0 n1 n2 n3 : Int) (ws rs : List Int) (pc : Int) : ∀ j v, (nums .u32 ws)[j]? = some v → (ca op n0 n1 n2 n3 ws rs pc)[5 + j]? = some v := by
  intro j v h
  unfold ca
  rw [List.getElem?_toArray, List.getElem?_append_right (by simp), List.getElem?_append_left (by
    have := (List.getElem?_eq_some_iff.1 h).1
    simpa using this)]
  simpa using h
theorem ca_cx (op n0 n1 n2 n3 : Int) (ws rs : List Int) (pc : Int) (hw : ws.length = 16) : ∀ j v, (cxL rs pc)[j]? = some v → (ca op n0 n1 n2 n3 ws rs pc)[21 + j]? = some v := by
  intro j v h
  unfold ca
  rw [List.getElem?_toArray, List.getElem?_append_right (by simp; omega), List.getElem?_append_right (by simp [nums_length, hw]; omega)]
  rw [show 21 + j - [Value.int .i64 op, .int .i64 n0, .int .i64 n1, .int .i64 n2, .int .i64 n3].length - (nums .u32 ws).length = j by rw [nums_length, hw]; simp; omega]
  exact h
theorem ca_size (op n0 n1 n2 n3 : Int) (ws rs : List Int) (pc : Int) (hw : ws.length = 16) (hr : rs.length = 16) : (ca op n0 n1 n2 n3 ws rs pc).size = 38 := by
  simp [ca, nums_length, hw, hr]

def zW : Array Value := #[.int .u32 0, .int .u32 0, .int .u32 0, .int .u32 0, .int .u32 0, .int .u32 0, .int .u32 0, .int .u32 0, .int .u32 0, .int .u32 0, .int .u32 0, .int .u32 0, .int .u32 0, .int .u32 0, .int .u32 0, .int .u32 0]
def zX : Array Value := #[.int .u32 0, .int .u32 0, .int .u32 0, .int .u32 0, .int .u32 0, .int .u32 0, .int .u32 0, .int .u32 0, .int .u32 0, .int .u32 0, .int .u32 0, .int .u32 0, .int .u32 0, .int .u32 0, .int .u32 0, .int .u32 0, .int .u32 0]
theorem eq_rows (t : TypeId) (d : Nat) (ht : Try.prog.underlying t = some (.array 16 23)) (xs ys : List Int) (hx : xs.length = 16) (hy : ys.length = 16) (w : World) :
    (Op.equalIn (d + 2) t (.agg (nums .u32 xs).toArray) (.agg (nums .u32 ys).toArray)).run Try.prog w = .ok (xs == ys) w := by
  obtain ⟨i0, hi, _, hz1, _⟩ := info_parts (show (Try.prog.info? 23).map (fun i => (i.zero, i.size, i.bytes)) = some (some (.int .u32 0), 1, 4) by kernel_rfl)
  exact run_eq_ints d t 16 23 .u32 i0 ht Try.underlying23 hi hz1 xs ys hx hy
theorem eq_ws (ws : List Int) (hw : ws.length = 16) (w : World) : (Op.equalIn 10000 25 (.agg (nums .u32 ws).toArray) (.agg zW)).run Try.prog w = .ok (ws == z16) w :=
  eq_rows _ 9998 Try.underlying25 ws z16 hw rfl w
theorem eq_cx (d : Nat) (rs rs' : List Int) (pc pc' : Int) (hr : rs.length = 16) (hr' : rs'.length = 16) (w : World) : (Op.equalIn (d + 3) 27 (.agg (cxL rs pc).toArray) (.agg (cxL rs' pc').toArray)).run Try.prog w = .ok (rs == rs' && pc == pc') w := by
  have hE := eq_rows 24 d Try.underlying24 rs rs' hr hr' w
  have he : (Op.equalIn (d + 2) 23 (.int .u32 pc) (.int .u32 pc')).run Try.prog w = .ok (pc == pc') w := run_equalIn_int w (d + 1) 23 .u32 .u32 pc pc' Try.underlying23
  have hx : ∀ (rs : List Int) (pc : Int), rs.length = 16 → (part 24 (cxL rs pc).toArray 0).run Try.prog w = .ok (.agg (nums .u32 rs).toArray) w ∧ (part 23 (cxL rs pc).toArray 16).run Try.prog w = .ok (.int .u32 pc) w := by
    intro rs pc h
    constructor
    · refine run_part_row 24 (.inl ⟨16, 23, Try.underlying24⟩) 16 (by kernel_rfl) _ 0 _ ?_
      simp [cxL, nums_length, h]
    · refine run_part_int 23 .u32 Try.underlying23 _ 16 _ ?_
      simp [cxL, nums_length, h]
  have := eq_struct (P := Try.prog) (w := w) (d + 2) 27 (cxL rs pc).toArray (cxL rs' pc').toArray (by kernel_rfl) (by kernel_rfl) [(24, 0), (23, 16)] (by kernel_rfl)
    (fun x => if x.2 = 0 then rs == rs' else pc == pc') (fun x hx' => by
      simp only [List.mem_cons, List.not_mem_nil, or_false] at hx'
      rcases hx' with rfl | rfl
      · exact ⟨_, _, (hx rs pc hr).1, (hx rs' pc' hr').1, hE⟩
      · exact ⟨_, _, (hx rs pc hr).2, (hx rs' pc' hr').2, he⟩)
  rw [this]
  simp

theorem eq_cxT (rs rs' : List Int) (pc pc' : Int) (hr : rs.length = 16) (hr' : rs'.length = 16) (w : World) : (Op.equalIn 10000 27 (.agg (cxL rs pc).toArray) (.agg (cxL rs' pc').toArray)).run Try.prog w = .ok (rs == rs' && pc == pc') w := eq_cx 9997 rs rs' pc pc' hr hr' w
/-- A number that may not be at its place. -/
def badn (s : ByteArray) (k : Nat) (n : Int) : Bool :=
  if k < s.size then decide (n < 0) || decide (mo ((s.data[k]?.getD 0).toNat : Nat) < n) || (decide (((s.data[k]?.getD 0).toNat : Int) = 117) && decide (n = 0)) else decide (n ≠ 0)
def okc (s : ByteArray) (op n0 n1 n2 n3 : Int) (ws rs : List Int) (pc : Int) : Bool :=
  Kn s && (!badn s 0 n0 && (!badn s 1 n1 && (!badn s 2 n2 && (!badn s 3 n3 && ((op == 4 || op == 22 || ws == z16) && (op == 17 || (rs == z16 && pc == 0)))))))
def nth (n0 n1 n2 n3 : Int) (k : Nat) : Int := [n0, n1, n2, n3][k]?.getD 0
theorem okc_bad {s : ByteArray} {op n0 n1 n2 n3 : Int} {ws rs : List Int} {pc : Int} {k : Nat} (hk : k < 4) (h : badn s k (nth n0 n1 n2 n3 k) = true) : okc s op n0 n1 n2 n3 ws rs pc = false := by
  unfold okc
  match k, hk with
  | 0, _ => rw [show badn s 0 n0 = true from h]; simp
  | 1, _ => rw [show badn s 1 n1 = true from h]; simp
  | 2, _ => rw [show badn s 2 n2 = true from h]; simp
  | 3, _ => rw [show badn s 3 n3 = true from h]; simp
theorem okc_end {s : ByteArray} {op n0 n1 n2 n3 : Int} {ws rs : List Int} {pc : Int} (hK : Kn s = true) (h : ∀ k, k < 4 → badn s k (nth n0 n1 n2 n3 k) = false) : okc s op n0 n1 n2 n3 ws rs pc = ((op == 4 || op == 22 || ws == z16) && (op == 17 || (rs == z16 && pc == 0))) := by
  unfold okc
  rw [hK, show badn s 0 n0 = false from h 0 (by omega), show badn s 1 n1 = false from h 1 (by omega), show badn s 2 n2 = false from h 2 (by omega), show badn s 3 n3 = false from h 3 (by omega)]
  simp
theorem okc_kn {s : ByteArray} {op n0 n1 n2 n3 : Int} {ws rs : List Int} {pc : Int} (hK : Kn s = false) : okc s op n0 n1 n2 n3 ws rs pc = false := by
  unfold okc
  rw [hK]
  simp

/-! ### the number that a letter allows -/
def ft (c n : Int) : Bool :=
  if n < 0 then false else if c = 97 then decide (n < 16) else if c = 103 then decide (n < 32) else if c = 119 then decide (n < 4294967296) else if c = 116 then decide (n < 2) else if c = 117 then decide (0 < n) && decide (n ≤ 4096) else if c = 107 then decide (n < 4) else if c = 102 ∨ c = 98 ∨ c = 115 ∨ c = 112 ∨ c = 110 then decide (n < 512) else false
def letters : List Int := [102, 98, 115, 112, 110, 97, 103, 119, 116, 117, 107]
theorem letters_or {c : Int} (h : c ∈ letters) : c = 102 ∨ c = 98 ∨ c = 115 ∨ c = 112 ∨ c = 110 ∨ c = 97 ∨ c = 103 ∨ c = 119 ∨ c = 116 ∨ c = 117 ∨ c = 107 := by
  simpa [letters] using h
theorem F_letters (op : Int) (hK : Kn (F op) = true) (k : Nat) (hk : k < (F op).size) : ((((F op).data[k]?.getD 0).toNat : Nat) : Int) ∈ letters := by
  have h : ∀ k : Fin 41, Kn (F ((k.1 : Nat) : Int)) = true → ∀ j : Fin 4, j.1 < (F ((k.1 : Nat) : Int)).size → ((((F ((k.1 : Nat) : Int)).data[j.1]?.getD 0).toNat : Nat) : Int) ∈ letters := by decide +kernel
  have hs := (F_nice op).1
  by_cases ho : op < 1 ∨ 40 < op
  · rw [kn_out op ho] at hK; cases hK
  · have e : ((op.toNat : Nat) : Int) = op := by omega
    have := h ⟨op.toNat, by omega⟩ (by rw [e]; exact hK) ⟨k, by omega⟩
    rw [e] at this
    exact this hk
theorem ft_bad {c : Int} (hc : c ∈ letters) (n : Int) : (decide (n < 0) || decide (mo c < n) || (decide (c = 117) && decide (n = 0))) = !ft c n := by
  rcases letters_or hc with rfl | rfl | rfl | rfl | rfl | rfl | rfl | rfl | rfl | rfl | rfl <;>
  · simp only [ft, mo]
    rw [Bool.eq_iff_iff]
    by_cases h : n < 0
    · simp [h]
    · simp [h]
      try omega
set_option maxRecDepth 100000 in
set_option maxHeartbeats 2000000 in
theorem fits_c (c n : Int) (hc : c ∈ letters) (w : World) : Calls Try.prog 34 #[.int .u8 c, .int .i64 n] w fun r w' => r = .returned (.bool (ft c n)) ∧ w = w' := by
  by_cases h : n < 0
  · have q : decide (n < 0) = true := by simpa using h
    have e : Hid (ft c n = false) := Lib.hid (by simp [ft, h])
    rw [e.out]
    clear h hc
    go_enter Try.func34, Try.ntmps34
    go_wp2
    go_ret
    exact ⟨rfl, rfl⟩
  · have q : decide (n < 0) = false := by simpa using h
    have hh := Lib.hid h
    clear h
    rcases letters_or hc with rfl | rfl | rfl | rfl | rfl | rfl | rfl | rfl | rfl | rfl | rfl
    case inr.inr.inr.inr.inr.inr.inr.inr.inr.inl =>
      by_cases h0 : 0 < n
      · have q1 : decide (0 < n) = true := by simpa using h0
        have e : Hid (ft 117 n = decide (n ≤ 4096)) := Lib.hid (by simp [ft, hh.out, h0])
        rw [e.out]
        clear h0 hc
        go_enter Try.func34, Try.ntmps34
        go_wp2
        go_ret
        exact ⟨rfl, rfl⟩
      · have q1 : decide (0 < n) = false := by simpa using h0
        have e : Hid (ft 117 n = false) := Lib.hid (by simp [ft, hh.out, h0])
        rw [e.out]
        clear h0 hc
        go_enter Try.func34, Try.ntmps34
        go_wp2
        go_ret
        exact ⟨rfl, rfl⟩
    all_goals (
      first | (rw [show ft 102 n = decide (n < 512) by simp [ft, hh.out]]) | (rw [show ft 98 n = decide (n < 512) by simp [ft, hh.out]]) | (rw [show ft 115 n = decide (n < 512) by simp [ft, hh.out]]) | (rw [show ft 112 n = decide (n < 512) by simp [ft, hh.out]]) | (rw [show ft 110 n = decide (n < 512) by simp [ft, hh.out]]) | (rw [show ft 97 n = decide (n < 16) by simp [ft, hh.out]]) | (rw [show ft 103 n = decide (n < 32) by simp [ft, hh.out]]) | (rw [show ft 119 n = decide (n < 4294967296) by simp [ft, hh.out]]) | (rw [show ft 116 n = decide (n < 2) by simp [ft, hh.out]]) | (rw [show ft 107 n = decide (n < 4) by simp [ft, hh.out]])
      clear hc
      go_enter Try.func34, Try.ntmps34
      go_wp2
      go_ret
      exact ⟨rfl, rfl⟩)
end Go.Proofs.Yteokofkdfeglnaa.Abi5
