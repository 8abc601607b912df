/- Package path: Same, Equal, Under. -/
import Derived.Test.YthihpejhhimkaaaDoorPath
set_option linter.unusedVariables false
namespace Go.Proofs.YthihpejhhimkaaaDoor.Path2
open Go.RowKit Go.Proofs.YthihpejhhimkaaaDoor.Base Go.Proofs.YthihpejhhimkaaaDoor.Row Go.Proofs.YthihpejhhimkaaaDoor.App Go.Proofs.YthihpejhhimkaaaDoor.Multi Go.Proofs.YthihpejhhimkaaaDoor.StEq Go.Proofs.YthihpejhhimkaaaDoor.Held Go.Proofs.YthihpejhhimkaaaDoor.Out Go.Proofs.YthihpejhhimkaaaDoor.HeldW Go.Proofs.YthihpejhhimkaaaDoor.HeldX Go.Proofs.YthihpejhhimkaaaDoor.Dir Go.Proofs.YthihpejhhimkaaaDoor.Path

/-- A text as an element of a slice. -/
def ss (s : ByteArray) : List Value := [.string s]
theorem ss_len (s : ByteArray) : (ss s).length = 1 := rfl
theorem ss_one (s : ByteArray) : ∀ v ∈ ss s, v.oneCell' = true := by
  intro v hv
  obtain rfl := List.mem_singleton.1 hv
  rfl
/-- A slice of texts. -/
abbrev SL (w : World) (A : Option Addr) (n : Nat) (l : List ByteArray) : Prop := RF ss 1 w A n l
theorem sl_at {w : World} {A : Option Addr} {n : Nat} {l : List ByteArray} (h : SL w A n l) (i : Nat) (hi : i < n) : ∃ ad x, A = some ad ∧ l[i]? = some x ∧ w.cell? (ad.add i) = some (.string x) := by
  obtain ⟨g, o, x, e, hx, hr⟩ := h.at_ i hi
  refine ⟨⟨g, o, none⟩, x, e, hx, ?_⟩
  have := hr 0 (.string x) rfl
  rw [Addr.add_mid]
  rwa [Nat.mul_one, Nat.add_zero] at this
theorem take_eq {l m : List ByteArray} {k : Nat} {x : ByteArray} (h : l.take k = m.take k) (hx : l[k]? = some x) (hy : m[k]? = some x) : l.take (k + 1) = m.take (k + 1) := by
  rw [List.take_add_one, List.take_add_one, h, hx, hy]
theorem eq_no {l m : List ByteArray} {k : Nat} {x y : ByteArray} (hx : l[k]? = some x) (hy : m[k]? = some y) (h : ¬ x.toList = y.toList) : l ≠ m := by
  rintro rfl
  rw [hx] at hy
  injection hy with hy
  exact h (by rw [hy])
theorem eq_yes {l m : List ByteArray} {n : Nat} (hl : l.length = n) (hm : m.length = n) (h : l.take n = m.take n) : l = m := by
  rwa [List.take_of_length_le (by omega), List.take_of_length_le (by omega)] at h
theorem eq_len {l m : List ByteArray} {a b : Nat} (hl : l.length = a) (hm : m.length = b) (h : ¬ a = b) : l ≠ m := by
  rintro rfl
  omega
set_option maxRecDepth 100000 in
set_option maxHeartbeats 2000000 in
theorem same_c (A1 A2 : Option Addr) (n1 c1 n2 c2 : Nat) (l m : List ByteArray) (w : World) (h1 : SL w A1 n1 l) (h2 : SL w A2 n2 m) :
    Calls Tryd.prog 21 #[.slice A1 n1 c1, .slice A2 n2 c2] w fun r w' => r = .returned (.bool (decide (l = m))) ∧ Below w.heap.size w w' := by
  have hl := h1.len
  have hm := h2.len
  have hx := h1.max
  go_enter Tryd.func21, Tryd.ntmps21
  by_cases hn : n1 = n2
  · subst hn
    have q : ((n1 : Int) != (n1 : Int)) = false := by simp
    have H1 := Lib.hid h1
    have H2 := Lib.hid h2
    clear h1 h2
    go_wp2_with fail
    go_loopw [5] (fun i wr => ∃ k : Nat, k ≤ n1 ∧ i = .int .i64 k ∧ l.take k = m.take k ∧ Below w.heap.size w wr) (fun i _ => n1 - (intOf i).toNat)
    case atStart => exact ⟨0, by omega, rfl, rfl, bl_refl w⟩
    case round =>
      obtain ⟨k, hk, rfl, ht, HB⟩ := hrel
      have HT := Lib.hid ht
      clear ht
      by_cases hlt : k < n1
      · have q1 : decide ((k : Int) < (n1 : Int)) = true := by simp; omega
        have q2 : decide (0 ≤ (k : Int)) = true := by simp
        have q3 : (k : Int) < (n1 : Int) := by omega
        obtain ⟨ga, x, rfl, hxl, cx⟩ := sl_at (H1.out.below HB) k hlt
        obtain ⟨gb, y, rfl, hyl, cy⟩ := sl_at (H2.out.below HB) k hlt
        by_cases he : x.toList = y.toList
        · have q4 : (x.toList != y.toList) = false := by simp [he]
          have hxy : x = y := tl_ext (by rw [← toList_tl, ← toList_tl, he])
          have HN := Lib.hid (take_eq HT.out hxl (by rw [hxy]; exact hyl))
          clear hxy hxl hyl
          go_wp2_with fail
          go_quiet (fail)
          go_wp2_with fail
          go_roundw
          case rel => exact ⟨k + 1, by omega, by go_num, HN.out, bl_drewN HB _⟩
          case measure => first | (simp [intOf]; done) | (simp [intOf]; omega)
        · have q4 : (x.toList != y.toList) = true := by simpa using he
          have q5 : (x.toList == y.toList) = false := by simpa using he
          have q6 : decide (x.toList = y.toList) = false := by simpa using he
          have q7 : (!(x.toList == y.toList)) = true := by simpa using he
          have HN := Lib.hid (eq_no hxl hyl he)
          clear hxl hyl
          go_wp2_with fail
          go_quiet (fail)
          go_wp2_with fail
          go_ret
          exact ⟨ret_bool (by simpa using HN.out), bl_drewN HB _⟩
      · obtain rfl : k = n1 := by omega
        have q1 : decide ((k : Int) < (k : Int)) = false := by simp
        have HN := Lib.hid (eq_yes hl hm HT.out)
        go_wp2_with fail
        go_ret
        exact ⟨ret_bool (by simpa using HN.out), HB⟩
  · have q : ((n1 : Int) != (n2 : Int)) = true := by simp; omega
    have HN := Lib.hid (eq_len hl hm hn)
    clear h1 h2 hn
    go_wp2_with fail
    go_ret
    exact ⟨ret_bool (by simpa using HN.out), bl_refl w⟩
set_option maxRecDepth 100000 in
set_option maxHeartbeats 2000000 in
theorem equal_c (A1 A2 : Option Addr) (n1 c1 n2 c2 : Nat) (l m : List ByteArray) (w : World) (h1 : SL w A1 n1 l) (h2 : SL w A2 n2 m) :
    Calls Tryd.prog 31 #[.slice A1 n1 c1, .slice A2 n2 c2] w fun r w' => r = .returned (.bool (decide (l = m))) ∧ Below w.heap.size w w' := by
  have hl := h1.len
  have hm := h2.len
  have hx := h1.max
  go_enter Tryd.func31, Tryd.ntmps31
  by_cases hn : n1 = n2
  · subst hn
    have q : ((n1 : Int) != (n1 : Int)) = false := by simp
    have H1 := Lib.hid h1
    have H2 := Lib.hid h2
    clear h1 h2
    go_wp2_with fail
    go_loopw [13] (fun i wr => ∃ k : Nat, k ≤ n1 ∧ i = .int .i64 k ∧ l.take k = m.take k ∧ Below w.heap.size w wr) (fun i _ => n1 - (intOf i).toNat)
    case atStart => exact ⟨0, by omega, rfl, rfl, bl_refl w⟩
    case round =>
      obtain ⟨k, hk, rfl, ht, HB⟩ := hrel
      have HT := Lib.hid ht
      clear ht
      by_cases hlt : k < n1
      · have q1 : decide ((k : Int) < (n1 : Int)) = true := by simp; omega
        have q2 : decide (0 ≤ (k : Int)) = true := by simp
        have q3 : (k : Int) < (n1 : Int) := by omega
        obtain ⟨ga, x, rfl, hxl, cx⟩ := sl_at (H1.out.below HB) k hlt
        obtain ⟨gb, y, rfl, hyl, cy⟩ := sl_at (H2.out.below HB) k hlt
        by_cases he : x.toList = y.toList
        · have q4 : (x.toList != y.toList) = false := by simp [he]
          have hxy : x = y := tl_ext (by rw [← toList_tl, ← toList_tl, he])
          have HN := Lib.hid (take_eq HT.out hxl (by rw [hxy]; exact hyl))
          clear hxy hxl hyl
          go_wp2_with fail
          go_quiet (fail)
          go_wp2_with fail
          go_roundw
          case rel => exact ⟨k + 1, by omega, by go_num, HN.out, bl_drewN HB _⟩
          case measure => first | (simp [intOf]; done) | (simp [intOf]; omega)
        · have q4 : (x.toList != y.toList) = true := by simpa using he
          have q5 : (x.toList == y.toList) = false := by simpa using he
          have q6 : decide (x.toList = y.toList) = false := by simpa using he
          have q7 : (!(x.toList == y.toList)) = true := by simpa using he
          have HN := Lib.hid (eq_no hxl hyl he)
          clear hxl hyl
          go_wp2_with fail
          go_quiet (fail)
          go_wp2_with fail
          go_ret
          exact ⟨ret_bool (by simpa using HN.out), bl_drewN HB _⟩
      · obtain rfl : k = n1 := by omega
        have q1 : decide ((k : Int) < (k : Int)) = false := by simp
        have HN := Lib.hid (eq_yes hl hm HT.out)
        go_wp2_with fail
        go_ret
        exact ⟨ret_bool (by simpa using HN.out), HB⟩
  · have q : ((n1 : Int) != (n2 : Int)) = true := by simp; omega
    have HN := Lib.hid (eq_len hl hm hn)
    clear h1 h2 hn
    go_wp2_with fail
    go_ret
    exact ⟨ret_bool (by simpa using HN.out), bl_refl w⟩
/-- Does a path lie under another one? -/
def underB (l m : List ByteArray) : Bool := decide (m.length ≤ l.length) && decide (l.take m.length = m)
set_option maxRecDepth 100000 in
set_option maxHeartbeats 2000000 in
theorem under_c (A1 A2 : Option Addr) (n1 c1 n2 c2 : Nat) (l m : List ByteArray) (w : World) (h1 : SL w A1 n1 l) (h2 : SL w A2 n2 m) (hc : n1 ≤ c1) :
    Calls Tryd.prog 22 #[.slice A1 n1 c1, .slice A2 n2 c2] w fun r w' => r = .returned (.bool (underB l m)) ∧ Below w.heap.size w w' := by
  have hl := h1.len
  have hm := h2.len
  have hx := h1.max
  have hy := h2.max
  go_enter Tryd.func22, Tryd.ntmps22
  by_cases hn : n2 ≤ n1
  · have q : decide ((n2 : Int) ≤ (n1 : Int)) = true := by simp; omega
    have q2 : decide (n2 ≤ c1) = true := by simp; omega
    have q3 : (n2 : Int) ≤ (c1 : Int) := by omega
    have q4 : n2 ≤ c1 := by omega
    have HE := Lib.hid (equal_c A1 A2 n2 c1 n2 c2 (l.take n2) m w (h1.take n2 hn) h2)
    have hu : Hid (underB l m = decide (l.take n2 = m)) := Lib.hid (by unfold underB; rw [hl, hm]; simp [hn])
    clear h1 h2
    go_wp2_with (first
      | (go_at_call 31; refine (HE.out).mono ?_; rintro e w1 ⟨rfl, HB⟩))
    go_ret
    exact ⟨ret_bool hu.out.symm, HB⟩
  · have q : decide ((n2 : Int) ≤ (n1 : Int)) = false := by simp; omega
    have hu : Hid (underB l m = false) := Lib.hid (by unfold underB; rw [hl, hm]; simp [hn])
    clear h1 h2
    go_wp2_with fail
    go_ret
    exact ⟨ret_bool hu.out.symm, bl_refl w⟩
end Go.Proofs.YthihpejhhimkaaaDoor.Path2
