/- Contracts of package dir and its reference: names. -/
import Derived.Test.YthihpejhhimkaaaDoorHeldX
import Derived.Test.YthihpejhhimkaaaDoorProg
set_option linter.unusedVariables false
namespace Go.Proofs.YthihpejhhimkaaaDoor.Dir
open Go.RowKit Go.Proofs.YthihpejhhimkaaaDoor.Base Go.Proofs.YthihpejhhimkaaaDoor.Row Go.Proofs.YthihpejhhimkaaaDoor.App Go.Proofs.YthihpejhhimkaaaDoor.Multi Go.Proofs.YthihpejhhimkaaaDoor.StEq Go.Proofs.YthihpejhhimkaaaDoor.Held Go.Proofs.YthihpejhhimkaaaDoor.Out Go.Proofs.YthihpejhhimkaaaDoor.HeldW Go.Proofs.YthihpejhhimkaaaDoor.HeldX

/-- A byte that a name may have. -/
def okc (c : UInt8) : Bool := !(decide ((c.toNat : Int) ≤ 32) || (decide (126 < (c.toNat : Int)) || (c.toNat : Int) == 47))
/-- Whether a text may be a name, of its length and its bytes. -/
def nameB (s : ByteArray) : Bool := !(s.toList.isEmpty || (decide (14 < (s.size : Int)) || (s.toList == [46] || s.toList == [46, 46]))) && s.data.toList.all okc
theorem all_take {l : List UInt8} {k : Nat} {c : UInt8} (h : (l.take k).all okc = true) (hc : l[k]? = some c) (ho : okc c = true) : (l.take (k + 1)).all okc = true := by
  obtain ⟨hl, rfl⟩ := List.getElem?_eq_some_iff.1 hc
  rw [List.take_succ_eq_append_getElem hl, List.all_append, h]
  simp [ho]
theorem not_all {l : List UInt8} {k : Nat} {c : UInt8} (hc : l[k]? = some c) (ho : okc c = false) : l.all okc = false := by
  rw [Bool.eq_false_iff]
  intro h
  rw [List.all_eq_true] at h
  rw [h c (List.mem_of_getElem? hc)] at ho
  cases ho
theorem get_data (s : ByteArray) (k : Nat) (h : k < s.size) : s.data.toList[k]? = some s[k] := by
  rw [Array.getElem?_toList]
  exact Array.getElem?_eq_getElem h
theorem chainO4 : ∀ a b c d : Bool, a = true ∨ (a = false ∧ b = true) ∨ (a = false ∧ b = false ∧ c = true) ∨ (a = false ∧ b = false ∧ c = false ∧ d = true) ∨ (a = false ∧ b = false ∧ c = false ∧ d = false) := by decide
theorem chainO3 : ∀ a b c : Bool, a = true ∨ (a = false ∧ b = true) ∨ (a = false ∧ b = false ∧ c = true) ∨ (a = false ∧ b = false ∧ c = false) := by decide
set_option maxRecDepth 100000 in
set_option maxHeartbeats 2000000 in
theorem name_c (s : ByteArray) (w : World) (hs : s.size ≤ maxLen) :
    Calls Tryd.prog 10 #[.string s] w fun r w' => r = .returned (.bool (nameB s)) ∧ w = w' := by
  unfold maxLen at hs
  have hn : Hid (nameB s = (!(s.toList.isEmpty || (decide (14 < (s.size : Int)) || (s.toList == [46] || s.toList == [46, 46]))) && s.data.toList.all okc)) := Lib.hid rfl
  rcases chainO4 s.toList.isEmpty (decide (14 < (s.size : Int))) (s.toList == [46]) (s.toList == [46, 46]) with q | ⟨q1, q⟩ | ⟨q1, q2, q⟩ | ⟨q1, q2, q3, q⟩ | ⟨q1, q2, q3, q4⟩
  case inr.inr.inr.inr =>
    have hn2 : Hid (nameB s = s.data.toList.all okc) := Lib.hid (by rw [hn.out]; simp only [Bool.false_or, Bool.not_false, Bool.true_and, *])
    clear hn
    have p2 : ¬ (14 < (s.size : Int)) := by simpa using q2
    have p1 : ¬ s.toList = [] := by simpa using q1
    have p3 : ¬ s.toList = [46] := by simpa using q3
    have p4 : ¬ s.toList = [46, 46] := by simpa using q4
    go_enter Tryd.func10, Tryd.ntmps10
    go_wp2_with fail
    go_loopw [3, 21] (fun _ i wr => ∃ k : Nat, k ≤ s.size ∧ i = .int .i64 k ∧ (s.data.toList.take k).all okc = true ∧ w = wr) (fun _ i _ => s.size - (intOf i).toNat)
    case atStart => exact ⟨0, by omega, rfl, rfl, rfl⟩
    case round =>
      obtain ⟨k, hk, rfl, ha, rfl⟩ := hrel
      have ha' := Lib.hid ha
      clear ha
      by_cases hlt : k < s.size
      · have hq : decide ((k : Int) < (s.size : Int)) = true := by simp; omega
        have hgd := get_data s k hlt
        have hyes := Lib.hid (fun h => all_take ha'.out hgd h)
        have hno := Lib.hid (fun h => not_all hgd h)
        have hkc : Hid (okc s[k] = !(decide ((s[k].toNat : Int) ≤ 32) || (decide (126 < (s[k].toNat : Int)) || (s[k].toNat : Int) == 47))) := Lib.hid rfl
        clear hgd
        rcases chainO3 (decide ((s[k].toNat : Int) ≤ 32)) (decide (126 < (s[k].toNat : Int))) ((s[k].toNat : Int) == 47) with r | ⟨r1, r⟩ | ⟨r1, r2, r⟩ | ⟨r1, r2, r⟩
        case inr.inr.inr =>
          have hy := Lib.hid (hyes.out (by rw [hkc.out]; simp only [Bool.false_or, Bool.not_false, *]))
          have p5 : ¬ (s[k].toNat : Int) ≤ 32 := by simpa using r1
          have p6 : ¬ 126 < (s[k].toNat : Int) := by simpa using r2
          have p7 : ¬ (s[k].toNat : Int) = 47 := by simpa using r
          go_wp2_with fail
          go_roundw
          case rel => exact ⟨k + 1, by omega, by go_num, hy.out, trivial⟩
          case measure => first | (simp [intOf]; done) | (simp [intOf]; omega)
        all_goals (
          have hy := Lib.hid (hno.out (by rw [hkc.out]; simp only [Bool.false_or, Bool.true_or, Bool.not_true, *]))
          go_wp2_with fail
          go_ret
          exact ⟨ret_bool (by rw [hn2.out, hy.out]), rfl⟩)
      · obtain rfl : k = s.size := by omega
        have hq : decide ((s.size : Int) < (s.size : Int)) = false := by simp
        have hfin : Hid (s.data.toList.all okc = true) := Lib.hid (by
          have h := ha'.out
          rwa [List.take_of_length_le (by rw [Array.length_toList]; exact Nat.le_refl _)] at h)
        go_wp2_with fail
        go_ret
        exact ⟨ret_bool (by rw [hn2.out, hfin.out]), rfl⟩
  all_goals (
    have hn2 : Hid (nameB s = false) := Lib.hid (by rw [hn.out]; simp only [Bool.false_or, Bool.true_or, Bool.not_true, Bool.false_and, *])
    clear hn
    go_enter Tryd.func10, Tryd.ntmps10
    go_wp2_with fail
    go_ret
    exact ⟨ret_bool hn2.out.symm, rfl⟩)
theorem chainA4 : ∀ a b c d : Bool, a = false ∨ (a = true ∧ b = false) ∨ (a = true ∧ b = true ∧ c = false) ∨ (a = true ∧ b = true ∧ c = true ∧ d = false) ∨ (a = true ∧ b = true ∧ c = true ∧ d = true) := by decide
theorem empty_size (s : ByteArray) : s.toList.isEmpty = !(decide (1 ≤ (s.size : Int))) := by
  have h : s.toList.length = s.size := by rw [ByteArray.toList_eq, Array.length_toList]; rfl
  cases hl : s.toList with
  | nil => rw [hl] at h; simp at h; simp [← h]
  | cons a r => rw [hl] at h; simp at h; simp; omega
theorem nameB' (s : ByteArray) : nameB s = (s.data.toList.all okc && (decide (1 ≤ (s.size : Int)) && (decide ((s.size : Int) ≤ 14) && (!(s.toList == [46]) && !(s.toList == [46, 46]))))) := by
  unfold nameB
  rw [empty_size]
  have h : decide (14 < (s.size : Int)) = !(decide ((s.size : Int) ≤ 14)) := by
    by_cases h : (s.size : Int) ≤ 14
    · simp [h]
    · simp [h]; omega
  rw [h]
  cases decide (1 ≤ (s.size : Int)) <;> cases decide ((s.size : Int) ≤ 14) <;> cases (s.toList == [46]) <;> cases (s.toList == [46, 46]) <;> cases s.data.toList.all okc <;> rfl
theorem lt33 (c : UInt8) : decide ((c.toNat : Int) < 33) = decide ((c.toNat : Int) ≤ 32) := by
  by_cases h : (c.toNat : Int) ≤ 32
  · have : (c.toNat : Int) < 33 := by omega
    simp [h, this]
  · have : ¬ (c.toNat : Int) < 33 := by omega
    simp [h, this]
set_option maxRecDepth 100000 in
set_option maxHeartbeats 2000000 in
theorem rname_c (s : ByteArray) (w : World) (hs : s.size ≤ maxLen) :
    Calls Tryd.prog 11 #[.string s] w fun r w' => r = .returned (.bool (nameB s)) ∧ w = w' := by
  unfold maxLen at hs
  have hn := Lib.hid (nameB' s)
  go_enter Tryd.func11, Tryd.ntmps11
  go_wp2_with fail
  go_loopw [3] (fun i wr => ∃ k : Nat, k ≤ s.size ∧ i = .int .i64 k ∧ (s.data.toList.take k).all okc = true ∧ w = wr) (fun i _ => s.size - (intOf i).toNat)
  case atStart => exact ⟨0, by omega, rfl, rfl, rfl⟩
  case round =>
    obtain ⟨k, hk, rfl, ha, rfl⟩ := hrel
    have ha' := Lib.hid ha
    clear ha
    by_cases hlt : k < s.size
    · have hq : decide ((k : Int) < (s.size : Int)) = true := by simp; omega
      have hgd := get_data s k hlt
      have hyes := Lib.hid (fun h => all_take ha'.out hgd h)
      have hno := Lib.hid (fun h => not_all hgd h)
      have hkc : Hid (okc s[k] = !(decide ((s[k].toNat : Int) < 33) || (decide (126 < (s[k].toNat : Int)) || (s[k].toNat : Int) == 47))) := Lib.hid (by rw [lt33]; rfl)
      clear hgd
      rcases chainO3 (decide ((s[k].toNat : Int) < 33)) (decide (126 < (s[k].toNat : Int))) ((s[k].toNat : Int) == 47) with r | ⟨r1, r⟩ | ⟨r1, r2, r⟩ | ⟨r1, r2, r⟩
      case inr.inr.inr =>
        have hy := Lib.hid (hyes.out (by rw [hkc.out]; simp only [Bool.false_or, Bool.not_false, *]))
        have p5 : ¬ (s[k].toNat : Int) < 33 := by simpa using r1
        have p6 : ¬ 126 < (s[k].toNat : Int) := by simpa using r2
        have p7 : ¬ (s[k].toNat : Int) = 47 := by simpa using r
        go_wp2_with fail
        go_roundw
        case rel => exact ⟨k + 1, by omega, by go_num, hy.out, trivial⟩
        case measure => first | (simp [intOf]; done) | (simp [intOf]; omega)
      all_goals (
        have hy := Lib.hid (hno.out (by rw [hkc.out]; simp only [Bool.false_or, Bool.true_or, Bool.not_true, *]))
        go_wp2_with fail
        go_ret
        exact ⟨ret_bool (by rw [hn.out, hy.out]; rfl), rfl⟩)
    · obtain rfl : k = s.size := by omega
      have hq : decide ((s.size : Int) < (s.size : Int)) = false := by simp
      have hfin : Hid (s.data.toList.all okc = true) := Lib.hid (by
        have h := ha'.out
        rwa [List.take_of_length_le (by rw [Array.length_toList]; exact Nat.le_refl _)] at h)
      have hn2 : Hid (nameB s = (decide (1 ≤ (s.size : Int)) && (decide ((s.size : Int) ≤ 14) && (!(s.toList == [46]) && !(s.toList == [46, 46]))))) := Lib.hid (by rw [hn.out, hfin.out, Bool.true_and])
      clear hn
      rcases chainA4 (decide (1 ≤ (s.size : Int))) (decide ((s.size : Int) ≤ 14)) (!(s.toList == [46])) (!(s.toList == [46, 46])) with q | ⟨q1, q⟩ | ⟨q1, q2, q⟩ | ⟨q1, q2, q3, q⟩ | ⟨q1, q2, q3, q⟩
      all_goals (
        have hn3 := hn2.out
        simp only [Bool.false_and, Bool.true_and, *] at hn3
        have hn4 := Lib.hid hn3
        clear hn3 hn2
        have p1 := of_decide_eq_true (p := (1 : Int) ≤ 1) rfl
        try have p2 : 1 ≤ (s.size : Int) := by simpa using q1
        try have p3 : ¬ 1 ≤ (s.size : Int) := by simpa using q
        try have p4 : (s.size : Int) ≤ 14 := by simpa using q2
        try have p5 : s.toList = [46] := by simpa using q
        try have p6 : ¬ s.toList = [46] := by simpa using q3
        try have p7 : s.toList = [46, 46] := by simpa using q
        try have p8 : ¬ s.toList = [46, 46] := by simpa using q
        go_wp2_with fail
        go_ret
        exact ⟨ret_bool (by rw [hn4.out]), rfl⟩)
end Go.Proofs.YthihpejhhimkaaaDoor.Dir
