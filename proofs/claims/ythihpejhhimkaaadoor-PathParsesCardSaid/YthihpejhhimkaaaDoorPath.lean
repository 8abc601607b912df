/- Package path: the parts of a text, and the library's small functions. -/
import Derived.Lib.Strings
import Derived.Lib.Slices
import Derived.Lib.Walk
import Derived.Lib.Bytealg
import Derived.Test.YthihpejhhimkaaaDoorDir
set_option linter.unusedVariables false
namespace Go.Proofs.YthihpejhhimkaaaDoor.Path
open Go.RowKit Go.Proofs.YthihpejhhimkaaaDoor.Base Go.Proofs.YthihpejhhimkaaaDoor.Row Go.Proofs.YthihpejhhimkaaaDoor.App Go.Proofs.YthihpejhhimkaaaDoor.Multi Go.Proofs.YthihpejhhimkaaaDoor.StEq Go.Proofs.YthihpejhhimkaaaDoor.Held Go.Proofs.YthihpejhhimkaaaDoor.Out Go.Proofs.YthihpejhhimkaaaDoor.HeldW Go.Proofs.YthihpejhhimkaaaDoor.HeldX Go.Proofs.YthihpejhhimkaaaDoor.Dir

def tl (s : ByteArray) : List UInt8 := s.data.toList
theorem tl_ext {s t : ByteArray} (h : tl s = tl t) : s = t := by
  cases s with | mk a => cases t with | mk b => exact congrArg _ (Array.toList_inj.1 h)
theorem toList_tl (s : ByteArray) : s.toList = tl s := Lib.toList_data s
theorem tl_extract (s : ByteArray) (a b : Nat) : tl (s.extract a b) = ((tl s).take b).drop a := by
  unfold tl
  rw [ByteArray.data_extract, Array.toList_extract]
  simp [List.extract, List.drop_take]
theorem tl_len (s : ByteArray) : (tl s).length = s.size := by unfold tl; rw [Array.length_toList]; rfl
/-- The parts between the strokes. -/
def parts : List UInt8 → List (List UInt8)
  | [] => [[]]
  | c :: l => if c = 47 then [] :: parts l else match parts l with | [] => [[c]] | p :: ps => (c :: p) :: ps
theorem parts_ne (l : List UInt8) : parts l ≠ [] := by
  induction l with
  | nil => simp [parts]
  | cons c l ih =>
    unfold parts
    split
    · simp
    · cases parts l <;> simp
theorem parts_none : ∀ {l : List UInt8}, Lib.indexByte l 47 = -1 → parts l = [l]
  | [], _ => rfl
  | c :: l, h => by
    unfold Lib.indexByte at h
    by_cases hc : (c == 47) = true
    · rw [if_pos hc] at h; cases h
    · rw [if_neg hc] at h
      by_cases h2 : (Lib.indexByte l 47 == -1) = true
      · have := parts_none (beq_iff_eq.1 h2)
        unfold parts
        rw [if_neg (by simpa using hc), this]
      · rw [if_neg h2] at h
        have := Lib.indexByte_ge l 47
        omega
theorem parts_some : ∀ {l : List UInt8} {i : Nat}, Lib.indexByte l 47 = (i : Int) → i < l.length ∧ parts l = l.take i :: parts (l.drop (i + 1))
  | [], i, h => by unfold Lib.indexByte at h; omega
  | c :: l, i, h => by
    unfold Lib.indexByte at h
    by_cases hc : (c == 47) = true
    · rw [if_pos hc] at h
      obtain rfl : i = 0 := by omega
      refine ⟨by simp, ?_⟩
      rw [parts, if_pos (by simpa using hc)]
      simp
    · rw [if_neg hc] at h
      by_cases h2 : (Lib.indexByte l 47 == -1) = true
      · rw [if_pos h2] at h; omega
      · rw [if_neg h2] at h
        have := Lib.indexByte_ge l 47
        obtain ⟨j, rfl⟩ : ∃ j, i = j + 1 := ⟨i - 1, by simp at h2; omega⟩
        obtain ⟨h3, h4⟩ := parts_some (l := l) (i := j) (by omega)
        refine ⟨by simp; omega, ?_⟩
        rw [parts, if_neg (by simpa using hc), h4]
        simp
theorem index_lt (l : List UInt8) (c : UInt8) : Lib.indexByte l c < l.length ∨ Lib.indexByte l c = -1 := by
  induction l with
  | nil => exact .inr rfl
  | cons b l ih =>
    unfold Lib.indexByte
    split
    · left; simp
    · split
      · exact .inr rfl
      · rename_i h2
        left
        rcases ih with h | h
        · simp; omega
        · rw [h] at h2; simp at h2
/-- Does it begin with a stroke? -/
def abs_ (s : ByteArray) : Bool := (tl s).head? == some 47
theorem abs_hp (s : ByteArray) : Lib.hasPrefix s.data.toList [47] = abs_ s := by
  unfold abs_ tl
  rw [← Lib.hasPrefix_of_take]
  cases s.data.toList with
  | nil => rfl
  | cons c l => simp
theorem flip {P : Program} {f : FuncId} {args : Array Value} {w : World} {v : Value} (h : Calls P f args w fun e w' => e = .returned v ∧ w' = w) : Calls P f args w fun e w' => e = .returned v ∧ w = w' :=
  h.mono fun _ _ ⟨h1, h2⟩ => ⟨h1, h2.symm⟩
set_option maxRecDepth 100000 in
set_option maxHeartbeats 1000000 in
theorem shp_c (s : ByteArray) (w : World) :
    Calls Tryd.prog 39 #[.string s, .string ⟨#[47]⟩] w fun e w' => e = .returned (.bool (abs_ s)) ∧ w' = w := by
  rw [← abs_hp]
  have hP : Hid (Lib.hasPrefix s.data.toList [47] = _) := Lib.hid (Lib.hasPrefix_of_take s.data.toList [47]).symm
  go_enter Tryd.func39, Tryd.ntmps39
  by_cases h : 1 ≤ s.size
  · have q : decide ((1 : Int) ≤ (s.size : Int)) = true := by simp; omega
    have q2 : (1 : Int) ≤ (s.size : Int) := by omega
    go_wp2_with fail
    go_ret
    refine ⟨?_, rfl⟩
    rw [hP.out]
    have e : s.data.toList.length = s.size := tl_len s
    refine ret_bool ?_
    rw [toList_tl, tl_extract]
    simp [tl]
    try omega
  · have q : decide ((1 : Int) ≤ (s.size : Int)) = false := by simp; omega
    have q2 : ¬ (1 : Int) ≤ (s.size : Int) := by omega
    go_wp2_with fail
    go_ret
    refine ⟨?_, rfl⟩
    rw [hP.out]
    have e : s.data.toList.length = s.size := tl_len s
    refine ret_bool ?_
    simp
    try omega
set_option maxRecDepth 100000 in
set_option maxHeartbeats 1000000 in
theorem hp_c (s : ByteArray) (w : World) :
    Calls Tryd.prog 32 #[.string s, .string ⟨#[47]⟩] w fun e w' => e = .returned (.bool (abs_ s)) ∧ w' = w := by
  have hc := Lib.hid (fun w => shp_c s w)
  go_enter Tryd.func32, Tryd.ntmps32
  go_wp2_with (go_at_call 39; refine (hc.out _).mono ?_; rintro e w' ⟨rfl, rfl⟩)
  go_ret
  exact ⟨rfl, rfl⟩
set_option maxHeartbeats 1000000 in
set_option maxRecDepth 100000 in
theorem sib_c (s : ByteArray) (c : Int) (w : World) :
    Calls Tryd.prog 62 #[.string s, .int .u8 c] w fun e w' => e = .returned (.int .i64 (Lib.indexByte s.data.toList c.toNat.toUInt8)) ∧ w' = w := by
  go_enter Tryd.func62, Tryd.ntmps62
  go_wp2
  rw [run_callFunc_extern Tryd.func64 (by kernel_rfl) (by kernel_rfl) (by kernel_rfl) (e := Extern.BytealgIndexByte.indexByte) (by kernel_rfl), Lib.run_indexByteString]
  simp only [Result.andThen]
  rw [Oper.upon_value]
  go_wp2
  go_ret
  exact ⟨rfl, rfl⟩
set_option maxHeartbeats 2000000 in
set_option maxRecDepth 100000 in
theorem si_c (s : ByteArray) (w : World) :
    Calls Tryd.prog 55 #[.string s, .string ⟨#[47]⟩] w fun e w' => e = .returned (.int .i64 (Lib.indexByte s.data.toList 47)) ∧ w' = w := by
  have hc := Lib.hid (fun w => sib_c s 47 w)
  go_enter Tryd.func55, Tryd.ntmps55
  by_cases h : [47] = s.toList
  · have q : ([47] == s.toList) = true := by simp [h]
    have hh := Lib.hid h
    clear h
    go_wp2_with (go_at_call 62; refine (hc.out _).mono ?_; rintro e w' ⟨rfl, rfl⟩)
    go_ret
    refine ⟨?_, rfl⟩
    have e : s.data.toList = [47] := by rw [← Lib.toList_data]; exact hh.out.symm
    rw [e]
    simp [Lib.indexByte]
  · have q : ([47] == s.toList) = false := by simpa using h
    go_wp2_with (go_at_call 62; refine (hc.out _).mono ?_; rintro e w' ⟨rfl, rfl⟩)
    go_ret
    exact ⟨rfl, rfl⟩
set_option maxRecDepth 100000 in
set_option maxHeartbeats 1000000 in
theorem idx_c (s : ByteArray) (w : World) :
    Calls Tryd.prog 49 #[.string s, .string ⟨#[47]⟩] w fun e w' => e = .returned (.int .i64 (Lib.indexByte s.data.toList 47)) ∧ w' = w := by
  have hc := Lib.hid (fun w => si_c s w)
  go_enter Tryd.func49, Tryd.ntmps49
  go_wp2_with (go_at_call 55; refine (hc.out _).mono ?_; rintro e w' ⟨rfl, rfl⟩)
  go_ret
  exact ⟨rfl, rfl⟩
end Go.Proofs.YthihpejhhimkaaaDoor.Path
