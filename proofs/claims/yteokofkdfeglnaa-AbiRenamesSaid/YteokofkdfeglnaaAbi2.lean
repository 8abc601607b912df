/- Contracts of package abi: the names of a call; the chapter's examples. -/
import Derived.Test.YteokofkdfeglnaaAbi
set_option linter.unusedVariables false
namespace Go.Proofs.Yteokofkdfeglnaa.Abi2
open Go.RowKit Go.Proofs.Yteokofkdfeglnaa.Base Go.Proofs.Yteokofkdfeglnaa.Row Go.Proofs.Yteokofkdfeglnaa.App Go.Proofs.Yteokofkdfeglnaa.Multi Go.Proofs.Yteokofkdfeglnaa.Abi

/-- A letter's kind. -/
def lk (c : UInt8) : Int := Lib.indexByte [102, 98, 115, 112] c
def nv (x : Int × Int) : List Value := [.int .i64 x.1, .int .i64 x.2]
theorem nv_len (x : Int × Int) : (nv x).length = 2 := rfl
theorem nv_one (x : Int × Int) : ∀ v ∈ nv x, v.oneCell' = true := by
  intro v hv
  simp [nv] at hv
  rcases hv with rfl | rfl <;> rfl
/-- The names among the first k letters. -/
def nm (s : ByteArray) : Nat → List (Int × Int)
  | 0 => []
  | k + 1 => if 0 ≤ lk (s.data[k]?.getD 0) then nm s k ++ [((k : Int), lk (s.data[k]?.getD 0))] else nm s k
theorem nm_yes {s : ByteArray} {k : Nat} (h : 0 ≤ lk (s.data[k]?.getD 0)) : nm s (k + 1) = nm s k ++ [((k : Int), lk (s.data[k]?.getD 0))] := by simp [nm, h]
theorem nm_no {s : ByteArray} {k : Nat} (h : ¬ 0 ≤ lk (s.data[k]?.getD 0)) : nm s (k + 1) = nm s k := by simp [nm, h]
theorem nm_le (s : ByteArray) : ∀ k, (nm s k).length ≤ k
  | 0 => Nat.le_refl _
  | k + 1 => by
    unfold nm
    have := nm_le s k
    split
    · rw [List.length_append]; simp; omega
    · omega
/-- A text that is none's form has no names. -/
def Nice (s : ByteArray) : Prop := s.size ≤ 4 ∧ ∀ k, k < s.size → 0 ≤ lk (s.data[k]?.getD 0) → Kn s = true
theorem F_nice (op : Int) : Nice (F op) := by
  have h : ∀ k : Fin 41, (F ((k.1 : Nat) : Int)).size ≤ 4 ∧ ∀ j : Fin 4, 0 ≤ lk ((F ((k.1 : Nat) : Int)).data[j.1]?.getD 0) → Kn (F ((k.1 : Nat) : Int)) = true := by decide +kernel
  have hk : ∀ k : Nat, k < 41 → Nice (F k) := fun k hk => ⟨(h ⟨k, hk⟩).1, fun j hj h2 => (h ⟨k, hk⟩).2 ⟨j, by have := (h ⟨k, hk⟩).1; simp at this; omega⟩ h2⟩
  by_cases ho : op < 1 ∨ 40 < op
  · rw [F_out ho]
    exact hk 0 (by omega)
  · have := hk op.toNat (by omega)
    rwa [show ((op.toNat : Nat) : Int) = op by omega] at this

theorem info_n : (Try.prog.info? 39).map (fun i => (i.zero, i.size, i.bytes)) = some (some (.agg #[.int .i64 0, .int .i64 0]), 2, 16) := by kernel_rfl
def NamePost (B : Nat) (l : List (Int × Int)) (w w' : World) (r : Ending) : Prop := (∃ A1 c1, r = .returned (.slice A1 l.length c1) ∧ w'.ownsRow B 39 2 (.slice A1 l.length c1) l.length (l.flatMap nv)) ∧ Below w.heap.size w w'
set_option maxRecDepth 100000 in
set_option maxHeartbeats 2000000 in
theorem names_c (op : Int) (w : World) :
    Calls Try.prog 16 #[.int .i64 op] w fun r w' => NamePost w.heap.size (nm (F op) (F op).size) w w' r := by
  have hF := Lib.hid (form_c op w)
  have hN := F_nice op
  generalize F op = s at *
  have hs4 := hN.1
  have hKn := Lib.hid hN.2
  clear hN
  go_enter Try.func16, Try.ntmps16
  go_wp2_with fail
  refine (hF.out).mono ?_
  rintro r w1 ⟨rfl, rfl⟩
  go_wp2_with fail
  go_loopw [4, 11] (fun o i wr => ∃ (k : Nat) (A1 : Option Addr) (c1 m : Nat), k ≤ s.size ∧ m = (nm s k).length ∧ i = .int .i64 k ∧ o = .slice A1 m c1 ∧ wr.ownsRow w.heap.size 39 2 (.slice A1 m c1) m ((nm s k).flatMap nv) ∧ Below w.heap.size w wr) (fun _ i _ => s.size - (intOf i).toNat)
  case atStart => exact ⟨0, none, 0, 0, by omega, by simp [nm], rfl, rfl, own_nil _ _ _ _, bl_refl _⟩
  case round =>
    obtain ⟨k, A1, c1, m, hk, hm, rfl, rfl, HO, HB⟩ := hrel
    obtain ⟨wo, rfl⟩ : ∃ wo : World, wo = wr := ⟨_, rfl⟩
    by_cases hlt : k < s.size
    · have hq : decide ((k : Int) < (s.size : Int)) = true := by simp; omega
      have hd : (s.data[k]?.getD 0) = s[k] := by rw [Array.getElem?_eq_getElem (by exact hlt)]; rfl
      have hI0 : ∀ w', Calls Try.prog 37 #[.string ⟨#[102, 98, 115, 112]⟩, .int .u8 (s[k].toNat : Nat)] w' fun r w'' => r = .returned (.int .i64 (lk (s.data[k]?.getD 0))) ∧ w' = w'' := fun w' => by
        have := index_c ⟨#[102, 98, 115, 112]⟩ (s[k].toNat : Nat) w'
        rw [Int.toNat_natCast] at this
        rw [hd]
        unfold lk
        have e : (s[k].toNat).toUInt8 = s[k] := by simp
        rw [e] at this
        exact this
      have hI := Lib.hid hI0
      clear hI0
      have hml := Lib.hid (nm_le s k)
      replace hm := Lib.hid hm
      by_cases hl : 0 ≤ lk (s.data[k]?.getD 0)
      · have hy := Lib.hid (nm_yes hl)
        have hKs : (!s.toList == [45]) = true := hKn.out k hlt hl
        have q1 : decide (0 ≤ lk (s.data[k]?.getD 0)) = true := by simpa using hl
        generalize lk (s.data[k]?.getD 0) = v at *
        clear hd
        go_wp2_with fail
        refine (hI.out _).mono ?_
        rintro r w2 ⟨rfl, rfl⟩
        go_wp2_with (at_builtin; refine app_onef (w0 := w) (f := nv) w.heap.size 2 16 nv_len nv_one (.agg #[.int .i64 0, .int .i64 0]) rfl _ _ 36 39 rfl Try.underlying36 info_n rfl (by decide) (by decide) (.slice A1 m c1) m (nm s k) rfl HO ((k : Int), v) _ rfl wo.heap.size rfl rfl ?d1 ?d2 ?d3 ?_)
        case d1 => have := hml.out; have := hm.out; omega
        case d2 => exact HB
        case d3 => exact HB.size
        intro A5 c5 w5 HO5 B5 s5 _
        go_wp2_with fail
        go_roundw
        case rel => exact ⟨k + 1, A5, c5, m + 1, by omega, by rw [hy.out, List.length_append, ← hm.out]; rfl, by go_num, rfl, by rw [hy.out, List.flatMap_append, List.flatMap_singleton]; exact HO5, B5⟩
        case measure => first | (simp [intOf]; done) | (simp [intOf]; omega)
      · have hy := Lib.hid (nm_no hl)
        have q1 : decide (0 ≤ lk (s.data[k]?.getD 0)) = false := by simpa using hl
        generalize lk (s.data[k]?.getD 0) = v at *
        clear hd
        go_wp2_with fail
        refine (hI.out _).mono ?_
        rintro r w2 ⟨rfl, rfl⟩
        go_wp2_with fail
        go_roundw
        case rel => exact ⟨k + 1, A1, c1, m, by omega, by rw [hy.out]; exact hm.out, by go_num, rfl, by rw [hy.out]; exact HO, HB⟩
        case measure => first | (simp [intOf]; done) | (simp [intOf]; omega)
    · obtain rfl : k = s.size := by omega
      have hq : decide ((s.size : Int) < (s.size : Int)) = false := by simp
      subst hm
      go_wp2_with fail
      go_ret
      exact ⟨⟨A1, c1, rfl, HO⟩, HB⟩
end Go.Proofs.Yteokofkdfeglnaa.Abi2
