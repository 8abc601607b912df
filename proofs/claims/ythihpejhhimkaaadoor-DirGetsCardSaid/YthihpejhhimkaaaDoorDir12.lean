/- Plain laws for the reference's Get. -/
import Derived.Test.YthihpejhhimkaaaDoorDir11
set_option linter.unusedVariables false
namespace Go.Proofs.YthihpejhhimkaaaDoor.Dir12
open Go.RowKit Go.Proofs.YthihpejhhimkaaaDoor.Base Go.Proofs.YthihpejhhimkaaaDoor.Row Go.Proofs.YthihpejhhimkaaaDoor.App Go.Proofs.YthihpejhhimkaaaDoor.Multi Go.Proofs.YthihpejhhimkaaaDoor.StEq Go.Proofs.YthihpejhhimkaaaDoor.DiskMath Go.Proofs.YthihpejhhimkaaaDoor.Dir Go.Proofs.YthihpejhhimkaaaDoor.Dir2 Go.Proofs.YthihpejhhimkaaaDoor.Dir3 Go.Proofs.YthihpejhhimkaaaDoor.Dir4 Go.Proofs.YthihpejhhimkaaaDoor.Dir5

/-- The byte of a name's place. -/
def tb (d : Bk) (n k : Nat) : Int := (tl d n)[k]?.getD 0
theorem tb_l {d : Bk} {n k : Nat} (h : k < 14) : d.l[n * 16 + 2 + k]?.getD 0 = tb d n k := by unfold tb; rw [tl_get k h]
/-- Noughts behind a place. -/
def Zs (d : Bk) (n k : Nat) : Prop := ∀ j, k ≤ j → j < 14 → tb d n j = 0
theorem zs_14 (d : Bk) (n : Nat) : Zs d n 14 := fun j h1 h2 => by omega
theorem Zs.back {d : Bk} {n k : Nat} (h : Zs d n (k + 1)) (h0 : tb d n k = 0) : Zs d n k := fun j h1 h2 => by
  by_cases e : j = k
  · rw [e]; exact h0
  · exact h j (by omega) h2
theorem back_end {d : Bk} {n k : Nat} (hn : n < 4) (hd : Okb d) (hk : k ≤ 14) (hz : Zs d n k) (hl : k = 0 ∨ tb d n (k - 1) ≠ 0) : (⟨(nmL d n).toArray⟩ : ByteArray) = strOfNums ((tl d n).take k) := by
  have hlen := tl_len (d := d) hn
  have e : nmL d n = ((tl d n).map (fun n => UInt8.ofNat n.toNat)).take k := by
    unfold nmL
    rw [str_data]
    refine Lib.trimRightB_take _ 0 k (by rw [List.length_map, hlen]; exact hk) (fun j b hj hb => ?_) (fun b h0 hb => ?_)
    · rw [List.getElem?_map] at hb
      obtain ⟨x, hx, rfl⟩ := Option.map_eq_some_iff.1 hb
      have hj14 : j < 14 := by have := (List.getElem?_eq_some_iff.1 hx).1; omega
      have h1 := hz j hj hj14
      unfold tb at h1
      rw [hx] at h1
      have h2 : x = 0 := h1
      rw [h2]; rfl
    · rw [List.getElem?_map] at hb
      obtain ⟨x, hx, rfl⟩ := Option.map_eq_some_iff.1 hb
      rcases hl with hl | hl
      · omega
      · unfold tb at hl
        rw [hx] at hl
        have h2 : x ≠ 0 := hl
        have hm := hd x (List.mem_of_mem_drop (List.mem_of_mem_take (List.mem_of_getElem? hx)))
        intro h3
        have h4 := byte_back hm
        rw [h3] at h4
        exact h2 (by simpa using h4.symm)
  rw [e, ← List.map_take]
  rfl
theorem getE_end {d : Bk} {n k : Nat} (hn : n < 4) (hd : Okb d) (hk : k ≤ 14) (hz : Zs d n k) (hl : k = 0 ∨ tb d n (k - 1) ≠ 0) : getE d n = ⟨strOfNums ((tl d n).take k), b0 d n + b1 d n * 256⟩ := by
  unfold getE
  rw [back_end hn hd hk hz hl]
theorem tb_range {d : Bk} (hd : Okb d) (n k : Nat) : 0 ≤ tb d n k ∧ tb d n k < 256 := by
  unfold tb
  exact getD_mem_range (fun x hx => hd x (List.mem_of_mem_drop (List.mem_of_mem_take hx))) (by omega) k
theorem convk (d : Bk) (n k : Nat) (hn : n < 4) (hk : k ≤ 14) (g OFF cap : Nat) (w : World) (hO : OFF = n * 16 + 2) (TB : TypeId) (h : Blk w g TB (bc d)) : (convert 22 9 (.slice (some ⟨g, OFF, none⟩) k cap)).run Tryd.prog w = .ok (.string (strOfNums ((tl d n).take k))) w := by
  subst hO
  refine run_convert_bytes_arg w 22 5 Tryd.underlying22 Tryd.underlying5 g (n * 16 + 2) k cap ((tl d n).take k) (by rw [List.length_take, tl_len hn]; omega) (fun i hi => ?_) 9 Tryd.underlying9
  have hd := d.h
  have h1 : d.l[n * 16 + 2 + i]? = some (d.l[n * 16 + 2 + i]'(by omega)) := List.getElem?_eq_getElem _
  rw [h.cell, bc, List.getElem?_toArray]
  unfold bv nums
  rw [List.getElem?_map, List.getD_eq_getElem?_getD, List.getElem?_take_of_lt hi, tl_get i (by omega), h1]
  rfl
end Go.Proofs.YthihpejhhimkaaaDoor.Dir12
