/- Plain laws of entries read out of a block. -/
import Derived.Test.YthihpejhhimkaaaDoorTrim
import Derived.Test.YthihpejhhimkaaaDoorMath
import Derived.Laws.BytesArg
set_option linter.unusedVariables false
namespace Go.Proofs.YthihpejhhimkaaaDoor.Dir4
open Go.RowKit Go.Proofs.YthihpejhhimkaaaDoor.Base Go.Proofs.YthihpejhhimkaaaDoor.Row Go.Proofs.YthihpejhhimkaaaDoor.DiskMath Go.Proofs.YthihpejhhimkaaaDoor.Dir Go.Proofs.YthihpejhhimkaaaDoor.Dir2 Go.Proofs.YthihpejhhimkaaaDoor.Dir3

/-- All bytes of a block are bytes. -/
def Okb (d : Bk) : Prop := ∀ x ∈ d.l, 0 ≤ x ∧ x < 256
theorem okb_at {d : Bk} (h : Okb d) (i : Nat) : 0 ≤ d.l[i]?.getD 0 ∧ d.l[i]?.getD 0 < 256 := getD_mem_range h (by omega) i
/-- The bytes of a name's place. -/
def tl (d : Bk) (n : Nat) : List Int := (d.l.drop (n * 16 + 2)).take 14
theorem tl_len {d : Bk} {n : Nat} (hn : n < 4) : (tl d n).length = 14 := by
  unfold tl
  rw [List.length_take, List.length_drop, d.h]
  omega
theorem tl_get {d : Bk} {n : Nat} (i : Nat) (hi : i < 14) : (tl d n)[i]? = d.l[n * 16 + 2 + i]? := by
  unfold tl
  rw [List.getElem?_take_of_lt hi, List.getElem?_drop]
def nmL (d : Bk) (n : Nat) : List UInt8 := Lib.trimRightB (strOfNums (tl d n)).data.toList 0
def b0 (d : Bk) (n : Nat) : Int := d.l[n * 16]?.getD 0
def b1 (d : Bk) (n : Nat) : Int := d.l[n * 16 + 1]?.getD 0
/-- The entry that the bytes tell. -/
def getE (d : Bk) (n : Nat) : En := ⟨⟨(nmL d n).toArray⟩, b0 d n + b1 d n * 256⟩
theorem str_data (xs : List Int) : (strOfNums xs).data.toList = xs.map (fun n => UInt8.ofNat n.toNat) := by
  rw [strOfNums_data]
theorem trim_split (l : List UInt8) : l = Lib.trimRightB l 0 ++ List.replicate (l.length - (Lib.trimRightB l 0).length) 0 := by
  have h1 : l.reverse = l.reverse.takeWhile (· == 0) ++ l.reverse.dropWhile (· == 0) := (List.takeWhile_append_dropWhile).symm
  have h2 : l = (l.reverse.dropWhile (· == 0)).reverse ++ (l.reverse.takeWhile (· == 0)).reverse := by
    rw [← List.reverse_append, ← h1, List.reverse_reverse]
  have h3 : (l.reverse.takeWhile (· == 0)).reverse = List.replicate (l.length - (Lib.trimRightB l 0).length) 0 := by
    rw [List.eq_replicate_iff]
    refine ⟨?_, fun b hb => ?_⟩
    · have := congrArg List.length h2
      rw [List.length_append] at this
      unfold Lib.trimRightB
      omega
    · rw [List.mem_reverse] at hb
      have hall : ∀ (m : List UInt8), ∀ x ∈ m.takeWhile (· == 0), x = 0 := by
        intro m
        induction m with
        | nil => intro x hx; simp at hx
        | cons a r ih =>
          intro x hx
          rw [List.takeWhile_cons] at hx
          split at hx
          · rename_i h0
            rcases List.mem_cons.1 hx with rfl | hx
            · simpa using h0
            · exact ih x hx
          · simp at hx
      exact hall _ b hb
  rw [← h3]
  exact h2
theorem byte_back {x : Int} (h : 0 ≤ x ∧ x < 256) : ((UInt8.ofNat x.toNat).toNat : Int) = x := by
  rw [UInt8.toNat_ofNat']
  omega
theorem tl_back {d : Bk} {n : Nat} (h : Okb d) : (strOfNums (tl d n)).data.toList.map (fun c => (c.toNat : Int)) = tl d n := by
  rw [str_data, List.map_map]
  conv => rhs; rw [← List.map_id (tl d n)]
  apply List.map_congr_left
  intro x hx
  exact byte_back (h x (List.mem_of_mem_drop (List.mem_of_mem_take hx)))
theorem nm_size {d : Bk} {n : Nat} (hn : n < 4) : (getE d n).s.size ≤ 14 := by
  have h := congrArg List.length (trim_split (strOfNums (tl d n)).data.toList)
  rw [List.length_append, str_data, List.length_map, tl_len hn] at h
  show (nmL d n).toArray.size ≤ 14
  rw [List.size_toArray]
  unfold nmL
  rw [str_data]
  omega
theorem ent_get {d : Bk} {n : Nat} (hn : n < 4) (hd : Okb d) (hi : (getE d n).i < 32) : ent (getE d n) = (d.l.drop (n * 16)).take 16 := by
  have r0 := okb_at hd (n * 16)
  have r1 := okb_at hd (n * 16 + 1)
  have hb1 : b1 d n = 0 := by
    unfold getE b0 b1 at hi
    simp only at hi
    unfold b1
    omega
  have hsz := nm_size (d := d) hn
  have hby : byts (getE d n).s ++ List.replicate (14 - (getE d n).s.size) 0 = tl d n := by
    have h1 := congrArg (fun l => l.map (fun c : UInt8 => (c.toNat : Int))) (trim_split (strOfNums (tl d n)).data.toList)
    simp only [List.map_append, List.map_replicate] at h1
    rw [tl_back hd] at h1
    have h2 : (strOfNums (tl d n)).data.toList.length = 14 := by rw [str_data, List.length_map, tl_len hn]
    rw [h2] at h1
    have h3 : (getE d n).s.size = (Lib.trimRightB (strOfNums (tl d n)).data.toList 0).length := by
      show (nmL d n).toArray.size = _
      rw [List.size_toArray]; rfl
    rw [h3]
    have h4 : byts (getE d n).s = (Lib.trimRightB (strOfNums (tl d n)).data.toList 0).map (fun c : UInt8 => (c.toNat : Int)) := by
      show ((nmL d n).toArray.toList).map _ = _
      rfl
    rw [h4]
    exact h1.symm
  unfold ent
  rw [hby]
  apply List.ext_getElem?
  intro i
  have h64 := d.h
  rcases i with _ | _ | i
  · rw [List.getElem?_take_of_lt (by omega), List.getElem?_drop]
    show some (b0 d n + b1 d n * 256) = _
    rw [hb1]
    unfold b0
    rw [List.getElem?_eq_getElem (show n * 16 + 0 < d.l.length by omega)]
    have : d.l[n * 16]? = some (d.l[n * 16]'(by omega)) := List.getElem?_eq_getElem _
    rw [this]
    simp
  · rw [List.getElem?_take_of_lt (by omega), List.getElem?_drop]
    show some (0 : Int) = _
    have : b1 d n = d.l[n * 16 + 1]'(by omega) := by unfold b1; rw [List.getElem?_eq_getElem]; rfl
    rw [List.getElem?_eq_getElem (show n * 16 + (0 + 1) < d.l.length by omega), ← hb1, this]
  · rw [List.getElem?_cons_succ, List.getElem?_cons_succ]
    by_cases hi : i < 14
    · rw [tl_get i hi, List.getElem?_take_of_lt (by omega), List.getElem?_drop]
      congr 1
      omega
    · rw [List.getElem?_eq_none (by rw [tl_len hn]; omega), List.getElem?_eq_none (by rw [List.length_take]; omega)]
/-- What is got is what is put there. -/
theorem put_get {d : Bk} {n : Nat} (hn : n < 4) (hd : Okb d) (hr : rightB (getE d n) = true) : putB d n (getE d n) = d := by
  obtain ⟨h1, _, h3⟩ := right_le hr
  apply Bk.ext'
  rw [putB_l hn h1]
  unfold putL
  rw [ent_get hn hd h3]
  rw [List.append_assoc]
  have h2 : (d.l.drop (n * 16)).take 16 ++ d.l.drop (n * 16 + 16) = d.l.drop (n * 16) := by
    rw [← List.drop_drop, List.take_append_drop]
  rw [h2, List.take_append_drop]
/-- What was put is got. -/
theorem get_put {d : Bk} {n : Nat} {e : En} (hn : n < 4) (hr : rightB e = true) (hz : ∀ c ∈ e.s.data.toList, c ≠ 0) : getE (putB d n e) n = e := by
  obtain ⟨h1, h2, h3⟩ := right_le hr
  have hl := putB_l (d := d) hn h1
  have hd := d.h
  have hel := ent_len h1
  have hg : ∀ i, i < 16 → (putB d n e).l[n * 16 + i]? = (ent e)[i]? := by
    intro i hi
    rw [hl]
    unfold putL
    rw [List.getElem?_append_left (by rw [List.length_append, List.length_take, hel]; omega), List.getElem?_append_right (by rw [List.length_take]; omega), List.length_take]
    congr 1
    omega
  have hb0 : b0 (putB d n e) n = e.i := by
    unfold b0
    rw [show n * 16 = n * 16 + 0 from rfl, hg 0 (by omega)]; rfl
  have hb1 : b1 (putB d n e) n = 0 := by
    unfold b1
    rw [hg 1 (by omega)]; rfl
  have htl : tl (putB d n e) n = byts e.s ++ List.replicate (14 - e.s.size) 0 := by
    apply List.ext_getElem?
    intro i
    by_cases hi : i < 14
    · rw [tl_get i hi, Nat.add_assoc, hg (2 + i) (by omega), show 2 + i = i + 1 + 1 by omega]; rfl
    · rw [List.getElem?_eq_none (by rw [tl_len hn]; omega), List.getElem?_eq_none (by rw [List.length_append, byts_len, List.length_replicate]; omega)]
  have hnm : nmL (putB d n e) n = e.s.data.toList := by
    unfold nmL
    rw [str_data, htl, List.map_append, List.map_replicate]
    have hb : (byts e.s).map (fun n => UInt8.ofNat n.toNat) = e.s.data.toList := by
      unfold byts
      rw [List.map_map]
      conv => rhs; rw [← List.map_id e.s.data.toList]
      apply List.map_congr_left
      intro c _
      simp
    rw [hb]
    have hs : e.s.data.toList.length = e.s.size := by rw [Array.length_toList]; rfl
    rw [Lib.trimRightB_take _ 0 e.s.size (by rw [List.length_append, hs]; omega) (fun j b hj hb => by
      rw [List.getElem?_append_right (by rw [hs]; exact hj), List.getElem?_replicate] at hb
      split at hb
      · injection hb with hb; exact hb.symm
      · cases hb) (fun b h0 hb => by
      rw [List.getElem?_append_left (by rw [hs]; omega)] at hb
      exact hz b (List.mem_of_getElem? hb))]
    rw [← hs, List.take_left']
    rfl
  unfold getE
  rw [hb0, hb1, hnm]
  simp
end Go.Proofs.YthihpejhhimkaaaDoor.Dir4
