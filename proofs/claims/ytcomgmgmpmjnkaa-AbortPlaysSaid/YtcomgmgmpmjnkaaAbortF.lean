/- Contract of slices.IndexFunc with the closure of Gone. -/
import Derived.Test.YtcomgmgmpmjnkaaAbortE
set_option linter.unusedVariables false
namespace Go.Proofs.Ytcomgmgmpmjnkaa.AbortF
open Go.RowKit Go.Proofs.Ytcomgmgmpmjnkaa.Base Go.Proofs.Ytcomgmgmpmjnkaa.Row Go.Proofs.Ytcomgmgmpmjnkaa.App Go.Proofs.Ytcomgmgmpmjnkaa.Multi Go.Proofs.Ytcomgmgmpmjnkaa.Del Go.Proofs.Ytcomgmgmpmjnkaa.AbortMath Go.Proofs.Ytcomgmgmpmjnkaa.Abort Go.Proofs.Ytcomgmgmpmjnkaa.Abort2 Go.Proofs.Ytcomgmgmpmjnkaa.Abort3 Go.Proofs.Ytcomgmgmpmjnkaa.Abort6 Go.Proofs.Ytcomgmgmpmjnkaa.AbortE

/-- The first want of an environment, or the length. -/
def gat (l : List Wt) (e : Int) : Nat := l.findIdx (fun x => x.e == e)
theorem gat_le (l : List Wt) (e : Int) : gat l e ≤ l.length := List.findIdx_le_length
theorem gat_no {l : List Wt} {e : Int} (j : Nat) (x : Wt) (hj : j < gat l e) (hx : l[j]? = some x) : (x.e == e) = false := by
  have h1 := List.not_of_lt_findIdx hj
  have hl : j < l.length := Nat.lt_of_lt_of_le hj (gat_le l e)
  rw [List.getElem?_eq_getElem hl] at hx
  injection hx with hx
  subst hx
  simpa using h1
theorem gat_yes {l : List Wt} {e : Int} (x : Wt) (hx : l[gat l e]? = some x) : (x.e == e) = true := by
  obtain ⟨hl, rfl⟩ := List.getElem?_eq_some_iff.1 hx
  exact List.findIdx_getElem (xs := l) (p := fun x : Wt => x.e == e) (w := hl)
set_option maxRecDepth 100000 in
set_option maxHeartbeats 1000000 in
theorem indexg_c (A : Option Addr) (n c : Nat) (l : List Wt) (e : Int) (b1 : Nat) (w : World) (hr : RF wv 4 w A n l)
    (h1 : w.cell? ⟨b1, 0, none⟩ = some (.int .i64 e)) :
    Calls Try.prog 82 #[.slice A n c, .func (.func 69) #[] #[.pointer (some ⟨b1, 0, none⟩)]] w fun r w' => r = .returned (.int .i64 (wI n (gat l e))) ∧ Below w.heap.size w w' := by
  have hmx := hr.max
  have hlen := Lib.hid hr.len
  have hle := Lib.hid (gat_le l e)
  have hH := Lib.hid (fun (x : Wt) (w' : World) (hb : Below w.heap.size w w') => gone1_c x e b1 w' (bl_cell hb h1))
  clear h1
  go_enter Try.func82, Try.ntmps82
  go_wp2
  go_loopw [8] (fun i wr => ∃ j : Nat, j ≤ gat l e ∧ i = .int .i64 j ∧ Below w.heap.size w wr) (fun i _ => n - (intOf i).toNat)
  case atStart => exact ⟨0, by omega, rfl, bl_refl _⟩
  case round =>
    obtain ⟨j, hj, rfl, HB⟩ := hrel
    obtain ⟨wo, rfl⟩ : ∃ wo : World, wo = wr := ⟨_, rfl⟩
    by_cases hlt : j < n
    · have hq : decide ((j : Int) < (n : Int)) = true := by simp; omega
      obtain ⟨g, o, x, rfl, hx, hcells⟩ := (hr.below HB).at_ j hlt
      obtain ⟨c0, c1, c2, c3⟩ := range4 hcells
      have hx' := Lib.hid hx
      clear hx hcells
      cases hh : (x.e == e) with
      | true =>
        have hfin : Hid (j = gat l e) := Lib.hid (by
          rcases Nat.lt_or_ge j (gat l e) with h | h
          · have := gat_no j x h hx'.out
            rw [this] at hh; cases hh
          · omega)
        have hC := Lib.hid (hH.out x wo HB)
        rw [hh] at hC
        clear hh
        go_wp2_with fail
        refine (hC.out).mono ?_
        rintro r w1 ⟨rfl, bx⟩
        go_wp2
        go_ret
        refine ⟨ret_int ?_, bl_then HB bx⟩
        rw [← hfin.out]
        simp [wI, hlt]
      | false =>
        have hfin : Hid (j + 1 ≤ gat l e) := Lib.hid (by
          rcases Nat.lt_or_ge j (gat l e) with h | h
          · exact h
          · have e1 : j = gat l e := by omega
            have := gat_yes (l := l) (e := e) x (by rw [← e1]; exact hx'.out)
            rw [this] at hh; cases hh)
        have hC := Lib.hid (hH.out x wo HB)
        rw [hh] at hC
        clear hh
        go_wp2_with fail
        refine (hC.out).mono ?_
        rintro r w1 ⟨rfl, bx⟩
        go_wp2
        go_roundw
        case rel => exact ⟨j + 1, hfin.out, by go_num, bl_then HB bx⟩
        case measure => first | (simp [intOf]; done) | (simp [intOf]; omega)
    · have hq : decide ((j : Int) < (n : Int)) = false := by simp; omega
      have hfin : Hid (gat l e = n) := Lib.hid (by have := hle.out; have := hlen.out; omega)
      go_wp2
      go_ret
      refine ⟨ret_int ?_, HB⟩
      rw [hfin.out]
      simp [wI]

end Go.Proofs.Ytcomgmgmpmjnkaa.AbortF
