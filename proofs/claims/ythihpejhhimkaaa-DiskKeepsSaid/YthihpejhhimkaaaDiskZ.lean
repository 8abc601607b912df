/- Two new disks, and what they leave. -/
import Derived.Test.YthihpejhhimkaaaDiskX
set_option linter.unusedVariables false
namespace Go.Proofs.Ythihpejhhimkaaa.DiskZ
open Go.RowKit Go.Proofs.Ythihpejhhimkaaa.Base Go.Proofs.Ythihpejhhimkaaa.Row Go.Proofs.Ythihpejhhimkaaa.App Go.Proofs.Ythihpejhhimkaaa.Multi Go.Proofs.Ythihpejhhimkaaa.StEq Go.Proofs.Ythihpejhhimkaaa.Held Go.Proofs.Ythihpejhhimkaaa.Out Go.Proofs.Ythihpejhhimkaaa.HeldW Go.Proofs.Ythihpejhhimkaaa.HeldX Go.Proofs.Ythihpejhhimkaaa.DiskMath Go.Proofs.Ythihpejhhimkaaa.Disk Go.Proofs.Ythihpejhhimkaaa.Disk3 Go.Proofs.Ythihpejhhimkaaa.DiskS Go.Proofs.Ythihpejhhimkaaa.DiskU Go.Proofs.Ythihpejhhimkaaa.DiskV Go.Proofs.Ythihpejhhimkaaa.DiskW Go.Proofs.Ythihpejhhimkaaa.DiskX

def NewPost2 (w0 w : World) (gd n : Nat) (R : Nat → Prop) (w' : World) (r : Ending) : Prop := ∃ gx, r = .returned (.pointer (some ⟨gx, 0, none⟩)) ∧ Two w0 R w' gd gx (List.replicate n zb) [] (List.replicate n zb) [] ∧ Below w.heap.size w w'
theorem two_rnew2 (n : Nat) (h2 : n ≤ 512) (w0 w wp : World) (gd : Nat) (R : Nat → Prop) (F : Nat → Prop) (hp : w0.heap.size ≤ wp.heap.size) (hD : DP w0.heap.size w gd F (List.replicate n zb) []) (bF : ∀ i, F i → wp.heap.size ≤ i ∧ i < w.heap.size) (hR : ∀ i, R i → i < wp.heap.size) (hB : Below w0.heap.size w0 w) :
    Calls Try.prog 9 #[.int .i64 n] w fun r w' => NewPost2 w0 w gd n R w' r := by
  refine (rnew_c n h2 w0.heap.size w hB.size).mono ?_
  rintro r w1 ⟨g, rfl, hX, hb⟩
  have hs := hb.size
  have hs0 := hB.size
  have hpw : wp.heap.size ≤ w.heap.size := by
    have := bF gd (by obtain ⟨_, _, _, _, _, h, _⟩ := hD; exact h)
    omega
  refine ⟨g, rfl, ⟨F, gro (fun _ => False) w w1, DkF.below hD hb, hX, fun i h => ⟨by have := (bF i h).1; omega, by have := (bF i h).2; omega⟩, fun i h => ?_, fun i h hg => ?_, fun i h => ⟨by have := hR i h; omega, fun hf => ?_, fun hg => ?_⟩, bl_thenB hB hB.size hb⟩, hb⟩
  · rcases h with h | ⟨h1, h2⟩
    · exact h.elim
    · exact ⟨by omega, h2⟩
  · rcases hg with hg | ⟨h1, h2⟩
    · exact hg.elim
    · have := (bF i h).2; omega
  · have := (bF i hf).1
    have := hR i h
    omega
  · rcases hg with hg | ⟨h1, h2⟩
    · exact hg.elim
    · have := hR i h; omega
end Go.Proofs.Ythihpejhhimkaaa.DiskZ
