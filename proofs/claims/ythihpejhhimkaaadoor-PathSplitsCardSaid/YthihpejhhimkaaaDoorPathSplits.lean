/- The law PathSplits: whatever names there are, those but the last one, and that, are told; they are under each beginning of theirs. -/
import Derived.Test.YthihpejhhimkaaaDoorPath4
set_option linter.unusedVariables false
namespace Go.Proofs.YthihpejhhimkaaaDoor.PathSplits
open Go.RowKit Go.Proofs.YthihpejhhimkaaaDoor.Base Go.Proofs.YthihpejhhimkaaaDoor.Row Go.Proofs.YthihpejhhimkaaaDoor.App Go.Proofs.YthihpejhhimkaaaDoor.Multi Go.Proofs.YthihpejhhimkaaaDoor.StEq Go.Proofs.YthihpejhhimkaaaDoor.Held Go.Proofs.YthihpejhhimkaaaDoor.Out Go.Proofs.YthihpejhhimkaaaDoor.HeldW Go.Proofs.YthihpejhhimkaaaDoor.HeldX Go.Proofs.YthihpejhhimkaaaDoor.Dir Go.Proofs.YthihpejhhimkaaaDoor.Path Go.Proofs.YthihpejhhimkaaaDoor.Path2 Go.Proofs.YthihpejhhimkaaaDoor.PathP Go.Proofs.YthihpejhhimkaaaDoor.Path3 Go.Proofs.YthihpejhhimkaaaDoor.Path4

theorem under_self (L : List ByteArray) : underB L L = true := by unfold underB; simp
theorem under_take (L : List ByteArray) (m : Nat) (h : m ≤ L.length) : underB L (L.take m) = true := by
  unfold underB
  rw [List.length_take, Nat.min_eq_left h]
  simp [h]
/-- The law's second half, from the world behind Split on: 'is'. -/
theorem under_is {L M : List ByteArray} (h : M.length ≤ L.length) : underB L M = decide (M = L.take M.length) := by
  unfold underB
  rw [decide_eq_true h, Bool.true_and]
  exact decide_eq_decide.2 ⟨Eq.symm, Eq.symm⟩
theorem under_not {L M : List ByteArray} (h : ¬ M.length ≤ L.length) : underB L M = false := by
  unfold underB
  rw [decide_eq_false h, Bool.false_and]
theorem split_zero (A : Option Addr) (c : Nat) (l : List ByteArray) (w : World) : Calls Tryd.prog 20 #[.slice A 0 c] w fun r w' => r = .returned (.tuple #[.slice none 0 0, .string ⟨#[]⟩, .bool false]) ∧ w' = w := split_nil A c w
def SplitQ (w : World) (l : List ByteArray) (m : Nat) (x : ByteArray) (r : Ending) (w' : World) : Prop :=
  (∃ A c, r = .returned (.tuple #[.slice A m c, .string x, .bool true]) ∧ SL w' A m (l.take m)) ∧ Below w.heap.size w w'
theorem split_q (ad : Addr) (m c : Nat) (x : ByteArray) (l : List ByteArray) (w : World) (hr : SL w (some ad) (m + 1) l) (hx : l[m]? = some x) (hc : m + 1 ≤ c) (hcell : w.cell? (ad.add m) = some (.string x)) (hn : (m + 1) * 16 ≤ 140737488351232) :
    Calls Tryd.prog 20 #[.slice (some ad) (m + 1) c] w fun r w' => SplitQ w l m x r w' :=
  (split_some ad m c x l w hr hx hc hcell hn).mono fun r w' ⟨hb, h⟩ => ⟨by
    have hl := hr.len
    rcases h with ⟨h, _⟩ | ⟨A, m', c', x', h1, h2, h3, h4⟩
    · rw [h] at hl; simp at hl
    · obtain rfl : m' = m := by omega
      rw [hx] at h2
      injection h2 with h2
      subst h2
      exact ⟨A, c', h3, sl_own h4⟩, hb⟩
set_option maxRecDepth 100000 in
set_option maxHeartbeats 4000000 in
theorem main_zero (A0 : Option Addr) (c0 : Nat) (A1 : Option Addr) (n1 c1 : Nat) (M : List ByteArray) (w : World) (h1 : IsSL w A1 n1 c1 M) :
    Calls Tryd.prog 6 #[.slice A0 0 c0, .slice A1 n1 c1] w fun e w' => e = .returned (.bool true) ∧ Below w.heap.size w w' := by
  have hm := h1.1.len
  have HM := Lib.hid h1.1
  have HS := Lib.hid (fun w => split_nil A0 c0 w)
  have HA := Lib.hid (fun w => awake_c w)
  have L0 : ∀ (W : World) (A : Option Addr), SL W A 0 [] := fun W A => RF.nil _ _ _ _
  have HU2 := Lib.hid (fun w => under_c A0 none 0 c0 0 0 [] [] w (L0 _ _) (L0 _ _) (Nat.zero_le _))
  have HU3 := Lib.hid (fun w => under_c A0 A0 0 c0 0 c0 [] [] w (L0 _ _) (L0 _ _) (Nat.zero_le _))
  have hu : underB [] [] = true := under_self []
  by_cases hn : n1 = 0
  · subst hn
    have hM : M = [] := List.length_eq_zero_iff.1 hm
    subst hM
    have HE := Lib.hid (fun w => same_c A1 A0 0 c1 0 c0 [] [] w (L0 _ _) (L0 _ _))
    have HU1 := Lib.hid (fun w => under_c A0 A1 0 c0 0 c1 [] [] w (L0 _ _) (L0 _ _) (Nat.zero_le _))
    rw [hu] at HU1 HU2 HU3
    rw [decide_eq_true rfl] at HE
    have B := bl_refl w
    clear h1 HM L0 hm hu
    go_enter Tryd.func6, Tryd.ntmps6
    go_wp2_with (first
      | (go_at_call 20; refine (HS.out _).mono ?_; clear HS; rintro r w1 ⟨rfl, rfl⟩)
      | (go_at_call 21; refine (HE.out _).mono ?_; clear HE; rintro r wa ⟨rfl, b⟩; have B := bl_then B b; clear b)
      | (go_at_call 22; refine (HU1.out _).mono ?_; clear HU1; rintro r wb ⟨rfl, b⟩; have B := bl_then B b; clear b)
      | (go_at_call 22; refine (HU2.out _).mono ?_; clear HU2; rintro r wc ⟨rfl, b⟩; have B := bl_then B b; clear b)
      | (go_at_call 22; refine (HU3.out _).mono ?_; clear HU3; rintro r wd ⟨rfl, b⟩; have B := bl_then B b; clear b)
      | (go_at_call 23; refine (HA.out _).mono ?_; clear HA; rintro r we ⟨rfl, b⟩; have B := bl_then B b; clear b))
    go_ret
    exact ⟨rfl, B⟩
  · have hx := h1.1.max
    have HU1 := Lib.hid (fun w h => under_c A0 A1 0 c0 n1 c1 [] M w (L0 _ _) h (Nat.zero_le _))
    rw [under_not (L := []) (M := M) (by rw [hm]; simp; omega)] at HU1
    rw [hu] at HU2 HU3
    have q1 : decide ((n1 : Int) ≤ 0) = false := by simp; omega
    have q2 : ¬ (n1 : Int) ≤ 0 := by omega
    have B := bl_refl w
    clear h1 L0 hm hu
    go_enter Tryd.func6, Tryd.ntmps6
    go_wp2_with (first
      | (go_at_call 20; refine (HS.out _).mono ?_; clear HS; rintro r w1 ⟨rfl, rfl⟩)
      | (go_at_call 22; refine (HU1.out _ (HM.out.below B)).mono ?_; clear HU1; rintro r wb ⟨rfl, b⟩; have B := bl_then B b; clear b)
      | (go_at_call 22; refine (HU2.out _).mono ?_; clear HU2; rintro r wc ⟨rfl, b⟩; have B := bl_then B b; clear b)
      | (go_at_call 22; refine (HU3.out _).mono ?_; clear HU3; rintro r wd ⟨rfl, b⟩; have B := bl_then B b; clear b)
      | (go_at_call 23; refine (HA.out _).mono ?_; clear HA; rintro r we ⟨rfl, b⟩; have B := bl_then B b; clear b))
    go_ret
    exact ⟨rfl, B⟩
set_option maxRecDepth 100000 in
set_option maxHeartbeats 4000000 in
theorem main_succ (ad : Addr) (m c0 : Nat) (x : ByteArray) (L : List ByteArray) (A1 : Option Addr) (n1 c1 : Nat) (M : List ByteArray) (w : World) (hr : SL w (some ad) (m + 1) L) (hx : L[m]? = some x) (hc : m + 1 ≤ c0) (hcell : w.cell? (ad.add m) = some (.string x)) (hn : (m + 1) * 16 ≤ 140737488351232) (h1 : IsSL w A1 n1 c1 M) :
    Calls Tryd.prog 6 #[.slice (some ad) (m + 1) c0, .slice A1 n1 c1] w fun e w' => e = .returned (.bool true) ∧ Below w.heap.size w w' := by
  have hl := hr.len
  have hm := h1.1.len
  have hxm := h1.1.max
  have HL := Lib.hid hr
  have HM := Lib.hid h1.1
  have HS := Lib.hid (split_q ad m c0 x L w hr hx hc hcell hn)
  have HE1 := Lib.hid (fun A c w h h' => same_c A (some ad) m c m c0 (L.take m) (L.take m) w h h')
  have HA := Lib.hid (fun w => awake_c w)
  have HU2 := Lib.hid (fun A c w h h' => under_c (some ad) A (m + 1) c0 m c L (L.take m) w h h' hc)
  have HU3 := Lib.hid (fun w h h' => under_c (some ad) (some ad) (m + 1) c0 (m + 1) c0 L L w h h' hc)
  rw [decide_eq_true rfl] at HE1
  rw [under_take L m (by omega)] at HU2
  rw [under_self] at HU3
  have q0 : wrap64 ((m : Int) + 1 - 1) = (m : Int) := by unfold wrap64; omega
  have q1 : decide ((m : Int) + 1 ≤ 0) = false := by simp
  have q2 : decide (0 < (m : Int) + 1) = true := by simp
  have q3 : decide (m ≤ c0) = true := by simp <;> omega
  have q4 : (m : Int) ≤ (c0 : Int) := by omega
  have q5 : (m : Int) < (m : Int) + 1 := by omega
  have q6 : 0 ≤ (m : Int) := by omega
  have q7 : m ≤ c0 := by omega
  have q8 : decide ((m : Int) ≤ (c0 : Int)) = true := by simp; omega
  have B := bl_refl w
  by_cases hle : n1 ≤ m + 1
  · have HE2 := Lib.hid (fun w h h' => same_c A1 (some ad) n1 c1 n1 c0 M (L.take n1) w h h')
    have HU1 := Lib.hid (fun w h h' => under_c (some ad) A1 (m + 1) c0 n1 c1 L M w h h' hc)
    have HTK := Lib.hid (hr.take n1 hle)
    have HTM := Lib.hid (hr.take m (by omega))
    rw [under_is (by omega), hm] at HU1
    generalize hb : decide (M = L.take n1) = b at HU1 HE2
    have p1 : decide ((n1 : Int) ≤ (m : Int) + 1) = true := by simp; omega
    have p2 : min (n1 : Int) ((m : Int) + 1) = (n1 : Int) := by omega
    have p3 : (n1 : Int) ≤ (m : Int) + 1 := by omega
    have p4 : decide (n1 ≤ c0) = true := by simp; omega
    have p5 : n1 ≤ c0 := by omega
    have p6 : (n1 : Int) ≤ (c0 : Int) := by omega
    have p7 : decide ((n1 : Int) ≤ (c0 : Int)) = true := by simp; omega
    have p8 : (b == b) = true := by simp
    clear h1 hr hx hm hl hb
    go_enter Tryd.func6, Tryd.ntmps6
    go_wp2_with (first
      | (go_at_call 20; refine (HS.out).mono ?_; clear HS; rintro r w1 ⟨⟨Ad, cd, rfl, SD⟩, b1⟩; have B := bl_then B b1; have hcell := bl_cell b1 hcell; have HD := Lib.hid SD; clear SD b1)
      | (go_at_call 21; refine (HE1.out _ _ _ HD.out (HTM.out.below B)).mono ?_; clear HE1; rintro r wa ⟨rfl, b1⟩; have HD := Lib.hid (HD.out.below b1); have hcell := bl_cell b1 hcell; have B := bl_then B b1; clear b1)
      | (go_at_call 21; refine (HE2.out _ (HM.out.below B) (HTK.out.below B)).mono ?_; clear HE2; rintro r wb ⟨rfl, b1⟩; have HD := Lib.hid (HD.out.below b1); have B := bl_then B b1; clear b1)
      | (go_at_call 22; refine (HU1.out _ (HL.out.below B) (HM.out.below B)).mono ?_; clear HU1; rintro r wc ⟨rfl, b1⟩; have HD := Lib.hid (HD.out.below b1); have B := bl_then B b1; clear b1)
      | (go_at_call 22; refine (HU2.out _ _ _ (HL.out.below B) HD.out).mono ?_; clear HU2; rintro r wd ⟨rfl, b1⟩; have B := bl_then B b1; clear b1)
      | (go_at_call 22; refine (HU3.out _ (HL.out.below B) (HL.out.below B)).mono ?_; clear HU3; rintro r we ⟨rfl, b1⟩; have B := bl_then B b1; clear b1)
      | (go_at_call 23; refine (HA.out _).mono ?_; clear HA; rintro r wf ⟨rfl, b1⟩; have B := bl_then B b1; clear b1))
    go_ret
    exact ⟨rfl, B⟩
  · have HU1 := Lib.hid (fun w h h' => under_c (some ad) A1 (m + 1) c0 n1 c1 L M w h h' hc)
    have HTM := Lib.hid (hr.take m (by omega))
    rw [under_not (by omega)] at HU1
    have p1 : decide ((n1 : Int) ≤ (m : Int) + 1) = false := by simp; omega
    have p3 : ¬ (n1 : Int) ≤ (m : Int) + 1 := by omega
    clear h1 hr hx hm hl
    go_enter Tryd.func6, Tryd.ntmps6
    go_wp2_with (first
      | (go_at_call 20; refine (HS.out).mono ?_; clear HS; rintro r w1 ⟨⟨Ad, cd, rfl, SD⟩, b1⟩; have B := bl_then B b1; have hcell := bl_cell b1 hcell; have HD := Lib.hid SD; clear SD b1)
      | (go_at_call 21; refine (HE1.out _ _ _ HD.out (HTM.out.below B)).mono ?_; clear HE1; rintro r wa ⟨rfl, b1⟩; have HD := Lib.hid (HD.out.below b1); have hcell := bl_cell b1 hcell; have B := bl_then B b1; clear b1)
      | (go_at_call 22; refine (HU1.out _ (HL.out.below B) (HM.out.below B)).mono ?_; clear HU1; rintro r wc ⟨rfl, b1⟩; have HD := Lib.hid (HD.out.below b1); have B := bl_then B b1; clear b1)
      | (go_at_call 22; refine (HU2.out _ _ _ (HL.out.below B) HD.out).mono ?_; clear HU2; rintro r wd ⟨rfl, b1⟩; have B := bl_then B b1; clear b1)
      | (go_at_call 22; refine (HU3.out _ (HL.out.below B) (HL.out.below B)).mono ?_; clear HU3; rintro r we ⟨rfl, b1⟩; have B := bl_then B b1; clear b1)
      | (go_at_call 23; refine (HA.out _).mono ?_; clear HA; rintro r wf ⟨rfl, b1⟩; have B := bl_then B b1; clear b1))
    go_ret
    exact ⟨rfl, B⟩
theorem walk (A0 : Option Addr) (n0 c0 : Nat) (L : List ByteArray) (A1 : Option Addr) (n1 c1 : Nat) (M : List ByteArray) (w : World) (h0 : IsSL w A0 n0 c0 L) (hn : n0 * 16 ≤ 140737488351232) (h1 : IsSL w A1 n1 c1 M) (_ : n1 * 16 ≤ 140737488351232) :
    Calls Tryd.prog 6 #[.slice A0 n0 c0, .slice A1 n1 c1] w fun e w' => e = .returned (.bool true) ∧ Below w.heap.size w w' := by
  cases n0 with
  | zero => exact main_zero A0 c0 A1 n1 c1 M w h1
  | succ m =>
    obtain ⟨hr, hc, hA⟩ := h0
    obtain ⟨ad, x, rfl, hx, hcell⟩ := sl_at hr m (by omega)
    exact main_succ ad m c0 x L A1 n1 c1 M w hr hx hc hcell hn h1
end Go.Proofs.YthihpejhhimkaaaDoor.PathSplits
