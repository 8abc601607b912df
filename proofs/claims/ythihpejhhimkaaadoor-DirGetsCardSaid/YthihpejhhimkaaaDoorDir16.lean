/- Plain laws for the law DirGets. -/
import Derived.Test.YthihpejhhimkaaaDoorDir15
import Derived.Test.YthihpejhhimkaaaDoorDir8
set_option linter.unusedVariables false
namespace Go.Proofs.YthihpejhhimkaaaDoor.Dir16
open Go.RowKit Go.Proofs.YthihpejhhimkaaaDoor.Base Go.Proofs.YthihpejhhimkaaaDoor.Row Go.Proofs.YthihpejhhimkaaaDoor.App Go.Proofs.YthihpejhhimkaaaDoor.Multi Go.Proofs.YthihpejhhimkaaaDoor.DiskMath Go.Proofs.YthihpejhhimkaaaDoor.Dir Go.Proofs.YthihpejhhimkaaaDoor.Dir2 Go.Proofs.YthihpejhhimkaaaDoor.Dir3 Go.Proofs.YthihpejhhimkaaaDoor.Dir4 Go.Proofs.YthihpejhhimkaaaDoor.Dir5 Go.Proofs.YthihpejhhimkaaaDoor.Dir6 Go.Proofs.YthihpejhhimkaaaDoor.Dir8 Go.Proofs.YthihpejhhimkaaaDoor.Dir15

/-- Where the law has found the name, by the first places; the inode there; the room; whether all are right; the entries that there are. -/
def fo (d : Bk) (s : ByteArray) : Nat → Int
  | 0 => -1
  | k + 1 => if hit d s k = true ∧ fo d s k < 0 then (k : Int) else fo d s k
def ino (d : Bk) (s : ByteArray) : Nat → Int
  | 0 => 0
  | k + 1 => if hit d s k = true ∧ fo d s k < 0 then (getE d k).i else ino d s k
def ro (d : Bk) : Nat → Int
  | 0 => -1
  | k + 1 => if free d k = true ∧ ro d k < 0 then (k : Int) else ro d k
def rt (d : Bk) : Nat → Bool
  | 0 => true
  | k + 1 => rt d k && rightB (getE d k)
def lsR (d : Bk) : Nat → List En
  | 0 => []
  | k + 1 => if rightB (getE d k) = true ∧ 0 < (getE d k).i then lsR d k ++ [getE d k] else lsR d k
theorem lsR_le (d : Bk) : ∀ k, (lsR d k).length ≤ k
  | 0 => Nat.le_refl _
  | k + 1 => by
    have := lsR_le d k
    unfold lsR
    split
    · rw [List.length_append, List.length_singleton]; omega
    · omega
theorem fo_eq (d : Bk) (s : ByteArray) : ∀ k, k ≤ 4 → fo d s k = (if fi d s < k then ((fi d s : Nat) : Int) else -1) ∧ ino d s k = (if fi d s < k then (getE d (fi d s)).i else 0)
  | 0, _ => ⟨rfl, rfl⟩
  | k + 1, hk => by
    obtain ⟨h1, h2⟩ := fo_eq d s k (by omega)
    unfold fo ino
    cases hh : hit d s k with
    | true =>
      rcases Nat.lt_trichotomy (fi d s) k with h | h | h
      · rw [if_pos h] at h1 h2
        have h3 : ¬ (true = true ∧ fo d s k < 0) := fun h4 => by omega
        rw [if_neg h3, if_neg h3, if_pos (by omega), if_pos (by omega)]
        exact ⟨h1, h2⟩
      · rw [if_neg (by omega)] at h1
        have h3 : true = true ∧ fo d s k < 0 := ⟨rfl, by omega⟩
        rw [if_pos h3, if_pos h3, if_pos (by omega), if_pos (by omega), h]
        exact ⟨rfl, rfl⟩
      · have := fi_no (d := d) (s := s) k h
        rw [hh] at this; cases this
    | false =>
      have h3 : ¬ (false = true ∧ fo d s k < 0) := fun h4 => by cases h4.1
      rw [if_neg h3, if_neg h3, h1, h2]
      by_cases h : fi d s < k
      · rw [if_pos h, if_pos h, if_pos (by omega), if_pos (by omega)]
        exact ⟨rfl, rfl⟩
      · have hne : fi d s ≠ k := fun e => by
          have := fi_yes (d := d) (s := s) (by omega)
          rw [e, hh] at this; cases this
        rw [if_neg h, if_neg h, if_neg (by omega), if_neg (by omega)]
        exact ⟨rfl, rfl⟩
theorem ro_eq (d : Bk) : ∀ k, k ≤ 4 → ro d k = (if ri d < k then ((ri d : Nat) : Int) else -1)
  | 0, _ => rfl
  | k + 1, hk => by
    have h1 := ro_eq d k (by omega)
    unfold ro
    cases hh : free d k with
    | true =>
      rcases Nat.lt_trichotomy (ri d) k with h | h | h
      · rw [if_pos h] at h1
        have h3 : ¬ (true = true ∧ ro d k < 0) := fun h4 => by omega
        rw [if_neg h3, if_pos (by omega)]
        exact h1
      · rw [if_neg (by omega)] at h1
        have h3 : true = true ∧ ro d k < 0 := ⟨rfl, by omega⟩
        rw [if_pos h3, if_pos (by omega), h]
      · have := ri_no (d := d) k h
        rw [hh] at this; cases this
    | false =>
      have h3 : ¬ (false = true ∧ ro d k < 0) := fun h4 => by cases h4.1
      rw [if_neg h3, h1]
      by_cases h : ri d < k
      · rw [if_pos h, if_pos (by omega)]
      · have hne : ri d ≠ k := fun e => by
          have := ri_yes (d := d) (by omega)
          rw [e, hh] at this; cases this
        rw [if_neg h, if_neg (by omega)]
theorem rt_yes {d : Bk} : ∀ {k}, (∀ j, j < k → rightB (getE d j) = true) → rt d k = true ∧ lsR d k = lst d k
  | 0, _ => ⟨rfl, rfl⟩
  | k + 1, h => by
    obtain ⟨h1, h2⟩ := rt_yes (d := d) (k := k) (fun j hj => h j (by omega))
    have h3 := h k (by omega)
    unfold rt lsR lst
    rw [h1, h2, h3]
    exact ⟨rfl, by simp⟩
theorem rt_no {d : Bk} : ∀ {k}, (∃ j, j < k ∧ rightB (getE d j) = false) → rt d k = false
  | 0, h => by obtain ⟨j, h, _⟩ := h; omega
  | k + 1, h => by
    obtain ⟨j, hj, h⟩ := h
    unfold rt
    by_cases e : j = k
    · rw [← e, h, Bool.and_false]
    · rw [rt_no ⟨j, by omega, h⟩, Bool.false_and]
/-- The next place: the six ways. -/
theorem ways (d : Bk) (s : ByteArray) (k : Nat) :
    (rightB (getE d k) = false ∧ fo d s (k + 1) = fo d s k ∧ ino d s (k + 1) = ino d s k ∧ ro d (k + 1) = ro d k ∧ lsR d (k + 1) = lsR d k) ∨
    (rightB (getE d k) = true ∧ (getE d k).i = 0 ∧ ro d k < 0 ∧ fo d s (k + 1) = fo d s k ∧ ino d s (k + 1) = ino d s k ∧ ro d (k + 1) = k ∧ lsR d (k + 1) = lsR d k) ∨
    (rightB (getE d k) = true ∧ (getE d k).i = 0 ∧ ¬ ro d k < 0 ∧ fo d s (k + 1) = fo d s k ∧ ino d s (k + 1) = ino d s k ∧ ro d (k + 1) = ro d k ∧ lsR d (k + 1) = lsR d k) ∨
    (rightB (getE d k) = true ∧ 0 < (getE d k).i ∧ ¬ (getE d k).s.toList = s.toList ∧ fo d s (k + 1) = fo d s k ∧ ino d s (k + 1) = ino d s k ∧ ro d (k + 1) = ro d k ∧ lsR d (k + 1) = lsR d k ++ [getE d k]) ∨
    (rightB (getE d k) = true ∧ 0 < (getE d k).i ∧ (getE d k).s.toList = s.toList ∧ fo d s k < 0 ∧ fo d s (k + 1) = k ∧ ino d s (k + 1) = (getE d k).i ∧ ro d (k + 1) = ro d k ∧ lsR d (k + 1) = lsR d k ++ [getE d k]) ∨
    (rightB (getE d k) = true ∧ 0 < (getE d k).i ∧ (getE d k).s.toList = s.toList ∧ ¬ fo d s k < 0 ∧ fo d s (k + 1) = fo d s k ∧ ino d s (k + 1) = ino d s k ∧ ro d (k + 1) = ro d k ∧ lsR d (k + 1) = lsR d k ++ [getE d k]) := by
  have hh : hit d s k = (rightB (getE d k) && (decide (0 < (getE d k).i) && (getE d k).s.toList == s.toList)) := rfl
  have hf : free d k = (rightB (getE d k) && (getE d k).i == 0) := rfl
  have e1 : fo d s (k + 1) = if hit d s k = true ∧ fo d s k < 0 then (k : Int) else fo d s k := rfl
  have e2 : ino d s (k + 1) = if hit d s k = true ∧ fo d s k < 0 then (getE d k).i else ino d s k := rfl
  have e3 : ro d (k + 1) = if free d k = true ∧ ro d k < 0 then (k : Int) else ro d k := rfl
  have e4 : lsR d (k + 1) = if rightB (getE d k) = true ∧ 0 < (getE d k).i then lsR d k ++ [getE d k] else lsR d k := rfl
  cases hr : rightB (getE d k) with
  | false =>
    refine .inl ⟨rfl, ?_, ?_, ?_, ?_⟩
    · rw [e1, hh, hr]; simp
    · rw [e2, hh, hr]; simp
    · rw [e3, hf, hr]; simp
    · rw [e4, hr]; simp
  | true =>
    have hle : 0 ≤ (getE d k).i := (right_le hr).2.1
    rw [hh, hr, Bool.true_and] at e1 e2
    rw [hf, hr, Bool.true_and] at e3
    rw [hr] at e4
    by_cases hi : (getE d k).i = 0
    · have hi' : ¬ 0 < (getE d k).i := by omega
      have f1 : fo d s (k + 1) = fo d s k := by rw [e1]; simp [hi']
      have f2 : ino d s (k + 1) = ino d s k := by rw [e2]; simp [hi']
      have f4 : lsR d (k + 1) = lsR d k := by rw [e4]; simp [hi']
      by_cases hro : ro d k < 0
      · exact .inr (.inl ⟨rfl, hi, hro, f1, f2, by rw [e3]; simp [hi, hro], f4⟩)
      · exact .inr (.inr (.inl ⟨rfl, hi, hro, f1, f2, by rw [e3]; simp [hro], f4⟩))
    · have hi' : 0 < (getE d k).i := by omega
      have f3 : ro d (k + 1) = ro d k := by rw [e3]; simp [hi]
      have f4 : lsR d (k + 1) = lsR d k ++ [getE d k] := by rw [e4]; simp [hi']
      by_cases hs : (getE d k).s.toList = s.toList
      · by_cases hfo : fo d s k < 0
        · exact .inr (.inr (.inr (.inr (.inl ⟨rfl, hi', hs, hfo, by rw [e1]; simp [hi', hs, hfo], by rw [e2]; simp [hi', hs, hfo], f3, f4⟩))))
        · exact .inr (.inr (.inr (.inr (.inr ⟨rfl, hi', hs, hfo, by rw [e1]; simp [hfo], by rw [e2]; simp [hfo], f3, f4⟩))))
      · exact .inr (.inr (.inr (.inl ⟨rfl, hi', hs, by rw [e1]; simp [hs], by rw [e2]; simp [hs], f3, f4⟩)))
theorem all_use {d : Bk} {w : World} {r : Ending} (h : AllPost d w r) : ∃ A n c L, r = .returned (.tuple #[.slice A n c, .bool (rt d 4)]) ∧ RF ev 2 w A n L ∧ ((rt d 4 = true ∧ L = lsR d 4) ∨ (rt d 4 = false ∧ n = 0)) := by
  rcases h with ⟨h1, A, n, c, rfl, h3⟩ | ⟨h1, rfl⟩
  · obtain ⟨h4, h5⟩ := rt_yes h1
    exact ⟨A, n, c, _, by rw [h4], h3, .inl ⟨h4, h5.symm⟩⟩
  · have h4 := rt_no h1
    exact ⟨none, 0, 0, [], by rw [h4], RF.nil _ _ _ _, .inr ⟨h4, rfl⟩⟩
end Go.Proofs.YthihpejhhimkaaaDoor.Dir16
