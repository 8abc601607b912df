/- Package path: what Parse tells of a given text; the law's awake. -/
import Derived.Test.YthihpejhhimkaaaDoorPath3
set_option linter.unusedVariables false
namespace Go.Proofs.YthihpejhhimkaaaDoor.Path4
open Go.RowKit Go.Proofs.YthihpejhhimkaaaDoor.Base Go.Proofs.YthihpejhhimkaaaDoor.Row Go.Proofs.YthihpejhhimkaaaDoor.App Go.Proofs.YthihpejhhimkaaaDoor.Multi Go.Proofs.YthihpejhhimkaaaDoor.StEq Go.Proofs.YthihpejhhimkaaaDoor.Held Go.Proofs.YthihpejhhimkaaaDoor.Out Go.Proofs.YthihpejhhimkaaaDoor.HeldW Go.Proofs.YthihpejhhimkaaaDoor.HeldX Go.Proofs.YthihpejhhimkaaaDoor.Dir Go.Proofs.YthihpejhhimkaaaDoor.Path Go.Proofs.YthihpejhhimkaaaDoor.Path2 Go.Proofs.YthihpejhhimkaaaDoor.PathP Go.Proofs.YthihpejhhimkaaaDoor.Path3

theorem map_tl_inj : ∀ {a b : List ByteArray}, a.map tl = b.map tl → a = b
  | [], [], _ => rfl
  | [], _ :: _, h => by simp at h
  | _ :: _, [], h => by simp at h
  | x :: a, y :: b, h => by
    simp only [List.map_cons, List.cons.injEq] at h
    rw [tl_ext h.1, map_tl_inj h.2]
/-- The parts of a text, as texts. -/
def segs (s : ByteArray) : List ByteArray := (parts ((tl s).drop 1)).map fun l => ⟨l.toArray⟩
theorem segs_of {s : ByteArray} {xs : List ByteArray} (h : xs.map tl = parts ((tl s).drop 1)) : xs = segs s := by
  refine map_tl_inj ?_
  rw [h, segs, List.map_map]
  exact (List.map_id _).symm
/-- What Parse tells, in one word. -/
def res (s : ByteArray) : Except Int (List ByteArray) := if abs_ s = true then run [] (segs s) else .error 1
def ParseQ (w : World) (s : ByteArray) (e : Ending) (w' : World) : Prop :=
  Below w.heap.size w w' ∧
  ((∃ k, res s = .error k ∧ e = .returned (.tuple #[.slice none 0 0, .int .i64 k])) ∨
   (∃ L A c, res s = .ok L ∧ L.length ≤ 8 ∧ e = .returned (.tuple #[.slice A L.length c, .int .i64 0]) ∧ w'.ownsRow w.heap.size 9 1 (.slice A L.length c) L.length (L.flatMap ss)))
theorem parse_q (s : ByteArray) (hs : s.size ≤ 1000) (w : World) :
    Calls Tryd.prog 24 #[.string s] w fun e w' => ParseQ w s e w' :=
  (parse_c s hs w).mono fun e w' ⟨hB, h⟩ => ⟨hB, by
    rcases h with ⟨h1, h2⟩ | ⟨h1, xs, hx, (⟨k, hk, he⟩ | ⟨L, A, c, hk, h8, he, ho⟩)⟩
    · exact .inl ⟨1, by unfold res; rw [if_neg (by rw [h1]; simp)], h2⟩
    · exact .inl ⟨k, by unfold res; rw [if_pos h1, ← segs_of hx, hk], he⟩
    · exact .inr ⟨L, A, c, by unfold res; rw [if_pos h1, ← segs_of hx, hk], h8, he, ho⟩⟩
theorem res_a : res ⟨#[47, 97, 47, 46, 47, 98, 47, 46, 46, 47, 99, 47]⟩ = .ok [⟨#[97]⟩, ⟨#[99]⟩] := by
  unfold res
  rw [if_pos (by decide), show segs ⟨#[47, 97, 47, 46, 47, 98, 47, 46, 46, 47, 99, 47]⟩ = [⟨#[97]⟩, ⟨#[46]⟩, ⟨#[98]⟩, ⟨#[46, 46]⟩, ⟨#[99]⟩, ⟨#[]⟩] by rfl]
  have n97 : nameB ⟨#[97]⟩ = true := by unfold nameB; simp only [toList_tl]; decide
  have n98 : nameB ⟨#[98]⟩ = true := by unfold nameB; simp only [toList_tl]; decide
  have n99 : nameB ⟨#[99]⟩ = true := by unfold nameB; simp only [toList_tl]; decide
  have t97 : (⟨#[97]⟩ : ByteArray).toList = [97] := by rw [toList_tl]; rfl
  have t98 : (⟨#[98]⟩ : ByteArray).toList = [98] := by rw [toList_tl]; rfl
  have t99 : (⟨#[99]⟩ : ByteArray).toList = [99] := by rw [toList_tl]; rfl
  have t46 : (⟨#[46]⟩ : ByteArray).toList = [46] := by rw [toList_tl]; rfl
  have t2 : (⟨#[46, 46]⟩ : ByteArray).toList = [46, 46] := by rw [toList_tl]; rfl
  have t0 : (⟨#[]⟩ : ByteArray).toList = [] := by rw [toList_tl]; rfl
  simp [run, n97, n98, n99, t97, t98, t99, t46, t2, t0]
theorem res_u : res ⟨#[47, 46, 46]⟩ = .ok [] := by
  unfold res
  rw [if_pos (by decide), show segs ⟨#[47, 46, 46]⟩ = [⟨#[46, 46]⟩] by rfl]
  have t2 : (⟨#[46, 46]⟩ : ByteArray).toList = [46, 46] := by rw [toList_tl]; rfl
  simp [run, t2]
theorem sl_two {W : World} {g : Nat} {t : TypeId} {x y : ByteArray} (h : Blk W g t #[.string x, .string y]) : SL W (some ⟨g, 0, none⟩) 2 [x, y] :=
  ⟨rfl, by omega, fun _ => ⟨g, 0, rfl, fun i z hz j v hv => by
    unfold ss at hv
    have hj : j = 0 := by
      have := (List.getElem?_eq_some_iff.1 hv).1
      simpa using this
    subst hj
    simp at hv
    subst hv
    rw [Nat.mul_one, Nat.add_zero, Nat.zero_add]
    match i, hz with
    | 0, hz => simp at hz; subst hz; exact h.cellv 0 _ rfl
    | 1, hz => simp at hz; subst hz; exact h.cellv 1 _ rfl⟩⟩
theorem sl_own {W : World} {b : Nat} {A : Option Addr} {n c : Nat} {l : List ByteArray} (h : W.ownsRow b 9 1 (.slice A n c) n (l.flatMap ss)) : SL W A n l := RF.of_own ss_len (by decide) h
def PA (w : World) (n : Nat) (l : List ByteArray) (r : Ending) (w' : World) : Prop := (∃ A c, r = .returned (.tuple #[.slice A n c, .int .i64 0]) ∧ SL w' A n l) ∧ Below w.heap.size w w'
theorem pa_c (s : ByteArray) (hs : s.size ≤ 1000) (L : List ByteArray) (h : res s = .ok L) (w : World) : Calls Tryd.prog 24 #[.string s] w fun e w' => PA w L.length L e w' :=
  (parse_q s hs w).mono fun e w' ⟨hB, hh⟩ => ⟨by
    rcases hh with ⟨k, hk, _⟩ | ⟨L', A, c, hk, _, he, ho⟩
    · rw [h] at hk; cases hk
    · rw [h] at hk
      injection hk with hk
      subst hk
      exact ⟨A, c, he, sl_own ho⟩, hB⟩
set_option maxRecDepth 100000 in
set_option maxHeartbeats 2000000 in
theorem awake_c (w : World) : Calls Tryd.prog 23 #[] w fun e w' => e = .returned (.bool true) ∧ Below w.heap.size w w' := by
  have h1 := Lib.hid (fun w => pa_c ⟨#[47, 97, 47, 46, 47, 98, 47, 46, 46, 47, 99, 47]⟩ (by decide) _ res_a w)
  have h2 := Lib.hid (fun w => pa_c ⟨#[47, 46, 46]⟩ (by decide) _ res_u w)
  go_enter Tryd.func23, Tryd.ntmps23
  go_wp2_with (first
    | (go_at_call 24; refine (h1.out _).mono ?_; clear h1; rintro r w1 ⟨⟨A1, c1, rfl, S1⟩, b1⟩; change SL w1 A1 2 _ at S1)
    | (go_at_call 24; refine (h2.out _).mono ?_; clear h2; rintro r w2 ⟨⟨A2, c2, rfl, S2⟩, b2⟩; have S1 := S1.below b2; have b12 := bl_then b1 b2)
    | (go_at_call 21; refine (same_c A1 _ 2 c1 2 2 _ [⟨#[97]⟩, ⟨#[99]⟩] _ (S1.below (bl_alloc (bl_refl w2) (.cells #[.string ⟨#[97]⟩, .string ⟨#[99]⟩] 9))) (sl_two (Blk.new w2 9 #[.string ⟨#[97]⟩, .string ⟨#[99]⟩]))).mono ?_; rintro r w3 ⟨rfl, b3⟩; rw [decide_eq_true rfl]; have b13 := bl_then (bl_alloc b12 _) b3))
  go_ret
  exact ⟨rfl, b13⟩
end Go.Proofs.YthihpejhhimkaaaDoor.Path4
