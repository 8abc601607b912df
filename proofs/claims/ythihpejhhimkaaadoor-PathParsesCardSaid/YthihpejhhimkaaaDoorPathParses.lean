/- The law PathParses: any text has the names that the document says, or the error; what is printed of them is parsed as these. -/
import Derived.Test.YthihpejhhimkaaaDoorPath6
set_option linter.unusedVariables false
namespace Go.Proofs.YthihpejhhimkaaaDoor.PathParses
open Go.RowKit Go.Proofs.YthihpejhhimkaaaDoor.Base Go.Proofs.YthihpejhhimkaaaDoor.Row Go.Proofs.YthihpejhhimkaaaDoor.App Go.Proofs.YthihpejhhimkaaaDoor.Multi Go.Proofs.YthihpejhhimkaaaDoor.StEq Go.Proofs.YthihpejhhimkaaaDoor.Held Go.Proofs.YthihpejhhimkaaaDoor.Out Go.Proofs.YthihpejhhimkaaaDoor.HeldW Go.Proofs.YthihpejhhimkaaaDoor.HeldX Go.Proofs.YthihpejhhimkaaaDoor.Dir Go.Proofs.YthihpejhhimkaaaDoor.Path Go.Proofs.YthihpejhhimkaaaDoor.Path2 Go.Proofs.YthihpejhhimkaaaDoor.PathP Go.Proofs.YthihpejhhimkaaaDoor.Path3 Go.Proofs.YthihpejhhimkaaaDoor.Path4 Go.Proofs.YthihpejhhimkaaaDoor.Path5 Go.Proofs.YthihpejhhimkaaaDoor.Path6

/-- The names that are told, and their slice. -/
def OkP (w : World) (L : List ByteArray) (r : Ending) (w' : World) : Prop := (∃ A c, r = .returned (.tuple #[.slice A L.length c, .int .i64 0]) ∧ SL w' A L.length L ∧ L.length ≤ c) ∧ Below w.heap.size w w'
def ErrP (w : World) (k : Int) (r : Ending) (w' : World) : Prop := r = .returned (.tuple #[.slice none 0 0, .int .i64 k]) ∧ Below w.heap.size w w'
theorem parse_ok (s : ByteArray) (hs : s.size ≤ 1000) (L : List ByteArray) (h : res s = .ok L) (w : World) : Calls Tryd.prog 24 #[.string s] w fun e w' => OkP w L e w' :=
  (parse_q s hs w).mono fun e w' ⟨hB, hh⟩ => ⟨by
    rcases hh with ⟨k, hk, _⟩ | ⟨L', A, c, hk, _, he, ho⟩
    · rw [h] at hk; cases hk
    · rw [h] at hk
      injection hk with hk
      subst hk
      exact ⟨A, c, he, sl_own ho, own_cap ho⟩, hB⟩
theorem parse_err (s : ByteArray) (hs : s.size ≤ 1000) (k : Int) (h : res s = .error k) (w : World) : Calls Tryd.prog 24 #[.string s] w fun e w' => ErrP w k e w' :=
  (parse_q s hs w).mono fun e w' ⟨hB, hh⟩ => ⟨by
    rcases hh with ⟨k', hk, he⟩ | ⟨L', A, c, hk, _⟩
    · rw [h] at hk
      injection hk with hk
      subst hk
      exact he
    · exact absurd (h.symm.trans hk) (by simp), hB⟩
def OkR (w : World) (L : List ByteArray) (r : Ending) (w' : World) : Prop := (∃ A c, r = .returned (.tuple #[.slice A L.length c, .int .i64 0]) ∧ SL w' A L.length L) ∧ Below w.heap.size w w'
theorem rparse_ok (s : ByteArray) (hs : s.size ≤ 1000) (L : List ByteArray) (h : res s = .ok L) (w : World) : Calls Tryd.prog 25 #[.string s] w fun e w' => OkR w L e w' :=
  (rparse_c s hs w).mono fun e w' ⟨hB, hh⟩ => ⟨by
    rcases hh with ⟨k, hk, _⟩ | ⟨L', A, c, hk, he, ho⟩
    · rw [h] at hk; cases hk
    · rw [h] at hk
      injection hk with hk
      subst hk
      exact ⟨A, c, he, ho⟩, hB⟩
theorem rparse_err (s : ByteArray) (hs : s.size ≤ 1000) (k : Int) (h : res s = .error k) (w : World) : Calls Tryd.prog 25 #[.string s] w fun e w' => ErrP w k e w' :=
  (rparse_c s hs w).mono fun e w' ⟨hB, hh⟩ => ⟨by
    rcases hh with ⟨k', hk, he⟩ | ⟨L', A, c, hk, _⟩
    · rw [h] at hk
      injection hk with hk
      subst hk
      exact he
    · exact absurd (h.symm.trans hk) (by simp), hB⟩
theorem print_c (A : Option Addr) (c : Nat) (L : List ByteArray) (w : World) (h : SL w A L.length L) (hc : L.length ≤ c) (hok : ∀ x ∈ L, nameB x = true) (h8 : L.length ≤ 8) :
    Calls Tryd.prog 26 #[.slice A L.length c] w fun r w' => r = .returned (.string (prS L)) ∧ Below w.heap.size w w' := by
  cases L with
  | nil => exact print_nil A c w
  | cons x r => exact print_some A _ c (x :: r) w h (by simp) hc hok h8
/-- The text that is looked at. -/
def cut3 (s : ByteArray) : ByteArray := if 300 < s.size then s.extract 0 300 else s
theorem cut3_size (s : ByteArray) : (cut3 s).size ≤ 1000 := by
  unfold cut3
  split
  · rw [ByteArray.size_extract]; omega
  · omega
set_option maxRecDepth 100000 in
set_option maxHeartbeats 4000000 in
theorem main_err (s t : ByteArray) (k : Int) (ht : cut3 s = t) (h : res t = .error k) (hsz : t.size ≤ 1000) (hs : s.size ≤ 140737488351232) (w : World) :
    Calls Tryd.prog 7 #[.string s] w fun e w' => e = .returned (.bool true) ∧ Below w.heap.size w w' := by
  have HP := Lib.hid (fun w => parse_err t hsz k h w)
  have HR := Lib.hid (fun w => rparse_err t hsz k h w)
  have HE := Lib.hid (fun w => same_c none none 0 0 0 0 [] [] w (RF.nil _ _ _ _) (RF.nil _ _ _ _))
  have HA := Lib.hid (fun w => awake_c w)
  rw [decide_eq_true rfl] at HE
  have hk := res_err0 h
  have q1 : (k != k) = false := by simp
  have q2 : (k != 0) = true := by simpa using hk
  have B := bl_refl w
  by_cases h3 : 300 < s.size
  · have HT : Hid (s.extract 0 300 = t) := Lib.hid (by rw [← ht]; unfold cut3; rw [if_pos h3])
    have p1 : decide ((300 : Int) < (s.size : Int)) = true := by simp; omega
    have p2 : decide (300 ≤ s.size) = true := by simp; omega
    have p3 : (300 : Int) ≤ (s.size : Int) := by omega
    have p4 : (300 : Int) < (s.size : Int) := by omega
    have p5 : decide ((300 : Int) ≤ (s.size : Int)) = true := by simp; omega
    clear h ht hk h3
    rw [← HT.out] at HP HR
    go_enter Tryd.func7, Tryd.ntmps7
    go_wp2_with (first
      | (go_at_call 24; refine (HP.out _).mono ?_; clear HP; rintro r w1 ⟨rfl, b1⟩; have B := bl_then B b1; clear b1)
      | (go_at_call 25; refine (HR.out _).mono ?_; clear HR; rintro r w2 ⟨rfl, b1⟩; have B := bl_then B b1; clear b1)
      | (go_at_call 21; refine (HE.out _).mono ?_; clear HE; rintro r w3 ⟨rfl, b1⟩; have B := bl_then B b1; clear b1)
      | (go_at_call 23; refine (HA.out _).mono ?_; clear HA; rintro r w4 ⟨rfl, b1⟩; have B := bl_then B b1; clear b1))
    go_ret
    exact ⟨rfl, B⟩
  · have HT : Hid (s = t) := Lib.hid (by rw [← ht]; unfold cut3; rw [if_neg h3])
    have p1 : decide ((300 : Int) < (s.size : Int)) = false := by simp; omega
    have p4 : ¬ (300 : Int) < (s.size : Int) := by omega
    clear h ht hk h3
    rw [← HT.out] at HP HR
    go_enter Tryd.func7, Tryd.ntmps7
    go_wp2_with (first
      | (go_at_call 24; refine (HP.out _).mono ?_; clear HP; rintro r w1 ⟨rfl, b1⟩; have B := bl_then B b1; clear b1)
      | (go_at_call 25; refine (HR.out _).mono ?_; clear HR; rintro r w2 ⟨rfl, b1⟩; have B := bl_then B b1; clear b1)
      | (go_at_call 21; refine (HE.out _).mono ?_; clear HE; rintro r w3 ⟨rfl, b1⟩; have B := bl_then B b1; clear b1)
      | (go_at_call 23; refine (HA.out _).mono ?_; clear HA; rintro r w4 ⟨rfl, b1⟩; have B := bl_then B b1; clear b1))
    go_ret
    exact ⟨rfl, B⟩
set_option maxRecDepth 100000 in
set_option maxHeartbeats 4000000 in
theorem main_ok (s t : ByteArray) (L : List ByteArray) (ht : cut3 s = t) (h : res t = .ok L) (hsz : t.size ≤ 1000) (hs : s.size ≤ 140737488351232) (w : World) :
    Calls Tryd.prog 7 #[.string s] w fun e w' => e = .returned (.bool true) ∧ Below w.heap.size w w' := by
  have HP := Lib.hid (fun w => parse_ok t hsz L h w)
  have HP2 := Lib.hid (fun w => parse_ok (prS L) (prS_size h) L (res_back h) w)
  have HR := Lib.hid (fun w => rparse_ok t hsz L h w)
  obtain ⟨hok, h8⟩ := res_names h
  have HE := Lib.hid (fun A1 c1 A2 c2 w h1 h2 => same_c A1 A2 L.length c1 L.length c2 L L w h1 h2)
  have HE2 := HE
  have HPR := Lib.hid (fun A c w h1 h2 => print_c A c L w h1 h2 hok h8)
  have HRP := Lib.hid (fun A c w h1 => rprint_c A L.length c L w h1 hok h8)
  have HA := Lib.hid (fun w => awake_c w)
  rw [decide_eq_true rfl] at HE HE2
  have B := bl_refl w
  have q1 : ((prS L).toList == (prS L).toList) = true := by simp
  by_cases h3 : 300 < s.size
  · have HT : Hid (s.extract 0 300 = t) := Lib.hid (by rw [← ht]; unfold cut3; rw [if_pos h3])
    have p1 : decide ((300 : Int) < (s.size : Int)) = true := by simp; omega
    have p2 : decide (300 ≤ s.size) = true := by simp; omega
    have p3 : (300 : Int) ≤ (s.size : Int) := by omega
    have p4 : (300 : Int) < (s.size : Int) := by omega
    have p5 : decide ((300 : Int) ≤ (s.size : Int)) = true := by simp; omega
    clear h ht h3 hok h8
    rw [← HT.out] at HP HR
    generalize prS L = p at *
    go_enter Tryd.func7, Tryd.ntmps7
    go_wp2_with (first
      | (go_at_call 24; refine (HP.out _).mono ?_; clear HP; rintro r w1 ⟨⟨A1, c1, rfl, S1, hc1⟩, b1⟩; have H1 := Lib.hid S1; clear S1; have B := bl_then B b1; clear b1)
      | (go_at_call 25; refine (HR.out _).mono ?_; clear HR; rintro r w2 ⟨⟨A2, c2, rfl, S2⟩, b1⟩; have H2 := Lib.hid S2; clear S2; have H1 := Lib.hid (H1.out.below b1); have B := bl_then B b1; clear b1)
      | (go_at_call 21; refine (HE.out _ _ _ _ _ H1.out H2.out).mono ?_; clear HE; rintro r w3 ⟨rfl, b1⟩; have H1 := Lib.hid (H1.out.below b1); have H2 := Lib.hid (H2.out.below b1); have B := bl_then B b1; clear b1)
      | (go_at_call 26; refine (HPR.out _ _ _ H1.out hc1).mono ?_; clear HPR; rintro r w4 ⟨rfl, b1⟩; have H1 := Lib.hid (H1.out.below b1); have H2 := Lib.hid (H2.out.below b1); have B := bl_then B b1; clear b1)
      | (go_at_call 24; refine (HP2.out _).mono ?_; clear HP2; rintro r w5 ⟨⟨A3, c3, rfl, S3, hc3⟩, b1⟩; have H3 := Lib.hid S3; clear S3; have H1 := Lib.hid (H1.out.below b1); have H2 := Lib.hid (H2.out.below b1); have B := bl_then B b1; clear b1)
      | (go_at_call 27; refine (HRP.out _ _ _ H2.out).mono ?_; clear HRP; rintro r w6 ⟨rfl, b1⟩; have H1 := Lib.hid (H1.out.below b1); have H3 := Lib.hid (H3.out.below b1); have B := bl_then B b1; clear b1)
      | (go_at_call 21; refine (HE2.out _ _ _ _ _ H3.out H1.out).mono ?_; clear HE2; rintro r w7 ⟨rfl, b1⟩; have B := bl_then B b1; clear b1)
      | (go_at_call 23; refine (HA.out _).mono ?_; clear HA; rintro r w8 ⟨rfl, b1⟩; have B := bl_then B b1; clear b1))
    go_ret
    exact ⟨rfl, B⟩
  · have HT : Hid (s = t) := Lib.hid (by rw [← ht]; unfold cut3; rw [if_neg h3])
    have p1 : decide ((300 : Int) < (s.size : Int)) = false := by simp; omega
    have p4 : ¬ (300 : Int) < (s.size : Int) := by omega
    clear h ht h3 hok h8
    rw [← HT.out] at HP HR
    generalize prS L = p at *
    go_enter Tryd.func7, Tryd.ntmps7
    go_wp2_with (first
      | (go_at_call 24; refine (HP.out _).mono ?_; clear HP; rintro r w1 ⟨⟨A1, c1, rfl, S1, hc1⟩, b1⟩; have H1 := Lib.hid S1; clear S1; have B := bl_then B b1; clear b1)
      | (go_at_call 25; refine (HR.out _).mono ?_; clear HR; rintro r w2 ⟨⟨A2, c2, rfl, S2⟩, b1⟩; have H2 := Lib.hid S2; clear S2; have H1 := Lib.hid (H1.out.below b1); have B := bl_then B b1; clear b1)
      | (go_at_call 21; refine (HE.out _ _ _ _ _ H1.out H2.out).mono ?_; clear HE; rintro r w3 ⟨rfl, b1⟩; have H1 := Lib.hid (H1.out.below b1); have H2 := Lib.hid (H2.out.below b1); have B := bl_then B b1; clear b1)
      | (go_at_call 26; refine (HPR.out _ _ _ H1.out hc1).mono ?_; clear HPR; rintro r w4 ⟨rfl, b1⟩; have H1 := Lib.hid (H1.out.below b1); have H2 := Lib.hid (H2.out.below b1); have B := bl_then B b1; clear b1)
      | (go_at_call 24; refine (HP2.out _).mono ?_; clear HP2; rintro r w5 ⟨⟨A3, c3, rfl, S3, hc3⟩, b1⟩; have H3 := Lib.hid S3; clear S3; have H1 := Lib.hid (H1.out.below b1); have H2 := Lib.hid (H2.out.below b1); have B := bl_then B b1; clear b1)
      | (go_at_call 27; refine (HRP.out _ _ _ H2.out).mono ?_; clear HRP; rintro r w6 ⟨rfl, b1⟩; have H1 := Lib.hid (H1.out.below b1); have H3 := Lib.hid (H3.out.below b1); have B := bl_then B b1; clear b1)
      | (go_at_call 21; refine (HE2.out _ _ _ _ _ H3.out H1.out).mono ?_; clear HE2; rintro r w7 ⟨rfl, b1⟩; have B := bl_then B b1; clear b1)
      | (go_at_call 23; refine (HA.out _).mono ?_; clear HA; rintro r w8 ⟨rfl, b1⟩; have B := bl_then B b1; clear b1))
    go_ret
    exact ⟨rfl, B⟩
theorem walk (s : ByteArray) (w : World) (hs : s.size ≤ 140737488351232) :
    Calls Tryd.prog 7 #[.string s] w fun e w' => e = .returned (.bool true) ∧ Below w.heap.size w w' := by
  cases h : res (cut3 s) with
  | error k => exact main_err s _ k rfl h (cut3_size s) hs w
  | ok L => exact main_ok s _ L rfl h (cut3_size s) hs w
end Go.Proofs.YthihpejhhimkaaaDoor.PathParses
