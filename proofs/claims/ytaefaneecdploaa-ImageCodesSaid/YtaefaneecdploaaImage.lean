/- Contracts of image's functions and of the reference's. -/
import Derived.Test.YtaefaneecdploaaRef01
import Derived.Test.YtaefaneecdploaaRow
set_option linter.unusedVariables false
namespace Go.Proofs.Ytaefaneecdploaa.Image
open Go.RowKit Go.Proofs.Ytaefaneecdploaa.Base Go.Proofs.Ytaefaneecdploaa.Math Go.Proofs.Ytaefaneecdploaa.Word Go.Proofs.Ytaefaneecdploaa.Ref01 Go.Proofs.Ytaefaneecdploaa.Row

/-- May an image be? -/
def right (e p : Int) (n : Nat) : Bool := decide ((1 ≤ p ∧ p ≤ 32 ∧ (n : Int) ≤ p * 16 ∧ 4 * (4 + (n : Int)) ≤ 2560) ∧ e % 4 = 0 ∧ e < p * 64)
theorem right_no {e p : Int} {n : Nat} (h : ¬ ((1 ≤ p ∧ p ≤ 32 ∧ (n : Int) ≤ p * 16 ∧ 4 * (4 + (n : Int)) ≤ 2560) ∧ e % 4 = 0 ∧ e < p * 64)) : Hid (right e p n = false) := decide_eq_false h
theorem right_yes {e p : Int} {n : Nat} (h : (1 ≤ p ∧ p ≤ 32 ∧ (n : Int) ≤ p * 16 ∧ 4 * (4 + (n : Int)) ≤ 2560) ∧ e % 4 = 0 ∧ e < p * 64) : Hid (right e p n = true) := decide_eq_true h

/-- The ways that the test goes. -/
theorem ways (e p : Int) (n : Nat) (hn : (n : Int) ≤ 9223372036854775807) :
    (decide (1 ≤ p) = false ∧ decide (p < 1) = true ∧ Hid (right e p n = false)) ∨
    (decide (1 ≤ p) = true ∧ decide (p < 1) = false ∧ decide (p ≤ 32) = false ∧ decide (32 < p) = true ∧ Hid (right e p n = false)) ∨
    (decide (1 ≤ p) = true ∧ decide (p < 1) = false ∧ decide (p ≤ 32) = true ∧ decide (32 < p) = false ∧ wrap64 (p * 16) = p * 16 ∧ wrap64 (16 * p) = p * 16 ∧ decide ((n : Int) ≤ p * 16) = false ∧ decide (p * 16 < (n : Int)) = true ∧ Hid (right e p n = false)) ∨
    (decide (1 ≤ p) = true ∧ decide (p < 1) = false ∧ decide (p ≤ 32) = true ∧ decide (32 < p) = false ∧ wrap64 (p * 16) = p * 16 ∧ wrap64 (16 * p) = p * 16 ∧ decide ((n : Int) ≤ p * 16) = true ∧ decide (p * 16 < (n : Int)) = false ∧ True) := by
  by_cases h1 : 1 ≤ p
  · by_cases h2 : p ≤ 32
    · by_cases h3 : (n : Int) ≤ p * 16
      · refine .inr (.inr (.inr ⟨by simpa using h1, by simpa using h1, by simpa using h2, by simpa using h2, ?_, ?_, by simpa using h3, by simpa using h3, trivial⟩)) <;> unfold wrap64 <;> omega
      · refine .inr (.inr (.inl ⟨by simpa using h1, by simpa using h1, by simpa using h2, by simpa using h2, ?_, ?_, by simpa using h3, by simpa using h3, right_no (fun h => h3 h.1.2.2.1)⟩)) <;> unfold wrap64 <;> omega
    · exact .inr (.inl ⟨by simpa using h1, by simpa using h1, by simpa using h2, by simpa using h2, right_no (fun h => h2 h.1.2.1)⟩)
  · exact .inl ⟨by simpa using h1, by simpa using h1, right_no (fun h => h1 h.1.1)⟩

set_option maxHeartbeats 4000000 in
theorem right_c (e p : Int) (A : Option Addr) (n c : Nat) (w : World) (he : 0 ≤ e ∧ e < 4294967296) (hn : (n : Int) ≤ 9223372036854775807) :
    Calls Try.prog 44 #[.agg #[.int .u32 e, .int .i64 p, .slice A n c]] w fun r w' => r = .returned (.bool (right e p n)) ∧ Below w.heap.size w w' := by
  obtain ⟨he0, he1⟩ := he
  rcases ways e p n hn with ⟨q1, -, q⟩ | ⟨q1, -, q2, -, q⟩ | ⟨q1, -, q2, -, m1, -, q3, -, q⟩ | ⟨q1, -, q2, -, m1, -, q3, -, -⟩
  · go_enter Try.func44, Try.ntmps44
    go_wp2
    go_ret
    exact ⟨by rw [q.out]; rfl, bl_alloc (bl_refl w) _⟩
  · go_enter Try.func44, Try.ntmps44
    go_wp2
    go_ret
    exact ⟨by rw [q.out]; rfl, bl_alloc (bl_refl w) _⟩
  · go_enter Try.func44, Try.ntmps44
    go_wp2
    go_ret
    exact ⟨by rw [q.out]; rfl, bl_alloc (bl_refl w) _⟩
  · have p1 : 1 ≤ p := by simpa using q1
    have p2 : p ≤ 32 := by simpa using q2
    have p3 : (n : Int) ≤ p * 16 := by simpa using q3
    have m2 : wrap64 (4 + (n : Int)) = 4 + (n : Int) := by unfold wrap64; omega
    have m3 : wrap64 (4 * (4 + (n : Int))) = 4 * (4 + (n : Int)) := by unfold wrap64; omega
    have q4 : decide (4 * (4 + (n : Int)) ≤ 2560) = true := by simp; omega
    have m4 : wrap64 (p * 64) = p * 64 := by unfold wrap64; omega
    have m5 : IntKind.u32.wrap (p * 64) = p * 64 := by rw [IntKind.wrap_u32']; omega
    have m6 : e.tmod 4 = e % 4 := by rw [Int.tmod_eq_emod_of_nonneg he0]
    by_cases h5 : e % 4 = 0
    · have q5 : (e % 4 == 0) = true := by simp [h5]
      by_cases h6 : e < p * 64
      · have q6 : decide (e < p * 64) = true := by simpa using h6
        have q := right_yes (e := e) (p := p) (n := n) ⟨⟨p1, p2, p3, by omega⟩, h5, h6⟩
        clear h5 h6 p1 p2 p3
        go_enter Try.func44, Try.ntmps44
        go_wp2
        go_ret
        exact ⟨by rw [q.out]; rfl, bl_alloc (bl_refl w) _⟩
      · have q6 : decide (e < p * 64) = false := by simpa using h6
        have q := right_no (e := e) (p := p) (n := n) (fun h => h6 h.2.2)
        clear h5 h6 p1 p2 p3
        go_enter Try.func44, Try.ntmps44
        go_wp2
        go_ret
        exact ⟨by rw [q.out]; rfl, bl_alloc (bl_refl w) _⟩
    · have q5 : (e % 4 == 0) = false := by simp [h5]
      have q := right_no (e := e) (p := p) (n := n) (fun h => h5 h.2.1)
      clear h5 p1 p2 p3
      go_enter Try.func44, Try.ntmps44
      go_wp2
      go_ret
      exact ⟨by rw [q.out]; rfl, bl_alloc (bl_refl w) _⟩
set_option maxHeartbeats 4000000 in
theorem refright_c (e p : Int) (A : Option Addr) (n c : Nat) (w : World) (he : 0 ≤ e ∧ e < 4294967296) (hn : (n : Int) ≤ 9223372036854775807) :
    Calls Try.prog 43 #[.agg #[.int .u32 e, .int .i64 p, .slice A n c]] w fun r w' => r = .returned (.bool (right e p n)) ∧ Below w.heap.size w w' := by
  obtain ⟨he0, he1⟩ := he
  rcases ways e p n hn with ⟨-, q1, q⟩ | ⟨-, q1, -, q2, q⟩ | ⟨-, q1, -, q2, -, m1, -, q3, q⟩ | ⟨-, q1, -, q2, -, m1, -, q3, -⟩
  · go_enter Try.func43, Try.ntmps43
    go_wp2
    go_ret
    exact ⟨by rw [q.out]; rfl, bl_alloc (bl_refl w) _⟩
  · go_enter Try.func43, Try.ntmps43
    go_wp2
    go_ret
    exact ⟨by rw [q.out]; rfl, bl_alloc (bl_refl w) _⟩
  · go_enter Try.func43, Try.ntmps43
    go_wp2
    go_ret
    exact ⟨by rw [q.out]; rfl, bl_alloc (bl_refl w) _⟩
  · have p1 : 1 ≤ p := by simpa using q1
    have p2 : p ≤ 32 := by simpa using q2
    have p3 : (n : Int) ≤ p * 16 := by simpa using q3
    have m2 : wrap64 (4 * (n : Int)) = 4 * (n : Int) := by unfold wrap64; omega
    have m3 : wrap64 (16 + 4 * (n : Int)) = 16 + 4 * (n : Int) := by unfold wrap64; omega
    have q4 : decide (2560 < 16 + 4 * (n : Int)) = false := by simp; omega
    have m4 : wrap64 (64 * p) = p * 64 := by unfold wrap64; omega
    have m5 : wrap64 e = e := by unfold wrap64; omega
    have m6 : e.tmod 4 = e % 4 := by rw [Int.tmod_eq_emod_of_nonneg he0]
    by_cases h5 : e % 4 = 0
    · have q5 : (e % 4 == 0) = true := by simp [h5]
      by_cases h6 : e < p * 64
      · have q6 : decide (e < p * 64) = true := by simpa using h6
        have q := right_yes (e := e) (p := p) (n := n) ⟨⟨p1, p2, p3, by omega⟩, h5, h6⟩
        clear h5 h6 p1 p2 p3
        go_enter Try.func43, Try.ntmps43
        go_wp2
        go_ret
        exact ⟨by rw [q.out]; rfl, bl_alloc (bl_refl w) _⟩
      · have q6 : decide (e < p * 64) = false := by simpa using h6
        have q := right_no (e := e) (p := p) (n := n) (fun h => h6 h.2.2)
        clear h5 h6 p1 p2 p3
        go_enter Try.func43, Try.ntmps43
        go_wp2
        go_ret
        exact ⟨by rw [q.out]; rfl, bl_alloc (bl_refl w) _⟩
    · have q5 : (e % 4 == 0) = false := by simp [h5]
      have q := right_no (e := e) (p := p) (n := n) (fun h => h5 h.2.1)
      clear h5 p1 p2 p3
      go_enter Try.func43, Try.ntmps43
      go_wp2
      go_ret
      exact ⟨by rw [q.out]; rfl, bl_alloc (bl_refl w) _⟩

def row3 (e p : Int) (v : Value) : Array Value := #[.int .u32 e, .int .i64 p, v]
theorem one3 (e p : Int) (A : Option Addr) (n c : Nat) : ∀ v ∈ row3 e p (.slice A n c), v.oneCell' = true := by
  intro v hv
  simp [row3] at hv
  rcases hv with rfl | rfl | rfl <;> rfl
theorem size64 (v : Array Value) (h : v.size = 3) : (Try.prog.info? 64).map (·.size) = some v.size := by rw [h]; kernel_rfl
theorem size61 (v : Array Value) (h : v.size = 3) : (Try.prog.info? 61).map (·.size) = some v.size := by rw [h]; kernel_rfl
theorem zero64 : Try.prog.built 64 [] = some (row3 0 0 (.slice none 0 0)) := by kernel_rfl
theorem zero61 : Try.prog.built 61 [] = some (row3 0 0 (.slice none 0 0)) := by kernel_rfl
theorem new64 : (Try.prog.info? 64).map (fun i => i.zero.map (·.cells)) = some (some (row3 0 0 (.slice none 0 0))) := by kernel_rfl
theorem new61 : (Try.prog.info? 61).map (fun i => i.zero.map (·.cells)) = some (some (row3 0 0 (.slice none 0 0))) := by kernel_rfl

/-- Do bytes hold an image? -/
def okB (xs : List Int) : Bool := decide (xs.length % 4 = 0 ∧ 4 ≤ (words xs).length ∧ (words xs)[0]?.getD 0 = 1196445263 ∧ (words xs)[3]?.getD 0 = ((words xs).length : Int) - 4 ∧ right ((words xs)[1]?.getD 0) ((words xs)[2]?.getD 0) ((words xs).length - 4) = true)
def dE (xs : List Int) : Int := if okB xs then (words xs)[1]?.getD 0 else 0
def dP (xs : List Int) : Int := if okB xs then (words xs)[2]?.getD 0 else 0
def dW (xs : List Int) : List Int := if okB xs then (words xs).drop 4 else []
theorem no_all {xs : List Int} (h : okB xs = false) : Hid (okB xs = false ∧ dE xs = 0 ∧ dP xs = 0 ∧ dW xs = []) := Lib.hid ⟨h, by simp [dE, h], by simp [dP, h], by simp [dW, h]⟩
theorem yes_all {xs : List Int} (h : okB xs = true) : Hid (okB xs = true ∧ dE xs = (words xs)[1]?.getD 0 ∧ dP xs = (words xs)[2]?.getD 0 ∧ dW xs = (words xs).drop 4) := Lib.hid ⟨h, by simp [dE, h], by simp [dP, h], by simp [dW, h]⟩

theorem w4_range (xs : List Int) (hx : ∀ x ∈ xs, 0 ≤ x ∧ x < 256) (j : Nat) : 0 ≤ w4 xs j ∧ w4 xs j < 4294967296 := by
  have h0 := getD_mem_range hx (by omega) (4 * j)
  have h1 := getD_mem_range hx (by omega) (4 * j + 1)
  have h2 := getD_mem_range hx (by omega) (4 * j + 2)
  have h3 := getD_mem_range hx (by omega) (4 * j + 3)
  unfold w4; omega
theorem words_range (xs : List Int) (hx : ∀ x ∈ xs, 0 ≤ x ∧ x < 256) : ∀ y ∈ words xs, 0 ≤ y ∧ y < 4294967296 := by
  intro y hy
  obtain ⟨j, _, rfl⟩ := List.mem_map.1 hy
  exact w4_range xs hx j

/-- The ways that the tests go. -/
theorem dways (xs : List Int) (ws : List Int) (L : Nat) (hws : words xs = ws) (hL : ws.length = L) :
    (¬ xs.length % 4 = 0 ∧ okB xs = false) ∨
    (xs.length % 4 = 0 ∧ L < 4 ∧ okB xs = false) ∨
    (xs.length % 4 = 0 ∧ 4 ≤ L ∧ ¬ ws[0]?.getD 0 = (1196445263 : Int) ∧ okB xs = false) ∨
    (xs.length % 4 = 0 ∧ 4 ≤ L ∧ ws[0]?.getD 0 = (1196445263 : Int) ∧ (32 : Int) < ws[2]?.getD 0 ∧ okB xs = false) ∨
    (xs.length % 4 = 0 ∧ 4 ≤ L ∧ ws[0]?.getD 0 = (1196445263 : Int) ∧ ws[2]?.getD 0 ≤ (32 : Int) ∧ ¬ ws[3]?.getD 0 = (L : Int) - 4 ∧ okB xs = false) ∨
    (xs.length % 4 = 0 ∧ 4 ≤ L ∧ ws[0]?.getD 0 = (1196445263 : Int) ∧ ws[2]?.getD 0 ≤ (32 : Int) ∧ ws[3]?.getD 0 = (L : Int) - 4 ∧ right (ws[1]?.getD 0) (ws[2]?.getD 0) (L - 4) = false ∧ okB xs = false) ∨
    (xs.length % 4 = 0 ∧ 4 ≤ L ∧ ws[0]?.getD 0 = (1196445263 : Int) ∧ ws[2]?.getD 0 ≤ (32 : Int) ∧ ws[3]?.getD 0 = (L : Int) - 4 ∧ right (ws[1]?.getD 0) (ws[2]?.getD 0) (L - 4) = true ∧ okB xs = true) := by
  subst hws
  subst hL
  by_cases h1 : xs.length % 4 = 0
  · by_cases h2 : 4 ≤ (words xs).length
    · by_cases h3 : (words xs)[0]?.getD 0 = 1196445263
      · by_cases h4 : (words xs)[2]?.getD 0 ≤ 32
        · by_cases h5 : (words xs)[3]?.getD 0 = ((words xs).length : Int) - 4
          · by_cases h6 : right ((words xs)[1]?.getD 0) ((words xs)[2]?.getD 0) ((words xs).length - 4) = true
            · exact .inr (.inr (.inr (.inr (.inr (.inr ⟨h1, h2, h3, h4, h5, h6, decide_eq_true ⟨h1, h2, h3, h5, h6⟩⟩)))))
            · exact .inr (.inr (.inr (.inr (.inr (.inl ⟨h1, h2, h3, h4, h5, by simpa using h6, decide_eq_false (fun h => h6 h.2.2.2.2)⟩)))))
          · exact .inr (.inr (.inr (.inr (.inl ⟨h1, h2, h3, h4, h5, decide_eq_false (fun h => h5 h.2.2.2.1)⟩))))
        · refine .inr (.inr (.inr (.inl ⟨h1, h2, h3, by omega, decide_eq_false (fun h => ?_)⟩)))
          have := of_decide_eq_true h.2.2.2.2
          exact h4 this.1.2.1
      · exact .inr (.inr (.inl ⟨h1, h2, h3, decide_eq_false (fun h => h3 h.2.2.1)⟩))
    · exact .inr (.inl ⟨h1, by omega, decide_eq_false (fun h => h2 h.2.1)⟩)
  · exact .inl ⟨h1, decide_eq_false (fun h => h1 h.1)⟩

def DecPost (xs : List Int) (w w' : World) (r : Ending) : Prop := (∃ A1 n1 c1, r = .returned (.tuple #[.agg (row3 (dE xs) (dP xs) (.slice A1 n1 c1)), .int .i64 (if okB xs then 0 else 23)]) ∧ Rd w' .u32 A1 n1 (dW xs) ∧ n1 ≤ c1) ∧ Below w.heap.size w w'

set_option maxHeartbeats 8000000 in
theorem decode_c (A : Option Addr) (m c : Nat) (xs : List Int) (w : World) (hr : Rd w .u8 A m xs) (hx : ∀ x ∈ xs, 0 ≤ x ∧ x < 256) (hmc : m ≤ c) (hm : m ≤ 35184372088000) :
    Calls Try.prog 46 #[.slice A m c] w fun r w' => DecPost xs w w' r := by
  have hlen := hr.len
  have hwr := words_range xs hx
  have hHx := Lib.hid hx
  clear hx
  obtain ⟨ws, hws⟩ : ∃ ws, words xs = ws := ⟨_, rfl⟩
  obtain ⟨L, hL⟩ : ∃ L, ws.length = L := ⟨_, rfl⟩
  have hway := dways xs ws L hws hL
  have hws' := Lib.hid hws
  have hL' := Lib.hid hL
  rw [hws] at hwr
  have hLm : L = (m + 3) / 4 := by rw [← hL, ← hws, ← hlen]; simp [words]
  clear hws hL
  rw [hlen] at hway
  have r0 := getD_mem_range hwr (by omega) 0
  have r1 := getD_mem_range hwr (by omega) 1
  have r2 := getD_mem_range hwr (by omega) 2
  have r3 := getD_mem_range hwr (by omega) 3
  clear hwr
  obtain ⟨x0, e0'⟩ : ∃ x, ws[0]?.getD 0 = x := ⟨_, rfl⟩
  obtain ⟨x1, e1'⟩ : ∃ x, ws[1]?.getD 0 = x := ⟨_, rfl⟩
  obtain ⟨x2, e2'⟩ : ∃ x, ws[2]?.getD 0 = x := ⟨_, rfl⟩
  obtain ⟨x3, e3'⟩ : ∃ x, ws[3]?.getD 0 = x := ⟨_, rfl⟩
  rw [e0', e1', e2', e3'] at hway
  rw [e0'] at r0
  rw [e1'] at r1
  rw [e2'] at r2
  rw [e3'] at r3
  have e0 := Lib.hid e0'
  have e1 := Lib.hid e1'
  have e2 := Lib.hid e2'
  have e3 := Lib.hid e3'
  clear e0' e1' e2' e3'
  rcases hway with ⟨h1, h⟩ | ⟨h1, h2, h⟩ | ⟨h1, h2, h3, h⟩ | ⟨h1, h2, h3, h4, h⟩ | ⟨h1, h2, h3, h4, h5, h⟩ | ⟨h1, h2, h3, h4, h5, h6, h⟩ | ⟨h1, h2, h3, h4, h5, h6, h⟩
  · have hno := no_all h
    clear h
    have q0 : ((m : Int) % 4 != 0) = true := by simp; omega
    clear h1
    go_enter Try.func46, Try.ntmps46
    go_wp2_with (first
      | ((with_reducible refine wl_alloc rfl 64 rfl (row3 0 0 (.slice none 0 0)) new64 ?_); intro w1 k1 b1 s1))
    refine (words_c A m c xs _ (hr.below b1) hHx.out hmc (by omega)).mono ?_
    rintro r w2 ⟨⟨A2, c2, rfl, HO⟩, b2⟩
    rw [hws'.out, hL'.out] at HO
    rw [hws'.out, hL'.out]
    have K1 := k1.below b2
    have B2 := bl_then b1 b2
    have s2 := b2.size
    clear k1 b1 b2
    clear HO
    go_wp2_with (first
      | (with_reducible refine wl_build0 rfl 64 rfl (row3 0 0 (.slice none 0 0)) zero64 ?_)
      | ((with_reducible refine wl_store rfl 64 _ _ rfl w.heap.size rfl (row3 0 0 (.slice none 0 0)) rfl 64 (row3 0 0 (.slice none 0 0)) K1 (size64 _ rfl) rfl (one3 _ _ _ _ _) ?_); intro w3 k3 g3 s3))
    refine bodyPost_ret (res_cell_tmp rfl _ _ _ w.heap.size 64 (row3 0 0 (.slice none 0 0)) _ rfl k3 Try.underlying64 rfl (size64 _ rfl)) rfl ⟨⟨none, 0, 0, by rw [hno.out.1, hno.out.2.1, hno.out.2.2.1]; rfl, by rw [hno.out.2.2.2]; exact Rd.nil _ _ _, Nat.le_refl _⟩, ?_⟩
    exact below_grown B2 B2.size g3 (Nat.le_refl _)
  · have hno := no_all h
    clear h
    have q0 : ((m : Int) % 4 != 0) = false := by simp; omega
    have q1 : decide ((L : Int) < 4) = true := by simp; omega
    clear h1 h2 hLm
    go_enter Try.func46, Try.ntmps46
    go_wp2_with (first
      | ((with_reducible refine wl_alloc rfl 64 rfl (row3 0 0 (.slice none 0 0)) new64 ?_); intro w1 k1 b1 s1))
    refine (words_c A m c xs _ (hr.below b1) hHx.out hmc (by omega)).mono ?_
    rintro r w2 ⟨⟨A2, c2, rfl, HO⟩, b2⟩
    rw [hws'.out, hL'.out] at HO
    rw [hws'.out, hL'.out]
    have K1 := k1.below b2
    have B2 := bl_then b1 b2
    have s2 := b2.size
    clear k1 b1 b2
    clear HO
    go_wp2_with (first
      | (with_reducible refine wl_build0 rfl 64 rfl (row3 0 0 (.slice none 0 0)) zero64 ?_)
      | ((with_reducible refine wl_store rfl 64 _ _ rfl w.heap.size rfl (row3 0 0 (.slice none 0 0)) rfl 64 (row3 0 0 (.slice none 0 0)) K1 (size64 _ rfl) rfl (one3 _ _ _ _ _) ?_); intro w3 k3 g3 s3))
    refine bodyPost_ret (res_cell_tmp rfl _ _ _ w.heap.size 64 (row3 0 0 (.slice none 0 0)) _ rfl k3 Try.underlying64 rfl (size64 _ rfl)) rfl ⟨⟨none, 0, 0, by rw [hno.out.1, hno.out.2.1, hno.out.2.2.1]; rfl, by rw [hno.out.2.2.2]; exact Rd.nil _ _ _, Nat.le_refl _⟩, ?_⟩
    exact below_grown B2 B2.size g3 (Nat.le_refl _)
  · have hno := no_all h
    clear h
    have q0 : ((m : Int) % 4 != 0) = false := by simp; omega
    have q1 : decide ((L : Int) < 4) = false := by simp; omega
    have q2 : (x0 != 1196445263) = true := by simpa using h3
    clear h1 h3
    go_enter Try.func46, Try.ntmps46
    go_wp2_with (first
      | ((with_reducible refine wl_alloc rfl 64 rfl (row3 0 0 (.slice none 0 0)) new64 ?_); intro w1 k1 b1 s1))
    refine (words_c A m c xs _ (hr.below b1) hHx.out hmc (by omega)).mono ?_
    rintro r w2 ⟨⟨A2, c2, rfl, HO⟩, b2⟩
    rw [hws'.out, hL'.out] at HO
    rw [hws'.out, hL'.out]
    have K1 := k1.below b2
    have B2 := bl_then b1 b2
    have s2 := b2.size
    clear k1 b1 b2
    have l0 : 0 < L := by omega
    have l1 : 1 < L := by omega
    have l2 : 2 < L := by omega
    have l3 : 3 < L := by omega
    have l1' : (1 : Int) < L := by omega
    have l2' : (2 : Int) < L := by omega
    have l3' : (3 : Int) < L := by omega
    obtain ⟨ad, rfl, hcs⟩ := (Rd.of_own HO).cells (by omega)
    have hc0 := hcs 0 (by omega)
    have hc1 := hcs 1 (by omega)
    have hc2 := hcs 2 (by omega)
    have hc3 := hcs 3 (by omega)
    rw [show ad.add 0 = ad from by unfold Addr.add; simp] at hc0
    rw [e0.out] at hc0
    rw [show ad.add 1 = ⟨ad.block, ad.off + 1, none⟩ from rfl, e1.out] at hc1
    rw [show ad.add 2 = ⟨ad.block, ad.off + 2, none⟩ from rfl, e2.out] at hc2
    rw [show ad.add 3 = ⟨ad.block, ad.off + 3, none⟩ from rfl, e3.out] at hc3
    clear HO hcs h2 hLm
    go_wp2_with (first
      | (with_reducible refine wl_build0 rfl 64 rfl (row3 0 0 (.slice none 0 0)) zero64 ?_)
      | ((with_reducible refine wl_store rfl 64 _ _ rfl w.heap.size rfl (row3 0 0 (.slice none 0 0)) rfl 64 (row3 0 0 (.slice none 0 0)) K1 (size64 _ rfl) rfl (one3 _ _ _ _ _) ?_); intro w3 k3 g3 s3))
    refine bodyPost_ret (res_cell_tmp rfl _ _ _ w.heap.size 64 (row3 0 0 (.slice none 0 0)) _ rfl k3 Try.underlying64 rfl (size64 _ rfl)) rfl ⟨⟨none, 0, 0, by rw [hno.out.1, hno.out.2.1, hno.out.2.2.1]; rfl, by rw [hno.out.2.2.2]; exact Rd.nil _ _ _, Nat.le_refl _⟩, ?_⟩
    exact below_grown B2 B2.size g3 (Nat.le_refl _)
  · have hno := no_all h
    clear h
    have q0 : ((m : Int) % 4 != 0) = false := by simp; omega
    have q1 : decide ((L : Int) < 4) = false := by simp; omega
    have q2 : (x0 != 1196445263) = false := by simp [h3]
    have q3 : decide (32 < x2) = true := by simpa using h4
    clear h1 h3 h4
    go_enter Try.func46, Try.ntmps46
    go_wp2_with (first
      | ((with_reducible refine wl_alloc rfl 64 rfl (row3 0 0 (.slice none 0 0)) new64 ?_); intro w1 k1 b1 s1))
    refine (words_c A m c xs _ (hr.below b1) hHx.out hmc (by omega)).mono ?_
    rintro r w2 ⟨⟨A2, c2, rfl, HO⟩, b2⟩
    rw [hws'.out, hL'.out] at HO
    rw [hws'.out, hL'.out]
    have K1 := k1.below b2
    have B2 := bl_then b1 b2
    have s2 := b2.size
    clear k1 b1 b2
    have l0 : 0 < L := by omega
    have l1 : 1 < L := by omega
    have l2 : 2 < L := by omega
    have l3 : 3 < L := by omega
    have l1' : (1 : Int) < L := by omega
    have l2' : (2 : Int) < L := by omega
    have l3' : (3 : Int) < L := by omega
    obtain ⟨ad, rfl, hcs⟩ := (Rd.of_own HO).cells (by omega)
    have hc0 := hcs 0 (by omega)
    have hc1 := hcs 1 (by omega)
    have hc2 := hcs 2 (by omega)
    have hc3 := hcs 3 (by omega)
    rw [show ad.add 0 = ad from by unfold Addr.add; simp] at hc0
    rw [e0.out] at hc0
    rw [show ad.add 1 = ⟨ad.block, ad.off + 1, none⟩ from rfl, e1.out] at hc1
    rw [show ad.add 2 = ⟨ad.block, ad.off + 2, none⟩ from rfl, e2.out] at hc2
    rw [show ad.add 3 = ⟨ad.block, ad.off + 3, none⟩ from rfl, e3.out] at hc3
    clear HO hcs h2 hLm
    go_wp2_with (first
      | (with_reducible refine wl_build0 rfl 64 rfl (row3 0 0 (.slice none 0 0)) zero64 ?_)
      | ((with_reducible refine wl_store rfl 64 _ _ rfl w.heap.size rfl (row3 0 0 (.slice none 0 0)) rfl 64 (row3 0 0 (.slice none 0 0)) K1 (size64 _ rfl) rfl (one3 _ _ _ _ _) ?_); intro w3 k3 g3 s3))
    refine bodyPost_ret (res_cell_tmp rfl _ _ _ w.heap.size 64 (row3 0 0 (.slice none 0 0)) _ rfl k3 Try.underlying64 rfl (size64 _ rfl)) rfl ⟨⟨none, 0, 0, by rw [hno.out.1, hno.out.2.1, hno.out.2.2.1]; rfl, by rw [hno.out.2.2.2]; exact Rd.nil _ _ _, Nat.le_refl _⟩, ?_⟩
    exact below_grown B2 B2.size g3 (Nat.le_refl _)
  · have hno := no_all h
    clear h
    have q0 : ((m : Int) % 4 != 0) = false := by simp; omega
    have q1 : decide ((L : Int) < 4) = false := by simp; omega
    have q2 : (x0 != 1196445263) = false := by simp [h3]
    have q3 : decide (32 < x2) = false := by simpa using h4
    have v3 : wrap64 x3 = x3 := by unfold wrap64; omega
    have vL : wrap64 ((L : Int) - 4) = (L : Int) - 4 := by unfold wrap64; omega
    have q4 : (x3 != (L : Int) - 4) = true := by simpa using h5
    clear h1 h3 h4 h5
    go_enter Try.func46, Try.ntmps46
    go_wp2_with (first
      | ((with_reducible refine wl_alloc rfl 64 rfl (row3 0 0 (.slice none 0 0)) new64 ?_); intro w1 k1 b1 s1))
    refine (words_c A m c xs _ (hr.below b1) hHx.out hmc (by omega)).mono ?_
    rintro r w2 ⟨⟨A2, c2, rfl, HO⟩, b2⟩
    rw [hws'.out, hL'.out] at HO
    rw [hws'.out, hL'.out]
    have K1 := k1.below b2
    have B2 := bl_then b1 b2
    have s2 := b2.size
    clear k1 b1 b2
    have l0 : 0 < L := by omega
    have l1 : 1 < L := by omega
    have l2 : 2 < L := by omega
    have l3 : 3 < L := by omega
    have l1' : (1 : Int) < L := by omega
    have l2' : (2 : Int) < L := by omega
    have l3' : (3 : Int) < L := by omega
    obtain ⟨ad, rfl, hcs⟩ := (Rd.of_own HO).cells (by omega)
    have hc0 := hcs 0 (by omega)
    have hc1 := hcs 1 (by omega)
    have hc2 := hcs 2 (by omega)
    have hc3 := hcs 3 (by omega)
    rw [show ad.add 0 = ad from by unfold Addr.add; simp] at hc0
    rw [e0.out] at hc0
    rw [show ad.add 1 = ⟨ad.block, ad.off + 1, none⟩ from rfl, e1.out] at hc1
    rw [show ad.add 2 = ⟨ad.block, ad.off + 2, none⟩ from rfl, e2.out] at hc2
    rw [show ad.add 3 = ⟨ad.block, ad.off + 3, none⟩ from rfl, e3.out] at hc3
    clear HO hcs h2 hLm
    go_wp2_with (first
      | (with_reducible refine wl_build0 rfl 64 rfl (row3 0 0 (.slice none 0 0)) zero64 ?_)
      | ((with_reducible refine wl_store rfl 64 _ _ rfl w.heap.size rfl (row3 0 0 (.slice none 0 0)) rfl 64 (row3 0 0 (.slice none 0 0)) K1 (size64 _ rfl) rfl (one3 _ _ _ _ _) ?_); intro w3 k3 g3 s3))
    refine bodyPost_ret (res_cell_tmp rfl _ _ _ w.heap.size 64 (row3 0 0 (.slice none 0 0)) _ rfl k3 Try.underlying64 rfl (size64 _ rfl)) rfl ⟨⟨none, 0, 0, by rw [hno.out.1, hno.out.2.1, hno.out.2.2.1]; rfl, by rw [hno.out.2.2.2]; exact Rd.nil _ _ _, Nat.le_refl _⟩, ?_⟩
    exact below_grown B2 B2.size g3 (Nat.le_refl _)
  · have hno := no_all h
    clear h
    have q0 : ((m : Int) % 4 != 0) = false := by simp; omega
    have q1 : decide ((L : Int) < 4) = false := by simp; omega
    have q2 : (x0 != 1196445263) = false := by simp [h3]
    have q3 : decide (32 < x2) = false := by simpa using h4
    have v3 : wrap64 x3 = x3 := by unfold wrap64; omega
    have vL : wrap64 ((L : Int) - 4) = (L : Int) - 4 := by unfold wrap64; omega
    have q4 : (x3 != (L : Int) - 4) = false := by simp [h5]
    have v2 : wrap64 x2 = x2 := by unfold wrap64; omega
    clear h1 h3 h4 h5
    go_enter Try.func46, Try.ntmps46
    go_wp2_with (first
      | ((with_reducible refine wl_alloc rfl 64 rfl (row3 0 0 (.slice none 0 0)) new64 ?_); intro w1 k1 b1 s1))
    refine (words_c A m c xs _ (hr.below b1) hHx.out hmc (by omega)).mono ?_
    rintro r w2 ⟨⟨A2, c2, rfl, HO⟩, b2⟩
    rw [hws'.out, hL'.out] at HO
    rw [hws'.out, hL'.out]
    have K1 := k1.below b2
    have B2 := bl_then b1 b2
    have s2 := b2.size
    clear k1 b1 b2
    have l0 : 0 < L := by omega
    have l1 : 1 < L := by omega
    have l2 : 2 < L := by omega
    have l3 : 3 < L := by omega
    have l1' : (1 : Int) < L := by omega
    have l2' : (2 : Int) < L := by omega
    have l3' : (3 : Int) < L := by omega
    obtain ⟨ad, rfl, hcs⟩ := (Rd.of_own HO).cells (by omega)
    have hc0 := hcs 0 (by omega)
    have hc1 := hcs 1 (by omega)
    have hc2 := hcs 2 (by omega)
    have hc3 := hcs 3 (by omega)
    rw [show ad.add 0 = ad from by unfold Addr.add; simp] at hc0
    rw [e0.out] at hc0
    rw [show ad.add 1 = ⟨ad.block, ad.off + 1, none⟩ from rfl, e1.out] at hc1
    rw [show ad.add 2 = ⟨ad.block, ad.off + 2, none⟩ from rfl, e2.out] at hc2
    rw [show ad.add 3 = ⟨ad.block, ad.off + 3, none⟩ from rfl, e3.out] at hc3
    have hcap := own_cap HO
    have h2' : (4 : Int) ≤ L := by omega
    have hLb : L ≤ 9000000000000000 := by omega
    have hc1a := bl_cell (bl_alloc (bl_refl w2) (Obj.cells #[.int .u32 0, .int .i64 0, .slice none 0 0] 64)) hc1
    have hc2a := bl_cell (bl_alloc (bl_refl w2) (Obj.cells #[.int .u32 0, .int .i64 0, .slice none 0 0] 64)) hc2
    clear hLm hcs
    go_wp2_with fail
    go_region
    have hRd := (Rd.of_own HO).cut h2 hcap
    obtain ⟨A3, hA3⟩ : ∃ A3, (if c2 = 4 then some ad else some (⟨ad.block, ad.off + 4, none⟩ : Addr)) = A3 := ⟨_, rfl⟩
    rw [hA3]
    have hRd' : Rd w2 .u32 A3 (L - 4) (ws.drop 4) := by rw [← hA3]; exact hRd
    have k4 : Blk (w2.alloc (Obj.cells #[.int .u32 x1, .int .i64 x2, .slice A3 (L - 4) (c2 - 4)] 64)).drew w2.heap.size 64 (row3 x1 x2 (.slice A3 (L - 4) (c2 - 4))) := (Blk.new w2 _ _).drew
    have K4 := (K1.alloc (Obj.cells #[.int .u32 x1, .int .i64 x2, .slice A3 (L - 4) (c2 - 4)] 64)).drew
    have B4 := bl_drew (bl_alloc B2 (Obj.cells #[.int .u32 x1, .int .i64 x2, .slice A3 (L - 4) (c2 - 4)] 64))
    have R4 := (hRd'.below (bl_alloc (bl_refl w2) (Obj.cells #[.int .u32 x1, .int .i64 x2, .slice A3 (L - 4) (c2 - 4)] 64))).drewN 1
    have hA3' := Lib.hid hA3
    clear hA3 hRd hRd' hc0 hc1 hc2 hc3 hc1a hc2a K1 B2
    go_wp2_with (first
      | (with_reducible refine wl_load rfl 64 _ rfl w2.heap.size rfl 64 (row3 x1 x2 (.slice A3 (L - 4) (c2 - 4))) _ k4 Try.underlying64 rfl (size64 _ rfl) ?_))
    refine (right_c x1 x2 A3 (L - 4) (c2 - 4) _ r1 (by omega)).mono ?_
    rintro r w5 ⟨rfl, b5⟩
    have HO5 := own_below HO (bl_then (bl_drew (bl_alloc (bl_refl w2) (Obj.cells #[.int .u32 x1, .int .i64 x2, .slice A3 (L - 4) (c2 - 4)] 64))) b5)
    rw [h6]
    have k5 := k4.below b5
    have K5 := K4.below b5
    have R5 := R4.below b5
    have B5 := bl_then B4 b5
    clear k4 K4 R4 B4 b5 h6 HO
    go_wp2_with (first
      | (with_reducible refine wl_build0 rfl 64 rfl (row3 0 0 (.slice none 0 0)) zero64 ?_)
      | ((with_reducible refine wl_store rfl 64 _ _ rfl w.heap.size rfl (row3 0 0 (.slice none 0 0)) rfl 64 (row3 0 0 (.slice none 0 0)) K5 (size64 _ rfl) rfl (one3 _ _ _ _ _) ?_); intro w6 k6 g6 s6))
    refine bodyPost_ret (res_cell_tmp rfl _ _ _ w.heap.size 64 (row3 0 0 (.slice none 0 0)) _ rfl k6 Try.underlying64 rfl (size64 _ rfl)) rfl ⟨⟨none, 0, 0, by rw [hno.out.1, hno.out.2.1, hno.out.2.2.1]; rfl, by rw [hno.out.2.2.2]; exact Rd.nil _ _ _, Nat.le_refl _⟩, ?_⟩
    exact below_grown B5 B5.size g6 (Nat.le_refl _)
  · have hyes := yes_all h
    clear h
    have q0 : ((m : Int) % 4 != 0) = false := by simp; omega
    have q1 : decide ((L : Int) < 4) = false := by simp; omega
    have q2 : (x0 != 1196445263) = false := by simp [h3]
    have q3 : decide (32 < x2) = false := by simpa using h4
    have v3 : wrap64 x3 = x3 := by unfold wrap64; omega
    have vL : wrap64 ((L : Int) - 4) = (L : Int) - 4 := by unfold wrap64; omega
    have q4 : (x3 != (L : Int) - 4) = false := by simp [h5]
    have v2 : wrap64 x2 = x2 := by unfold wrap64; omega
    clear h1 h3 h4 h5
    go_enter Try.func46, Try.ntmps46
    go_wp2_with (first
      | ((with_reducible refine wl_alloc rfl 64 rfl (row3 0 0 (.slice none 0 0)) new64 ?_); intro w1 k1 b1 s1))
    refine (words_c A m c xs _ (hr.below b1) hHx.out hmc (by omega)).mono ?_
    rintro r w2 ⟨⟨A2, c2, rfl, HO⟩, b2⟩
    rw [hws'.out, hL'.out] at HO
    rw [hws'.out, hL'.out]
    have K1 := k1.below b2
    have B2 := bl_then b1 b2
    have s2 := b2.size
    clear k1 b1 b2
    have l0 : 0 < L := by omega
    have l1 : 1 < L := by omega
    have l2 : 2 < L := by omega
    have l3 : 3 < L := by omega
    have l1' : (1 : Int) < L := by omega
    have l2' : (2 : Int) < L := by omega
    have l3' : (3 : Int) < L := by omega
    obtain ⟨ad, rfl, hcs⟩ := (Rd.of_own HO).cells (by omega)
    have hc0 := hcs 0 (by omega)
    have hc1 := hcs 1 (by omega)
    have hc2 := hcs 2 (by omega)
    have hc3 := hcs 3 (by omega)
    rw [show ad.add 0 = ad from by unfold Addr.add; simp] at hc0
    rw [e0.out] at hc0
    rw [show ad.add 1 = ⟨ad.block, ad.off + 1, none⟩ from rfl, e1.out] at hc1
    rw [show ad.add 2 = ⟨ad.block, ad.off + 2, none⟩ from rfl, e2.out] at hc2
    rw [show ad.add 3 = ⟨ad.block, ad.off + 3, none⟩ from rfl, e3.out] at hc3
    have hcap := own_cap HO
    have h2' : (4 : Int) ≤ L := by omega
    have hLb : L ≤ 9000000000000000 := by omega
    have hc1a := bl_cell (bl_alloc (bl_refl w2) (Obj.cells #[.int .u32 0, .int .i64 0, .slice none 0 0] 64)) hc1
    have hc2a := bl_cell (bl_alloc (bl_refl w2) (Obj.cells #[.int .u32 0, .int .i64 0, .slice none 0 0] 64)) hc2
    clear hLm hcs
    go_wp2_with fail
    go_region
    have hRd := (Rd.of_own HO).cut h2 hcap
    obtain ⟨A3, hA3⟩ : ∃ A3, (if c2 = 4 then some ad else some (⟨ad.block, ad.off + 4, none⟩ : Addr)) = A3 := ⟨_, rfl⟩
    rw [hA3]
    have hRd' : Rd w2 .u32 A3 (L - 4) (ws.drop 4) := by rw [← hA3]; exact hRd
    have k4 : Blk (w2.alloc (Obj.cells #[.int .u32 x1, .int .i64 x2, .slice A3 (L - 4) (c2 - 4)] 64)).drew w2.heap.size 64 (row3 x1 x2 (.slice A3 (L - 4) (c2 - 4))) := (Blk.new w2 _ _).drew
    have K4 := (K1.alloc (Obj.cells #[.int .u32 x1, .int .i64 x2, .slice A3 (L - 4) (c2 - 4)] 64)).drew
    have B4 := bl_drew (bl_alloc B2 (Obj.cells #[.int .u32 x1, .int .i64 x2, .slice A3 (L - 4) (c2 - 4)] 64))
    have R4 := (hRd'.below (bl_alloc (bl_refl w2) (Obj.cells #[.int .u32 x1, .int .i64 x2, .slice A3 (L - 4) (c2 - 4)] 64))).drewN 1
    have hA3' := Lib.hid hA3
    clear hA3 hRd hRd' hc0 hc1 hc2 hc3 hc1a hc2a K1 B2
    go_wp2_with (first
      | (with_reducible refine wl_load rfl 64 _ rfl w2.heap.size rfl 64 (row3 x1 x2 (.slice A3 (L - 4) (c2 - 4))) _ k4 Try.underlying64 rfl (size64 _ rfl) ?_))
    refine (right_c x1 x2 A3 (L - 4) (c2 - 4) _ r1 (by omega)).mono ?_
    rintro r w5 ⟨rfl, b5⟩
    have HO5 := own_below HO (bl_then (bl_drew (bl_alloc (bl_refl w2) (Obj.cells #[.int .u32 x1, .int .i64 x2, .slice A3 (L - 4) (c2 - 4)] 64))) b5)
    rw [h6]
    have k5 := k4.below b5
    have K5 := K4.below b5
    have R5 := R4.below b5
    have B5 := bl_then B4 b5
    clear k4 K4 R4 B4 b5 h6 HO
    go_wp2_with (first
      | (with_reducible refine wl_load rfl 64 _ rfl w2.heap.size rfl 64 (row3 x1 x2 (.slice A3 (L - 4) (c2 - 4))) _ k5 Try.underlying64 rfl (size64 _ rfl) ?_)
      | ((with_reducible refine wl_store rfl 64 _ _ rfl w.heap.size rfl (row3 x1 x2 (.slice A3 (L - 4) (c2 - 4))) rfl 64 (row3 0 0 (.slice none 0 0)) K5 (size64 _ rfl) rfl (one3 _ _ _ _ _) ?_); intro w6 k6 g6 s6))
    refine bodyPost_ret (res_cell_tmp rfl _ _ _ w.heap.size 64 (row3 x1 x2 (.slice A3 (L - 4) (c2 - 4))) _ rfl k6 Try.underlying64 rfl (size64 _ rfl)) rfl ⟨⟨A3, L - 4, c2 - 4, by rw [hyes.out.1, hyes.out.2.1, hyes.out.2.2.1, hws'.out, e1.out, e2.out]; rfl, ?_, by omega⟩, ?_⟩
    · rw [hyes.out.2.2.2, hws'.out, ← hA3'.out]
      exact (Rd.of_own (own_kept HO5 g6 (by omega))).cut h2 hcap
    · exact below_grown B5 B5.size g6 (Nat.le_refl _)
end Go.Proofs.Ytaefaneecdploaa.Image
