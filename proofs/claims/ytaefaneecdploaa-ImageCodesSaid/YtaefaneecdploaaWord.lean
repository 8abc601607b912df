/- Contracts of package word's functions, and of the reference's: what each returns at every argument, and that it changes nothing that was there. -/
import Derived.Test.YtaefaneecdploaaProg
import Derived.Test.YtaefaneecdploaaMath
set_option linter.unusedVariables false
namespace Go.Proofs.Ytaefaneecdploaa.Word
open Go.RowKit Go.Proofs.Ytaefaneecdploaa.Base Go.Proofs.Ytaefaneecdploaa.Math


theorem info_u8 : (Try.prog.info? 5).map (fun i => (i.zero, i.size, i.bytes)) = some (some (.int .u8 0), 1, 1) := by kernel_rfl

theorem bytes_c (x : Int) (h0 : 0 ≤ x) (h1 : x < 4294967296) (w : World) :
    Calls Try.prog 17 #[.int .u32 x] w fun e w' => e = .returned (B4 x) ∧ Below w.heap.size w w' := by
  go_enter Try.func17, Try.ntmps17
  go_wp2
  exact bodyPost_ret (v := B4 x) (by simp [results, Try.results17, go_sem, B4]) rfl ⟨rfl, bl_alloc (bl_refl _) _⟩

theorem sign_c (x : Int) (h0 : 0 ≤ x) (h1 : x < 4294967296) (w : World) :
    Calls Try.prog 12 #[.int .u32 x] w fun e w' => e = .returned (.int .u32 (sgn x)) ∧ w = w' := by
  go_enter Try.func12, Try.ntmps12
  go_wp2
  go_ret
  exact ⟨ret_int (sign_wrap x), rfl⟩

theorem refsign_c (x : Int) (h0 : 0 ≤ x) (h1 : x < 4294967296) (w : World) :
    Calls Try.prog 13 #[.int .u32 x] w fun e w' => e = .returned (.int .u32 (sgn x)) ∧ w = w' := by
  go_enter Try.func13, Try.ntmps13
  by_cases h : 32768 ≤ x % 65536
  · go_wp2
    go_ret
    exact ⟨ret_int (by rw [sgn, if_pos h]), rfl⟩
  · go_wp2
    go_ret
    exact ⟨ret_int (by rw [sgn, if_neg (by omega)]), rfl⟩

theorem less_c (x y : Int) (h0 : 0 ≤ x) (h1 : x < 4294967296) (h2 : 0 ≤ y) (h3 : y < 4294967296) (w : World) :
    Calls Try.prog 14 #[.int .u32 x, .int .u32 y] w fun e w' => e = .returned (.bool (decide (val x < val y))) ∧ w = w' := by
  go_enter Try.func14, Try.ntmps14
  go_wp2
  go_ret
  exact ⟨ret_bool (by rw [wrap32_val x h0 h1, wrap32_val y h2 h3]), rfl⟩

theorem refvalue_c (x : Int) (h0 : 0 ≤ x) (h1 : x < 4294967296) (w : World) :
    Calls Try.prog 15 #[.int .u32 x] w fun e w' => e = .returned (.int .i64 (val x)) ∧ w = w' := by
  go_enter Try.func15, Try.ntmps15
  by_cases h : 2147483648 ≤ x
  · go_wp2
    go_ret
    exact ⟨ret_int (by rw [val, if_pos h]), rfl⟩
  · go_wp2
    go_ret
    exact ⟨ret_int (by rw [val, if_neg (by omega)]), rfl⟩

theorem of_c (a b c d : Int) (h0 : 0 ≤ a ∧ a < 256) (h1 : 0 ≤ b ∧ b < 256) (h2 : 0 ≤ c ∧ c < 256) (h3 : 0 ≤ d ∧ d < 256) (w : World) :
    Calls Try.prog 16 #[.agg #[.int .u8 a, .int .u8 b, .int .u8 c, .int .u8 d]] w fun e w' => e = .returned (.int .u32 (a + b * 256 + c * 65536 + d * 16777216)) ∧ Below w.heap.size w w' := by
  go_enter Try.func16, Try.ntmps16
  go_wp2
  go_ret
  exact ⟨ret_int (of_bits a b c d h0 h1 h2 h3), bl_alloc (bl_refl _) _⟩

theorem byte_c (x i : Int) (h0 : 0 ≤ x) (h1 : x < 4294967296) (h2 : -9223372036854775808 ≤ i) (h3 : i ≤ 9223372036854775807) (w : World) :
    Calls Try.prog 20 #[.int .u32 x, .int .i64 i] w fun e w' => e = .returned (.int .u8 (x / 256 ^ (i % 4).toNat % 256)) ∧ Below w.heap.size w w' := by
  rcases four i with hj | hj | hj | hj
  · have ha : bits .and .i64 i 3 = 0 := by rw [and3, hj]
    have hi : ∀ (p q r s : Value) (W : World), (Instr.index 27 (.agg #[p, q, r, s]) (.int .i64 0)).run Try.prog W = .ok p W := fun _ _ _ _ _ => by kernel_rfl
    have HJ := Lib.hid hj
    clear hj
    go_enter Try.func20, Try.ntmps20
    go_wp2_with fail
    refine (bytes_c x h0 h1 _).mono ?_
    rintro e w1 ⟨rfl, b1⟩
    unfold B4
    go_wp2_with fail
    go_ret
    exact ⟨ret_int (by rw [HJ.out]; simp), b1⟩
  · have ha : bits .and .i64 i 3 = 1 := by rw [and3, hj]
    have hi : ∀ (p q r s : Value) (W : World), (Instr.index 27 (.agg #[p, q, r, s]) (.int .i64 1)).run Try.prog W = .ok q W := fun _ _ _ _ _ => by kernel_rfl
    have HJ := Lib.hid hj
    clear hj
    go_enter Try.func20, Try.ntmps20
    go_wp2_with fail
    refine (bytes_c x h0 h1 _).mono ?_
    rintro e w1 ⟨rfl, b1⟩
    unfold B4
    go_wp2_with fail
    go_ret
    exact ⟨ret_int (by rw [HJ.out]; simp), b1⟩
  · have ha : bits .and .i64 i 3 = 2 := by rw [and3, hj]
    have hi : ∀ (p q r s : Value) (W : World), (Instr.index 27 (.agg #[p, q, r, s]) (.int .i64 2)).run Try.prog W = .ok r W := fun _ _ _ _ _ => by kernel_rfl
    have HJ := Lib.hid hj
    clear hj
    go_enter Try.func20, Try.ntmps20
    go_wp2_with fail
    refine (bytes_c x h0 h1 _).mono ?_
    rintro e w1 ⟨rfl, b1⟩
    unfold B4
    go_wp2_with fail
    go_ret
    exact ⟨ret_int (by rw [HJ.out]; simp), b1⟩
  · have ha : bits .and .i64 i 3 = 3 := by rw [and3, hj]
    have hi : ∀ (p q r s : Value) (W : World), (Instr.index 27 (.agg #[p, q, r, s]) (.int .i64 3)).run Try.prog W = .ok s W := fun _ _ _ _ _ => by kernel_rfl
    have HJ := Lib.hid hj
    clear hj
    go_enter Try.func20, Try.ntmps20
    go_wp2_with fail
    refine (bytes_c x h0 h1 _).mono ?_
    rintro e w1 ⟨rfl, b1⟩
    unfold B4
    go_wp2_with fail
    go_ret
    exact ⟨ret_int (by rw [HJ.out]; simp; omega), b1⟩

theorem withbyte_c (x i b : Int) (h0 : 0 ≤ x) (h1 : x < 4294967296) (h2 : -9223372036854775808 ≤ i) (h3 : i ≤ 9223372036854775807) (hb0 : 0 ≤ b) (hb1 : b < 256) (w : World) :
    Calls Try.prog 19 #[.int .u32 x, .int .i64 i, .int .u8 b] w fun e w' => e = .returned (.int .u32 (x + (b - x / 256 ^ (i % 4).toNat % 256) * 256 ^ (i % 4).toNat)) ∧ Below w.heap.size w w' := by
  rcases four i with hj | hj | hj | hj
  · have ha : bits .and .i64 i 3 = 0 := by rw [and3, hj]
    have HJ := Lib.hid hj
    clear hj
    go_enter Try.func19, Try.ntmps19
    go_wp2_with fail
    refine (bytes_c x h0 h1 _).mono ?_
    rintro e w1 ⟨rfl, b1⟩
    unfold B4
    go_wp2_with fail
    refine (of_c (b) (x / 256 % 256) (x / 65536 % 256) (x / 16777216) (by omega) (by omega) (by omega) (by omega) _).mono ?_
    rintro e w2 ⟨rfl, b2⟩
    go_wp2_with fail
    go_ret
    exact ⟨ret_int (by rw [HJ.out]; simp; omega), bl_then (bl_alloc b1 _) b2⟩
  · have ha : bits .and .i64 i 3 = 1 := by rw [and3, hj]
    have HJ := Lib.hid hj
    clear hj
    go_enter Try.func19, Try.ntmps19
    go_wp2_with fail
    refine (bytes_c x h0 h1 _).mono ?_
    rintro e w1 ⟨rfl, b1⟩
    unfold B4
    go_wp2_with fail
    refine (of_c (x % 256) (b) (x / 65536 % 256) (x / 16777216) (by omega) (by omega) (by omega) (by omega) _).mono ?_
    rintro e w2 ⟨rfl, b2⟩
    go_wp2_with fail
    go_ret
    exact ⟨ret_int (by rw [HJ.out]; simp; omega), bl_then (bl_alloc b1 _) b2⟩
  · have ha : bits .and .i64 i 3 = 2 := by rw [and3, hj]
    have HJ := Lib.hid hj
    clear hj
    go_enter Try.func19, Try.ntmps19
    go_wp2_with fail
    refine (bytes_c x h0 h1 _).mono ?_
    rintro e w1 ⟨rfl, b1⟩
    unfold B4
    go_wp2_with fail
    refine (of_c (x % 256) (x / 256 % 256) (b) (x / 16777216) (by omega) (by omega) (by omega) (by omega) _).mono ?_
    rintro e w2 ⟨rfl, b2⟩
    go_wp2_with fail
    go_ret
    exact ⟨ret_int (by rw [HJ.out]; simp; omega), bl_then (bl_alloc b1 _) b2⟩
  · have ha : bits .and .i64 i 3 = 3 := by rw [and3, hj]
    have HJ := Lib.hid hj
    clear hj
    go_enter Try.func19, Try.ntmps19
    go_wp2_with fail
    refine (bytes_c x h0 h1 _).mono ?_
    rintro e w1 ⟨rfl, b1⟩
    unfold B4
    go_wp2_with fail
    refine (of_c (x % 256) (x / 256 % 256) (x / 65536 % 256) (b) (by omega) (by omega) (by omega) (by omega) _).mono ?_
    rintro e w2 ⟨rfl, b2⟩
    go_wp2_with fail
    go_ret
    exact ⟨ret_int (by rw [HJ.out]; simp; omega), bl_then (bl_alloc b1 _) b2⟩

theorem info_u32 : (Try.prog.info? 22).map (fun i => (i.zero, i.size, i.bytes)) = some (some (.int .u32 0), 1, 4) := by kernel_rfl

set_option maxHeartbeats 1000000 in
theorem flat_c (A : Option Addr) (n c : Nat) (xs : List Int) (w : World) (hr : Rd w .u32 A n xs) (hx : ∀ x ∈ xs, 0 ≤ x ∧ x < 4294967296) (hn : n ≤ 35184372088832) :
    Calls Try.prog 23 #[.slice A n c] w fun e w' => (∃ A1 c1, e = .returned (.slice A1 (4 * n) c1) ∧ w'.ownsRow w.heap.size 5 1 (.slice A1 (4 * n) c1) (4 * n) (nums .u8 (flat xs))) ∧ Below w.heap.size w w' := by
  obtain ⟨i0, hi, hz0, hz1, hz2⟩ := info_parts info_u8
  go_enter Try.func23, Try.ntmps23
  have hnm := hr.max
  have hlx := hr.len
  go_wp2_with (refine wpList_make_own _ rfl _ _ 34 rfl w.heap.size 5 i0 (.int .u8 0) 1 Try.underlying34 hi hz0 hz1 .i64 .i64 _ (4 * n) rfl rfl ?c1 ?c2 ?c3 ?c4 ?_)
  case c1 => omega
  case c2 => rw [hz2]; omega
  case c3 => simp only [maxLen]; omega
  case c4 => exact Nat.le_refl _
  intro w1 hown1 hg1
  have hb1 : Below w.heap.size w w1 := (bl_refl w).grown hg1 (Nat.le_refl _) (fun k hk => by cases hk)
  clear hi hz0 hz1 hz2 hg1
  go_wp2
  go_loopw [3, 13] (fun v i wr => ∃ (k : Nat) (A1 : Option Addr) (c1 : Nat), k ≤ n ∧ i = .int .i64 k ∧ v = .slice A1 (4 * k) c1 ∧ wr.ownsRow w.heap.size 5 1 (.slice A1 (4 * k) c1) (4 * k) (nums .u8 (flat (xs.take k))) ∧ Below w.heap.size w wr) (fun _ i _ => n - (intOf i).toNat)
  case atStart => exact ⟨0, _, _, Nat.zero_le _, rfl, rfl, hown1, hb1⟩
  case round =>
    clear hown1 hb1
    obtain ⟨k, A1, c1, hk, rfl, rfl, HO, HB⟩ := hrel
    by_cases hlt : k < n
    · obtain ⟨ad, rfl, hca⟩ := (hr.below HB).at_ k hlt
      have hrg := getD_mem_range hx (by omega) k
      obtain ⟨hr0, hr1⟩ := hrg
      have htk := Lib.hid (take_snoc xs k (by omega))
      generalize xs[k]?.getD 0 = y at *
      go_wp2_with fail
      refine (bytes_c y hr0 hr1 _).mono ?_
      rintro e w2 ⟨rfl, b2⟩
      have HO2 := own_below HO b2
      have HB2 := bl_then HB b2
      unfold B4
      clear HO HB
      go_wp2_with (at_builtin; refine app_own (w0 := w) w.heap.size 1 1 (.int .u8 0) rfl _ _ 34 5 rfl Try.underlying34 info_u8 rfl Nat.one_pos Nat.one_pos (.slice A1 (4 * k) c1) (4 * k) (nums .u8 (flat (xs.take k))) rfl (HO2.alloc _) ⟨w2.heap.size, 0, none⟩ 4 4 (nums .u8 (b4 y)) rfl rfl ?d0 (nums_one _ _) ?d1 ?d2 ?d3 ?_)
      case d0 => exact row_news (heap_alloc_new _ _)
      case d1 => omega
      case d2 => exact bl_alloc HB2 _
      case d3 => have := HB2.size; simp; omega
      intro A2 c2 w3 HO3 HB3 hs3 _
      clear HO2 HB2
      rw [← nums_append, ← flat_snoc, ← htk.out] at HO3
      go_wp2
      go_roundw
      case rel => exact ⟨k + 1, A2, c2, by omega, by go_num, rfl, HO3, HB3⟩
      case measure => simp [intOf]; omega
    · obtain rfl : k = n := by omega
      rw [List.take_of_length_le (by omega)] at HO
      go_wp2
      go_ret
      exact ⟨⟨A1, c1, rfl, HO⟩, HB⟩

set_option maxHeartbeats 1000000 in
theorem words_c (A : Option Addr) (n c : Nat) (xs : List Int) (w : World) (hr : Rd w .u8 A n xs) (hx : ∀ x ∈ xs, 0 ≤ x ∧ x < 256) (hc : n ≤ c) (hn : n ≤ 35184372088832) :
    Calls Try.prog 27 #[.slice A n c] w fun e w' => (∃ A1 c1, e = .returned (.slice A1 (words xs).length c1) ∧ w'.ownsRow w.heap.size 22 1 (.slice A1 (words xs).length c1) (words xs).length (nums .u32 (words xs))) ∧ Below w.heap.size w w' := by
  have hsz1 : (Try.prog.info? 5).map (·.size) = some 1 := by kernel_rfl
  have hnm := hr.max
  have hlx := hr.len
  go_enter Try.func27, Try.ntmps27
  go_wp2
  go_loopw [0, 3] (fun b v wr => ∃ (k m : Nat) (A0 : Option Addr) (c0 : Nat) (A1 : Option Addr) (c1 : Nat), m ≤ n ∧ m ≤ 4 * k ∧ (m < n → 4 * k ≤ m) ∧ 4 * k ≤ n + 3 ∧ (m = n → n ≤ 4 * k) ∧ b = .slice A0 (n - m) c0 ∧ n - m ≤ c0 ∧ Rd w .u8 A0 (n - m) (xs.drop m) ∧ v = .slice A1 k c1 ∧ wr.ownsRow w.heap.size 22 1 (.slice A1 k c1) k (nums .u32 (wordsTo xs k)) ∧ Below w.heap.size w wr) (fun b _ _ => lenOf b)
  case atStart => exact ⟨0, 0, A, c, none, 0, by omega, by omega, by omega, by omega, by omega, rfl, by omega, by simpa using hr, rfl, own_nil _ _ _ _, bl_refl _⟩
  case round =>
    obtain ⟨k, m, A0, c0, A1, c1, h1, h2, h3, h4, h5, rfl, h6, HR0, rfl, HO, HB⟩ := hrel
    have HR := HR0.below HB
    by_cases hlt : m < n
    · have hm4 : m = 4 * k := by omega
      subst hm4
      obtain ⟨q, hq⟩ : ∃ q, q = (n - 4 * k) - (n - 4 * k - 4) := ⟨_, rfl⟩
      have hq4 : q ≤ 4 := by omega
      have hq0 : 0 < q := by omega
      have hqn : q ≤ n - 4 * k := by omega
      have hmin : Hid (q = Nat.min (n - 4 * k) 4) := Lib.hid (by simp only [Nat.min_def]; split <;> omega)
      have hq1 : q < 4 → q = n - 4 * k := by omega
      clear hq
      obtain ⟨cs, ecs⟩ : ∃ cs, cs = nums .u8 ((xs.drop (4 * k)).take 4) := ⟨_, rfl⟩
      have hcl : Hid (cs.length = q) := Lib.hid (by rw [hmin.out, ecs, nums_length, List.length_take, List.length_drop, hlx]; simp only [Nat.min_def]; split <;> split <;> omega)
      have hcs : Hid (∃ ad, A0 = some ad ∧ ∀ j v, cs[j]? = some v → wr.cell? (ad.add j) = some v) := Lib.hid (by
        obtain ⟨ad, e1, hcell⟩ := HR.cells (by omega)
        refine ⟨ad, e1, ?_⟩
        intro j v hv
        have hj : j < q := by have := (List.getElem?_eq_some_iff.1 hv).1; rw [hcl.out] at this; exact this
        rw [hcell j (by omega)]
        rw [ecs] at hv
        simp only [nums, List.getElem?_map, List.getElem?_take, if_pos (show j < 4 by omega)] at hv
        cases hd : (xs.drop (4 * k))[j]? with
        | none => rw [hd] at hv; simp at hv
        | some y => rw [hd] at hv; simpa using hv)
      have hone : ∀ v ∈ cs, v.oneCell' = true := by rw [ecs]; exact nums_one _ _
      have hsp := Lib.hid (splice4 (xs.drop (4 * k)))
      have ecs' := Lib.hid ecs
      clear ecs
      go_wp2_with (with_reducible refine wpList_copy_splice rfl (.tmp 9) (.tmp 10) 34 34 rfl 5 Try.underlying34 hsz1 (some ⟨wr.heap.size, 0, none⟩) A0 4 4 (n - 4 * k) c0 rfl rfl wr.heap.size 0 [.int .u8 0, .int .u8 0, .int .u8 0, .int .u8 0] 27 (heap_alloc_new _ _) cs ?e1 ?e2 ?e3 hone wr.heap.size wr ?e4 ?e5 ?_)
      case e1 => rw [hcl.out]; exact hmin.out
      case e2 =>
        intro _
        obtain ⟨ad, e1, e2⟩ := hcs.out
        exact ⟨ad, e1, fun j v hv => bl_cell (bl_alloc (bl_refl _) _) (e2 j v hv)⟩
      case e3 => rw [hcl.out]; simp; omega
      case e4 => exact bl_alloc (bl_refl _) _
      case e5 => exact Nat.le_refl _
      intro w2 hg2 hb2
      have hg3 : w2.heap[wr.heap.size]? = some (.cells #[.int .u8 ((xs.drop (4 * k))[0]?.getD 0), .int .u8 ((xs.drop (4 * k))[1]?.getD 0), .int .u8 ((xs.drop (4 * k))[2]?.getD 0), .int .u8 ((xs.drop (4 * k))[3]?.getD 0)] 27) := by
        have := hg2.out
        rw [ecs'.out, hsp.out] at this
        exact this
      simp only [List.getElem?_drop, Nat.add_zero] at hg3
      rw [hcl.out]
      have HO2 := own_below HO hb2
      have HB2 := bl_then HB hb2
      have HR2 := HR0.cut hqn h6
      clear HO HB HR hg2 hcs hcl hone hsp ecs' hmin hb2
      have q0 := getD_mem_range hx (by omega) (4 * k)
      have q1 := getD_mem_range hx (by omega) (4 * k + 1)
      have q2 := getD_mem_range hx (by omega) (4 * k + 2)
      have q3 := getD_mem_range hx (by omega) (4 * k + 3)
      have hw4 := Lib.hid (wordsTo_succ xs k)
      have hw4' : Hid (w4 xs k = xs[4 * k]?.getD 0 + xs[4 * k + 1]?.getD 0 * 256 + xs[4 * k + 2]?.getD 0 * 65536 + xs[4 * k + 3]?.getD 0 * 16777216) := Lib.hid rfl
      generalize xs[4 * k]?.getD 0 = y0 at *
      generalize xs[4 * k + 1]?.getD 0 = y1 at *
      generalize xs[4 * k + 2]?.getD 0 = y2 at *
      generalize xs[4 * k + 3]?.getD 0 = y3 at *
      have g0 : w2.cell? ⟨wr.heap.size, 0, none⟩ = some (.int .u8 y0) := cell_of_row w2 _ 0 _ _ _ hg3
      have g1 : w2.cell? ⟨wr.heap.size, 1, none⟩ = some (.int .u8 y1) := cell_of_row w2 _ 1 _ _ _ hg3
      have g2 : w2.cell? ⟨wr.heap.size, 2, none⟩ = some (.int .u8 y2) := cell_of_row w2 _ 2 _ _ _ hg3
      have g3 : w2.cell? ⟨wr.heap.size, 3, none⟩ = some (.int .u8 y3) := cell_of_row w2 _ 3 _ _ _ hg3
      clear hg3
      go_wp2_with fail
      refine (of_c y0 y1 y2 y3 q0 q1 q2 q3 _).mono ?_
      rintro e w3 ⟨rfl, b3⟩
      rw [← hw4'.out]
      have HO3 := own_below HO2 b3
      have HB3 := bl_then HB2 b3
      clear HO2 HB2 g0 g1 g2 g3 hw4' q0 q1 q2 q3
      go_wp2_with (at_builtin; refine app_own (w0 := w) w.heap.size 1 4 (.int .u32 0) rfl _ _ 33 22 rfl Try.underlying33 info_u32 rfl Nat.one_pos (by decide) (.slice A1 k c1) k (nums .u32 (wordsTo xs k)) rfl (HO3.alloc _) ⟨w3.heap.size, 0, none⟩ 1 1 (nums .u32 [w4 xs k]) rfl rfl ?d0 (nums_one _ _) ?d1 ?d2 ?d3 ?_)
      case d0 => exact row_news (heap_alloc_new _ _)
      case d1 => omega
      case d2 => exact bl_alloc HB3 _
      case d3 => have := HB3.size; simp; omega
      intro A2 c2 w4 HO4 HB4 hs4 _
      clear HO3 HB3
      rw [← nums_append, ← hw4.out] at HO4
      rw [List.drop_drop] at HR2
      go_wp2
      go_roundw
      case rel => exact ⟨k + 1, 4 * k + q, _, c0 - q, A2, c2, by omega, by omega, fun h => by omega, by omega, fun h => by omega, by rw [Nat.sub_sub], by omega, by rw [← Nat.sub_sub]; exact HR2, rfl, HO4, HB4⟩
      case measure => simp [lenOf]; omega
    · obtain rfl : m = n := by omega
      have hk := words_eq xs k (by omega)
      have hkl : (words xs).length = k := by rw [← hk]; simp [wordsTo]
      rw [hk] at HO
      have HK := Lib.hid hkl
      clear hk hkl
      go_wp2
      go_ret
      exact ⟨⟨A1, c1, by rw [HK.out]; rfl, by rw [HK.out]; exact HO⟩, HB⟩

theorem awake_c (w : World) :
    Calls Try.prog 18 #[] w fun e w' => e = .returned (.bool true) ∧ Below w.heap.size w w' := by
  go_enter Try.func18, Try.ntmps18
  go_wp2_with fail
  refine (bytes_c 258 (by omega) (by omega) _).mono ?_
  rintro e w1 ⟨rfl, b1⟩
  rw [show B4 258 = .agg #[.int .u8 2, .int .u8 1, .int .u8 0, .int .u8 0] from rfl]
  have heq : (Op.equalIn 10000 27 (.agg #[.int .u8 2, .int .u8 1, .int .u8 0, .int .u8 0]) (.agg #[.int .u8 2, .int .u8 1, .int .u8 0, .int .u8 0])).run Try.prog w1 = .ok true w1 := by
    obtain ⟨i0, hi, _, hz1, _⟩ := info_parts info_u8
    exact run_eq_ints 9998 27 4 5 .u8 i0 Try.underlying27 Try.underlying5 hi hz1 [2, 1, 0, 0] [2, 1, 0, 0] rfl rfl
  go_wp2_with fail
  refine (sign_c 65535 (by omega) (by omega) _).mono ?_
  rintro e w2 ⟨rfl, rfl⟩
  rw [show sgn 65535 = 4294967295 from rfl]
  go_wp2_with fail
  refine (less_c 4294967295 0 (by omega) (by omega) (by omega) (by omega) _).mono ?_
  rintro e w3 ⟨rfl, rfl⟩
  rw [show decide (val 4294967295 < val 0) = true from rfl]
  go_wp2_with fail
  go_ret
  exact ⟨rfl, b1⟩
end Go.Proofs.Ytaefaneecdploaa.Word
