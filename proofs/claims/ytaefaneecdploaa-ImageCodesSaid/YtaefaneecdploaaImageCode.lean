/- Contracts of image.Encode, of the reference's, and of the law's own functions. -/
import Derived.Test.YtaefaneecdploaaImageRef
import Derived.Test.YtaefaneecdploaaSuperCode
import Derived.Laws.AppendOwnNone
set_option linter.unusedVariables false
namespace Go.Proofs.Ytaefaneecdploaa.ImageCode
open Go.RowKit Go.Proofs.Ytaefaneecdploaa.Base Go.Proofs.Ytaefaneecdploaa.Math Go.Proofs.Ytaefaneecdploaa.Word Go.Proofs.Ytaefaneecdploaa.Ref01 Go.Proofs.Ytaefaneecdploaa.Row Go.Proofs.Ytaefaneecdploaa.Image Go.Proofs.Ytaefaneecdploaa.ImageRef
open Go.Proofs.Ytaefaneecdploaa.SuperCode (flat4_c refflat4_c)

section
variable {P : Program} {ops : Array Oper} {rest : List Oper} {o : Oper} {a : Act} {Q : Exit → Act → World → Prop}
theorem app_rd {w0 W : World} (base bytes : Nat) (k : IntKind) (z : Value) (hgd : o.guard = none) (s x : Operand) (t e : TypeId)
    (ho : o.op = .call { callee := .builtin .append, args := #[s, x], argTypes := #[t, t] })
    (ht : P.underlying t = some (.slice e)) (hinfo : (P.info? e).map (fun i => (i.zero, i.size, i.bytes)) = some (some z, 1, bytes)) (hzs : z.cells.size = 1) (hb0 : 0 < bytes)
    (v : Value) (n : Nat) (xs : List Value) (hs : a.eval s = v) (HO : W.ownsRow base e 1 v n xs)
    (A : Option Addr) (m c : Nat) (ys : List Int) (hx : a.eval x = .slice A m c) (hr : Rd W k A m ys) (hA : A = none → c = 0)
    (hbytes : (n + m) * bytes ≤ 140737488355328) (HB : Below base w0 W) (hbase : base ≤ W.heap.size)
    (h : ∀ A1 c1 w1, w1.ownsRow base e 1 (.slice A1 (n + m) c1) (n + m) (xs ++ nums k ys) → Below base w0 w1 → W.heap.size ≤ w1.heap.size → wpList P ops Q rest (a.put o.dst (.slice A1 (n + m) c1)) w1) :
    wpList P ops Q (o :: rest) a W := by
  cases A with
  | none =>
    obtain rfl : c = 0 := hA rfl
    have hm : m = 0 := by
      rcases Nat.eq_zero_or_pos m with hm | hm
      · exact hm
      · obtain ⟨ad, e', _⟩ := hr.cells hm
        cases e'
    subst hm
    obtain ⟨i0, hi, hz0, hz1, hz2⟩ := info_parts hinfo
    have hy : ys = [] := List.length_eq_zero_iff.1 hr.len
    subst hy
    obtain ⟨A1, c1, rfl⟩ := own_slice HO
    refine wpList_append_own_none hgd s x t ho base e i0 1 ht hi _ n xs hs HO hx ?_
    have := h A1 c1 W (by simpa [nums] using HO) HB (Nat.le_refl _)
    simpa using this
  | some ad =>
    refine app_own (w0 := w0) base 1 bytes z hgd s x t e ho ht hinfo hzs Nat.one_pos hb0 v n xs hs HO ad m c (nums k ys) hx (by simp [nums, hr.len]) ?_ (nums_one _ _) hbytes HB hbase ?_
    · intro j u hu
      rcases Nat.lt_or_ge j m with hj | hj
      · obtain ⟨ad', e', hc⟩ := hr.at_ j hj
        cases e'
        rw [hc]
        rw [← hu]
        simp [nums, List.getElem?_eq_getElem (show j < ys.length by rw [hr.len]; exact hj)]
      · rw [List.getElem?_eq_none (by simp [nums, hr.len]; exact hj)] at hu
        cases hu
    · intro A1 c1 w1 h1 h2 h3 _
      exact h A1 c1 w1 h1 h2 h3
end

theorem own_none {w : World} {base e n c : Nat} {xs : List Value} {A : Option Addr} (h : w.ownsRow base e 1 (.slice A n c) n xs) : A = none → c = 0 := by
  rintro rfl
  rcases h.2 with ⟨h1, _⟩ | ⟨g, cap, cur, hv, _⟩
  · injection h1
  · injection hv with h1; cases h1

/-- The words of an image's bytes. -/
def img (e p : Int) (ws : List Int) : List Int := [1196445263, e, p, (ws.length : Int)] ++ ws
theorem flat_img (e p : Int) (ws : List Int) : flat (img e p ws) = flat [1196445263, e, p, (ws.length : Int)] ++ flat ws := by simp [img, flat]

def EncPost (e p : Int) (ws : List Int) (n : Nat) (w w' : World) (r : Ending) : Prop := (∃ A1 c1, r = .returned (.tuple #[.slice A1 (16 + 4 * n) c1, .bool true]) ∧ w'.ownsRow w.heap.size 5 1 (.slice A1 (16 + 4 * n) c1) (16 + 4 * n) (nums .u8 (flat (img e p ws)))) ∧ Below w.heap.size w w'

set_option maxHeartbeats 4000000 in
theorem encode_yes (e p : Int) (A : Option Addr) (n c : Nat) (ws : List Int) (w : World) (he : 0 ≤ e ∧ e < 4294967296) (hr : Rd w .u32 A n ws) (hx : ∀ x ∈ ws, 0 ≤ x ∧ x < 4294967296) (h : right e p n = true) :
    Calls Try.prog 41 #[.agg #[.int .u32 e, .int .i64 p, .slice A n c]] w fun r w' => EncPost e p ws n w w' r := by
  obtain ⟨⟨p1, p2, p3, p4⟩, p5, p6⟩ := of_decide_eq_true h
  have hn : n ≤ 512 := by omega
  have wp : IntKind.u32.wrap p = p := by rw [IntKind.wrap_u32']; omega
  have wn : IntKind.u32.wrap (n : Int) = n := by rw [IntKind.wrap_u32']; omega
  have hrg : Hid (∀ x ∈ [1196445263, e, p, (n : Int)], 0 ≤ x ∧ x < 4294967296) := Lib.hid (by
    intro x hx
    simp only [List.mem_cons, List.not_mem_nil, or_false] at hx
    rcases hx with rfl | rfl | rfl | rfl <;> omega)
  have hlen := Lib.hid hr.len
  have hHx := Lib.hid hx
  have hR := Lib.hid h
  have he' := Lib.hid he
  clear h hx he p1 p2 p3 p4 p5 p6
  go_enter Try.func41, Try.ntmps41
  go_wp2_with fail
  refine (right_c e p A n c _ he'.out (by omega)).mono ?_
  rintro r w2 ⟨rfl, b2⟩
  rw [hR.out]
  have k2 := (Blk.new w 64 #[.int .u32 e, .int .i64 p, .slice A n c]).below b2
  have c0 := k2.cell 0
  have c1 := k2.cell 1
  have c2 := k2.cell 2
  simp only [List.getElem?_toArray, List.getElem?_cons_zero, List.getElem?_cons_succ] at c0 c1 c2
  have B2 := bl_then (bl_alloc (bl_refl w) _) b2
  have hr2 := hr.below B2
  have s2 := b2.size
  simp only [World.size_alloc] at s2
  clear b2 hr
  go_wp2_with fail
  refine (flat4_c 1196445263 e p n hrg.out w2.heap.size _ _ (Blk.new w2 _ _)).mono ?_
  rintro r w3 ⟨⟨A1, cc1, rfl, HO⟩, b3⟩
  have c2' := bl_cell (bl_then (bl_alloc (bl_refl w2) _) b3) c2
  have hr3 := hr2.below (bl_then (bl_alloc (bl_refl w2) _) b3)
  have B3 := bl_then (bl_alloc B2 _) b3
  have s3 := b3.size
  simp only [World.size_alloc] at s3
  clear c0 c1 c2 b3 k2 hr2
  go_wp2_with fail
  refine (flat_c A n c ws w3 hr3 hHx.out (by omega)).mono ?_
  rintro r w4 ⟨⟨A2, cc2, rfl, HO4⟩, b4⟩
  have HOa := own_mono (base' := w.heap.size) (own_below HO b4) (by simp; omega)
  have hRd := Rd.of_own HO4
  have hnone := own_none HO4
  have B4 := bl_then B3 b4
  have s4 := b4.size
  clear HO HO4 b4 B3 hr3 c2'
  go_wp2_with (at_builtin; refine app_rd (w0 := w) w.heap.size 1 .u8 (.int .u8 0) rfl _ _ 34 5 rfl Try.underlying34 info_u8 rfl Nat.one_pos (.slice A1 16 cc1) 16 _ rfl HOa A2 (4 * n) cc2 (flat ws) rfl hRd hnone ?d1 B4 ?d3 ?_)
  case d1 => omega
  case d3 => omega
  intro A3 c3 w5 HO5 B5 s5
  go_wp2
  go_ret2
  refine ⟨⟨A3, c3, rfl, ?_⟩, B5⟩
  rw [flat_img, hlen.out]
  simpa [nums] using HO5

set_option maxHeartbeats 4000000 in
theorem encode_no (e p : Int) (A : Option Addr) (n c : Nat) (w : World) (he : 0 ≤ e ∧ e < 4294967296) (hn : (n : Int) ≤ 9223372036854775807) (h : right e p n = false) :
    Calls Try.prog 41 #[.agg #[.int .u32 e, .int .i64 p, .slice A n c]] w fun r w' => r = .returned (.tuple #[.slice none 0 0, .bool false]) ∧ Below w.heap.size w w' := by
  have hR := Lib.hid h
  have he' := Lib.hid he
  clear h he
  go_enter Try.func41, Try.ntmps41
  go_wp2_with fail
  refine (right_c e p A n c _ he'.out hn).mono ?_
  rintro r w2 ⟨rfl, b2⟩
  rw [hR.out]
  have B2 := bl_then (bl_alloc (bl_refl w) _) b2
  clear b2
  go_wp2
  go_ret2
  exact ⟨rfl, B2⟩

def RefEncPost (e p : Int) (ws : List Int) (n : Nat) (w w' : World) (r : Ending) : Prop := (∃ A1 c1, r = .returned (.slice A1 (16 + 4 * n) c1) ∧ w'.ownsRow w.heap.size 5 1 (.slice A1 (16 + 4 * n) c1) (16 + 4 * n) (nums .u8 (flat (img e p ws)))) ∧ Below w.heap.size w w'

set_option maxHeartbeats 4000000 in
theorem refencode_yes (e p : Int) (A : Option Addr) (n c : Nat) (ws : List Int) (w : World) (he : 0 ≤ e ∧ e < 4294967296) (hr : Rd w .u32 A n ws) (hx : ∀ x ∈ ws, 0 ≤ x ∧ x < 4294967296) (hA : A = none → c = 0) (h : right e p n = true) :
    Calls Try.prog 47 #[.agg #[.int .u32 e, .int .i64 p, .slice A n c]] w fun r w' => RefEncPost e p ws n w w' r := by
  obtain ⟨⟨p1, p2, p3, p4⟩, p5, p6⟩ := of_decide_eq_true h
  have hn : n ≤ 512 := by omega
  have wp : IntKind.u32.wrap p = p := by rw [IntKind.wrap_u32']; omega
  have wn : IntKind.u32.wrap (n : Int) = n := by rw [IntKind.wrap_u32']; omega
  have hrg : Hid (∀ x ∈ img e p ws, 0 ≤ x ∧ x < 4294967296) := Lib.hid (by
    intro x hx'
    rcases List.mem_append.1 hx' with h | h
    · simp only [List.mem_cons, List.not_mem_nil, or_false] at h
      rcases h with rfl | rfl | rfl | rfl
      · omega
      · omega
      · omega
      · have := hr.len; omega
    · exact hx x h)
  have hlen := Lib.hid hr.len
  have hA' := Lib.hid hA
  clear h hx he p1 p2 p3 p4 p5 p6 hA
  go_enter Try.func47, Try.ntmps47
  have HO1 := World.ownsRow_lit (base := w.heap.size) (w.alloc (.cells #[.int .u32 e, .int .i64 p, .slice A n c] 61)) #[.int .u32 1196445263, .int .u32 e, .int .u32 p, .int .u32 (n : Int)] 4 (e := 22) (size := 1) (by simp) (by simp [maxLen]) rfl
  simp only [World.size_alloc] at HO1
  have B1 := bl_alloc (bl_alloc (bl_refl w) (.cells #[.int .u32 e, .int .i64 p, .slice A n c] 61)) (.cells #[.int .u32 1196445263, .int .u32 e, .int .u32 p, .int .u32 (n : Int)] 22)
  have hr1 := hr.below B1
  clear hr
  go_wp2_with (at_builtin; refine app_rd (w0 := w) w.heap.size 4 .u32 (.int .u32 0) rfl _ _ 33 22 rfl Try.underlying33 info_u32 rfl (by decide) _ 4 _ rfl HO1 A n c ws rfl hr1 hA'.out ?d1 B1 ?d3 ?_)
  case d1 => omega
  case d3 => simp; omega
  intro A3 c3 w5 HO5 B5 s5
  have HO6 : w5.ownsRow w.heap.size 22 1 (.slice A3 (4 + n) c3) (4 + n) (nums .u32 (img e p ws)) := by
    have e1 : nums .u32 (img e p ws) = (#[.int .u32 1196445263, .int .u32 e, .int .u32 p, .int .u32 (n : Int)] : Array Value).toList ++ nums .u32 ws := by simp [nums, img, hlen.out]
    rw [e1]; exact HO5
  clear HO5 HO1 B1 hr1
  go_wp2_with fail
  refine (refflat_c A3 (4 + n) c3 (img e p ws) w5 (Rd.of_own HO6) hrg.out (by omega)).mono ?_
  rintro r w6 ⟨⟨A4, c4, rfl, HO7⟩, b6⟩
  have B6 := bl_then B5 b6
  have HO8 := own_mono (base' := w.heap.size) HO7 B5.size
  rw [show 4 * (4 + n) = 16 + 4 * n by omega] at HO8 ⊢
  go_wp2
  go_ret
  exact ⟨⟨A4, c4, rfl, HO8⟩, B6⟩

set_option maxHeartbeats 4000000 in
theorem same_yes (e p : Int) (A B : Option Addr) (n m c d : Nat) (ws : List Int) (w : World) (ha : Rd w .u32 A n ws) (hb : Rd w .u32 B m ws) :
    Calls Try.prog 48 #[.agg #[.int .u32 e, .int .i64 p, .slice A n c], .agg #[.int .u32 e, .int .i64 p, .slice B m d]] w fun r w' => r = .returned (.bool true) ∧ Below w.heap.size w w' := by
  have q1 : (e == e) = true := by simp
  have q2 : (p == p) = true := by simp
  have q3 : Hid ((ws == ws) = true) := Lib.hid (by simp)
  have B0 := bl_alloc (bl_alloc (bl_refl w) (.cells #[.int .u32 e, .int .i64 p, .slice A n c] 64)) (.cells #[.int .u32 e, .int .i64 p, .slice B m d] 61)
  have ha1 := ha.below B0
  have hb1 := hb.below B0
  clear ha hb
  go_enter Try.func48, Try.ntmps48
  go_wp2_with fail
  refine (same_c A B n m c d ws ws _ ha1 hb1).mono ?_
  rintro r w1 ⟨rfl, b1⟩
  rw [q3.out]
  have B1 := bl_then B0 b1
  clear b1 B0 ha1 hb1
  go_wp2
  go_ret
  exact ⟨rfl, B1⟩

def z16 : List Int := List.replicate 16 0
def p16 : List Int := 7 :: List.replicate 15 0
def V16 (l : List Int) : Array Value := (nums .u32 l).toArray
theorem new16 : (Try.prog.info? 77).map (fun i => i.zero.map (·.cells)) = some (some (V16 z16)) := by kernel_rfl
theorem size16 (v : Array Value) (h : v.size = 16) : (Try.prog.info? 77).map (·.size) = some v.size := by rw [h]; kernel_rfl
theorem V16_one (l : List Int) : ∀ v ∈ V16 l, v.oneCell' = true := by
  intro v hv
  exact nums_one .u32 l v (by simpa [V16] using hv)

set_option maxHeartbeats 4000000 in
theorem page_one (ad : Addr) (c : Nat) (w : World) (hc : 1 ≤ c) (hr : w.cell? ad = some (.int .u32 7)) :
    Calls Try.prog 50 #[.agg #[.int .u32 0, .int .i64 1, .slice (some ad) 1 c], .int .i64 0] w fun r w' => r = .returned (.tuple #[.agg (V16 p16), .bool true]) ∧ Below w.heap.size w w' := by
  have hsz1 : Hid ((Try.prog.info? 22).map (·.size) = some 1) := Lib.hid (by kernel_rfl)
  have hsp : Hid (splice (V16 z16).toList 0 (nums .u32 [7]) = nums .u32 p16) := Lib.hid (by simp [splice, V16, z16, p16, nums])
  have hs16 := Lib.hid (size16 (V16 z16) (by simp [V16, nums, z16]))
  have hsp16 := Lib.hid (size16 (V16 p16) (by simp [V16, nums, p16]))
  have hszz : Hid ((V16 z16).size = (V16 p16).size) := Lib.hid (by simp [V16, nums, z16, p16])
  go_enter Try.func50, Try.ntmps50
  have tok1 := Lib.hid (show True from trivial)
  go_wp2_with (first
    | ((with_reducible refine wl_box rfl 64 _ rfl (row3 0 1 (.slice (some ad) 1 c)) rfl ?_); intro w1 k1 b1 s1)
    | (have _t := tok1; (with_reducible refine wl_alloc rfl 77 rfl (V16 z16) new16 ?_); intro w2 k2 b2 s2; clear tok1; have k1' := k1.below b2)
    | ((with_reducible refine wl_alloc rfl 77 rfl (V16 z16) new16 ?_); intro w3 k3 b3 s3; have k2' := k2.below b3; have k1'' := k1'.below b3; have f1 := k1''.cellv 1 (.int .i64 1) rfl; have f2 := k1''.cellv 2 (.slice (some ad) 1 c) rfl))
  have hsrc : w3.cell? ad = some (.int .u32 7) := bl_cell (bl_then (bl_then b1 b2) b3) hr
  have hsrc' : Hid (0 < (nums .u32 [7]).length → ∃ ad', some ad = some ad' ∧ ∀ j v, (nums .u32 [7])[j]? = some v → w3.drew.cell? (ad'.add j) = some v) := Lib.hid (fun _ => ⟨ad, rfl, fun j v hv => by
    match j with
    | 0 => simp [nums] at hv; subst hv; rw [show ad.add 0 = ad from by unfold Addr.add; simp]; exact hsrc
    | j + 1 => simp [nums] at hv⟩)
  have hfit : Hid (0 + (nums .u32 [7]).length ≤ (V16 z16).size) := Lib.hid (by simp [nums, V16, z16])
  have hnn : Hid ((nums .u32 [7]).length = Nat.min 1 16) := Lib.hid rfl
  clear hsrc hr
  have hw0 : IntKind.i64.wrap 0 = 0 := by decide
  have hc' : ¬ c = 0 := by omega
  have had : ad.add 0 = ad := by unfold Addr.add; simp
  go_region_law (first
    | (refine step_copy rfl (.tmp 22) (.tmp 27) 33 33 rfl 22 Try.underlying33 hsz1.out w2.heap.size 0 16 16 rfl 77 (V16 z16) k3.drew (some ad) 1 c rfl (nums .u32 [7]) hnn.out hsrc'.out hfit.out (nums_one _ _) ?_; intro w6 k6 g6 s6))
  rw [hsp.out] at k6
  have K6 : Blk w6 w2.heap.size 77 (V16 p16) := k6
  have B3 := bl_drew (bl_then (bl_then b1 b2) b3)
  have hne : w1.heap.size < w2.heap.size := s2
  have k2'' := (k2'.drew).grown g6 (fun e => by injection e with e; omega)
  have B6 := below_grown B3 (by have := B3.size; exact this) g6 (by omega)
  clear k6 g6 k2' k1'' k3 B3
  go_wp2_with (first
    | ((with_reducible refine wl_load rfl 77 _ rfl w2.heap.size rfl 77 (V16 p16) _ K6 Try.underlying77 rfl hsp16.out ?_))
    | ((with_reducible refine wl_store rfl 77 _ _ rfl w1.heap.size rfl (V16 p16) rfl 77 (V16 z16) k2'' hsp16.out hszz.out (V16_one _) ?_); intro w7 k7 g7 s7))
  refine bodyPost_ret (res_cell_tmp rfl _ _ _ w1.heap.size 77 (V16 p16) _ rfl k7 Try.underlying77 rfl hsp16.out) rfl ⟨rfl, ?_⟩
  exact below_grown B6 B6.size g7 (by omega)
end Go.Proofs.Ytaefaneecdploaa.ImageCode
