/- Contract of the cpu laws' both. -/
import Derived.Test.YtdokmnpkihmkpaaCpu3
import Derived.Test.YtdokmnpkihmkpaaTlbRef2
import Derived.Test.YtdokmnpkihmkpaaFrames6
set_option linter.unusedVariables false
namespace Go.Proofs.Ytdokmnpkihmkpaa.Cpu4
open Go.RowKit Go.Proofs.Ytdokmnpkihmkpaa.Base Go.Proofs.Ytdokmnpkihmkpaa.Row Go.Proofs.Ytdokmnpkihmkpaa.App Go.Proofs.Ytdokmnpkihmkpaa.Multi Go.Proofs.Ytdokmnpkihmkpaa.StEq Go.Proofs.Ytdokmnpkihmkpaa.Held Go.Proofs.Ytdokmnpkihmkpaa.Out Go.Proofs.Ytdokmnpkihmkpaa.HeldW Go.Proofs.Ytdokmnpkihmkpaa.HeldX Go.Proofs.Ytdokmnpkihmkpaa.Once Go.Proofs.Ytdokmnpkihmkpaa.Isa Go.Proofs.Ytdokmnpkihmkpaa.Isa2 Go.Proofs.Ytdokmnpkihmkpaa.Isa3 Go.Proofs.Ytdokmnpkihmkpaa.TlbMath Go.Proofs.Ytdokmnpkihmkpaa.Tlb Go.Proofs.Ytdokmnpkihmkpaa.Tlb3 Go.Proofs.Ytdokmnpkihmkpaa.Tlb5 Go.Proofs.Ytdokmnpkihmkpaa.TlbRef Go.Proofs.Ytdokmnpkihmkpaa.Frames Go.Proofs.Ytdokmnpkihmkpaa.Frames4 Go.Proofs.Ytdokmnpkihmkpaa.Frames5 Go.Proofs.Ytdokmnpkihmkpaa.Cpu Go.Proofs.Ytdokmnpkihmkpaa.Cpu2 Go.Proofs.Ytdokmnpkihmkpaa.Cpu3

section
variable {P : Program} {ops : Array Oper} {Q : Exit → Act → World → Prop} {rest : List Oper} {o : Oper} {a : Act} {W : World}
theorem wl_build1 (hgd : o.guard = none) (T : TypeId) (i : Nat) (x : Operand) (ho : o.op = .build T #[(i, x)]) (v : Value) (hx : a.eval x = v) (cs : Array Value) (hb : P.built T [(i, v)] = some cs)
    (h : wpList P ops Q rest (a.put o.dst (.agg cs)) W) : wpList P ops Q (o :: rest) a W := by
  have e : (Array.map (fun (x : Nat × Operand) => match x with | (i, x) => (i, a.eval x)) #[(i, x)]).toList = [(i, v)] := by simp [hx]
  refine wpList_build hgd T #[(i, x)] ho ?_ ?_
  · rw [e, hb]; rfl
  · rw [e, hb]; exact h
end
/-- The first k words. -/
def lay (xs : List Int) (k : Nat) : List Int := (List.range 64).map (fun i => if i < k then xs[i]?.getD 0 else 0)
theorem lay_len (xs : List Int) (k : Nat) : (lay xs k).length = 64 := by simp [lay]
theorem lay_get (xs : List Int) (k i : Nat) (h : i < 64) : (lay xs k)[i]? = some (if i < k then xs[i]?.getD 0 else 0) := by
  unfold lay
  rw [List.getElem?_map, List.getElem?_range h]; rfl
theorem lay_zero (xs : List Int) : lay xs 0 = List.replicate 64 0 := by
  apply List.ext_getElem?
  intro i
  rcases Nat.lt_or_ge i 64 with h | h
  · rw [lay_get _ _ _ h, List.getElem?_replicate, if_pos h]; simp
  · rw [List.getElem?_eq_none (by rw [lay_len]; exact h), List.getElem?_eq_none (by simp; exact h)]
theorem lay_set (xs : List Int) (k : Nat) : (lay xs k).set k (xs[k]?.getD 0) = lay xs (k + 1) := by
  apply List.ext_getElem?
  intro i
  rw [List.getElem?_set, lay_len]
  rcases Nat.lt_or_ge i 64 with h | h
  · rw [lay_get _ _ _ h, lay_get _ _ _ h]
    by_cases hk : k = i
    · subst hk
      rw [if_pos rfl, if_pos h, if_pos (by omega)]
    · rw [if_neg hk]
      have e : (i < k + 1) = (i < k) := by rw [eq_iff_iff]; omega
      simp only [e]
  · have e1 : (lay xs k)[i]? = none := List.getElem?_eq_none (by rw [lay_len]; exact h)
    have e2 : (lay xs (k + 1))[i]? = none := List.getElem?_eq_none (by rw [lay_len]; exact h)
    rw [e1, e2]
    by_cases hk : k = i
    · rw [if_pos hk, if_neg (by omega)]
    · rw [if_neg hk]
/-- The first k entries, laid. -/
def putN (es : List En) : Nat → List En
  | 0 => []
  | k + 1 => match es[k]? with
    | some e => put (putN es k) e
    | none => putN es k
theorem putN_yes {es : List En} {k : Nat} {e : En} (h : es[k]? = some e) : putN es (k + 1) = put (putN es k) e := by simp [putN, h]
theorem putN_uni (es : List En) : ∀ k, Uni (putN es k)
  | 0 => uni_nil
  | k + 1 => by
    cases h : es[k]? with
    | some e => rw [putN_yes h]; exact put_uni (putN_uni es k) e
    | none => have : putN es (k + 1) = putN es k := by simp [putN, h]
              rw [this]; exact putN_uni es k
def rm (b c : Nat) (A : Option Addr) (n c2 : Nat) : Array Value := #[.slice (some ⟨b, 0, none⟩) 64 c, .slice A n c2]
theorem built_rm (b c : Nat) : Try.prog.built 136 [(0, .slice (some ⟨b, 0, none⟩) 64 c)] = some (rm b c none 0 0) := by kernel_rfl
theorem new_re : (Try.prog.info? 58).map (fun i => i.zero.map (·.cells)) = some (some (ea ez)) := by kernel_rfl
theorem size_re (x : En) : (Try.prog.info? 58).map (·.size) = some (ea x).size := by kernel_rfl
theorem size_sl : (Try.prog.info? 65).map (·.size) = some 1 := by kernel_rfl
set_option maxRecDepth 100000 in
theorem built_cpu (gm gt : Nat) : Try.prog.built 143 [(1, .pointer (some ⟨gm, 0, none⟩)), (2, .pointer (some ⟨gt, 0, none⟩))] = some (oc 0 0 (nums .i64 T0 ++ tail gm gt)) := by kernel_rfl
section
variable {P : Program} {ops : Array Oper} {Q : Exit → Act → World → Prop} {rest : List Oper} {o : Oper} {a : Act} {W : World}
theorem wl_build2 (hgd : o.guard = none) (T : TypeId) (i j : Nat) (x y : Operand) (ho : o.op = .build T #[(i, x), (j, y)]) (u v : Value) (hx : a.eval x = u) (hy : a.eval y = v) (cs : Array Value) (hb : P.built T [(i, u), (j, v)] = some cs)
    (h : wpList P ops Q rest (a.put o.dst (.agg cs)) W) : wpList P ops Q (o :: rest) a W := by
  have e : (Array.map (fun (x : Nat × Operand) => match x with | (i, x) => (i, a.eval x)) #[(i, x), (j, y)]).toList = [(i, u), (j, v)] := by simp [hx, hy]
  refine wpList_build hgd T _ ho ?_ ?_
  · rw [e, hb]; rfl
  · rw [e, hb]; exact h
end
set_option maxRecDepth 100000 in
set_option maxHeartbeats 2000000 in
theorem cnew_c (gm gt : Nat) (w : World) :
    Calls Try.prog 69 #[.pointer (some ⟨gm, 0, none⟩), .pointer (some ⟨gt, 0, none⟩)] w fun r w' => (∃ x, r = .returned (.pointer (some ⟨x, 0, none⟩)) ∧ w.heap.size ≤ x ∧ Tb w' x 143 (tail gm gt)) ∧ Below w.heap.size w w' := by
  have hb := built_cpu gm gt
  obtain ⟨cC, hC⟩ : ∃ cC, cC = oc 0 0 (nums .i64 T0 ++ tail gm gt) := ⟨_, rfl⟩
  rw [← hC] at hb
  go_enter Try.func69, Try.ntmps69
  go_wp2_with (first
    | (refine at_slot 7 rfl ?_; refine wl_build2 rfl 143 1 2 (.tmp 5) (.tmp 6) rfl (.pointer (some ⟨gm, 0, none⟩)) (.pointer (some ⟨gt, 0, none⟩)) rfl rfl cC hb ?_)
    | ((with_reducible refine wl_box rfl 143 (.tmp 7) rfl cC rfl ?_); intro w1 k1 b1 s1))
  go_ret
  exact ⟨⟨_, rfl, Nat.le_refl _, .inl (by rw [hC] at k1; exact k1)⟩, b1⟩
theorem row_lt {w : World} {base e sz n c : Nat} {A : Option Addr} {xs : List Value} (h : w.ownsRow base e sz (.slice A n c) n xs) (b : Nat) (hb : (Value.slice A n c).ownBlock = some b) : ∃ cs, Blk w b e cs := by
  rcases h.2 with ⟨h1, _⟩ | ⟨g, cap, cur, hv, _, hk, _⟩
  · injection h1 with h2
    subst h2
    cases hb
  · rw [hv] at hb
    have : (Value.slice (some ⟨g, 0, none⟩) n cap).ownBlock = some g := by rfl
    rw [this] at hb
    injection hb with hb
    subst hb
    exact ⟨cur, hk⟩
theorem results_tmp4 {fn : Func} {t u v x : Tmp} (h : fn.results = #[.tmp t, .tmp u, .tmp v, .tmp x]) (tmps : Array Value) (P : Program) (w : World) :
    (results fn tmps).run P w = .ok (.tuple #[tmps.getD t undef, tmps.getD u undef, tmps.getD v undef, tmps.getD x undef]) w := by
  simp [results, h]
/-- The four that both makes. -/
def BothPost (w0 : World) (X : List Int) (l : List En) (w' : World) (r : Ending) : Prop := ∃ x gm gp gt gr, r = .returned (.tuple #[.pointer (some ⟨x, 0, none⟩), .pointer (some ⟨gm, 0, none⟩), .pointer (some ⟨gt, 0, none⟩), .pointer (some ⟨gr, 0, none⟩)]) ∧ CS w' x gm gp gt 4 X l 0 ∧ w0.heap.size ≤ x ∧ w0.heap.size ≤ gm ∧ w0.heap.size ≤ gp ∧ w0.heap.size ≤ gt
set_option maxRecDepth 100000 in
set_option maxHeartbeats 8000000 in
theorem both_c (A : Option Addr) (n c : Nat) (xs : List Int) (A2 : Option Addr) (n2 c2 : Nat) (es : List En) (SV : Array Value) (w : World) (h0 : SV[0]? = some (.slice A n c)) (h1 : SV[1]? = some (.slice A2 n2 c2)) (hx : Rd w .u32 A n xs) (hxa : ∀ a, A = some a → 0 < n → a.block < w.heap.size) (he : RF ev 4 w A2 n2 es) :
    Calls Try.prog 53 #[.agg SV] w fun r w' => BothPost w (lay xs (min n 64)) (putN es (min n2 12)) w' r ∧ Below w.heap.size w w' := by
  have hxx := Lib.hid hx
  have hxb := Lib.hid hxa
  have hee := Lib.hid he
  have hmx := hx.max
  have hmx2 := he.max
  have hlen2 := Lib.hid he.len
  have hN := fun w' => new_c 4 (by omega) (by omega) w'
  rw [show ((4 : Nat) : Int) = 4 from rfl] at hN
  replace hN := Lib.hid hN
  have hM := fun w' => rnew_c 4 64 rfl (by omega) (by omega) w'
  rw [show ((4 : Nat) : Int) = 4 from rfl] at hM
  replace hM := Lib.hid hM
  replace h0 := Lib.hid h0
  replace h1 := Lib.hid h1
  clear hx hxa he
  go_enter Try.func53, Try.ntmps53
  go_wp2_with (first
    | ((with_reducible refine wl_box rfl 111 _ rfl SV rfl ?_); intro w1 k1 b1 s1))
  refine (hN.out w1).mono ?_
  rintro r w2 ⟨rfl, HM, b2⟩
  obtain ⟨gm, hgm⟩ : ∃ gm, gm = w1.heap.size + 1 := ⟨_, rfl⟩
  obtain ⟨gp, hgp⟩ : ∃ gp, gp = w1.heap.size := ⟨_, rfl⟩
  rw [← hgm, ← hgp] at HM
  rw [← hgm]
  have k2 := k1.below b2
  have B2 := bl_then b1 b2
  have z1 := b1.size
  have hgmw : w.heap.size ≤ gm := by omega
  have hgpw : w.heap.size ≤ gp := by omega
  clear k1 b1 b2 hN hgm hgp
  go_wp2_with fail
  refine (hM.out w2).mono ?_
  rintro r w3 ⟨⟨gb, cb, rfl, hgb, hcb, HR⟩, b3⟩
  have k3 := k2.below b3
  have HM := HM.below b3
  have B3 := bl_then B2 b3
  have z2 := B2.size
  have hrm := built_rm gb cb
  have HR' : ∃ Y : List Int, Y.length = 64 ∧ Rf w3 gb Y := ⟨_, by simp, HR⟩
  clear k2 b3 hM HR B2
  go_wp2_with (first
    | (refine at_slot 14 rfl ?_; refine wl_build1 rfl 136 0 (.tmp 13) rfl (.slice (some ⟨gb, 0, none⟩) 64 cb) rfl (rm gb cb none 0 0) hrm ?_)
    | (refine at_slot 15 rfl ?_; (with_reducible refine wl_box rfl 136 (.tmp 14) rfl (rm gb cb none 0 0) rfl ?_); intro w4 k4 b4 s4))
  obtain ⟨gr, hgr⟩ : ∃ gr, gr = w3.heap.size := ⟨_, rfl⟩
  obtain ⟨gs, hgs⟩ : ∃ gs, gs = w.heap.size := ⟨_, rfl⟩
  rw [← hgr] at k4 ⊢
  rw [← hgs] at k3 ⊢
  have q4 : gs < gr := by have := k3.lt; omega
  have k3 := k3.below b4
  have HM := HM.below b4
  obtain ⟨Y, hY, HR⟩ := HR'
  have HR := HR.below b4
  have B4 := bl_then B3 b4
  have z3 := B3.size
  have hgbw : w.heap.size ≤ gb := by omega
  have hgrw : w.heap.size ≤ gr := by omega
  have hgsw : w.heap.size ≤ gs := by omega
  clear b4 hrm s1 s4 B3 hgb hgs hgr
  rw [← lay_zero xs] at HM
  have q5 := HM.p.lt
  go_loopw [8] (fun i wr => ∃ (k : Nat) (Y : List Int), k ≤ n ∧ k ≤ 64 ∧ i = .int .i64 k ∧ Y.length = 64 ∧ Mm wr gm gp 4 (lay xs k) ∧ Rf wr gb Y ∧ Blk wr gs 111 SV ∧ Blk wr gr 136 (rm gb cb none 0 0) ∧ Below w.heap.size w wr) (fun i _ => 64 + 1 - (intOf i).toNat)
  case atStart => exact ⟨0, Y, by omega, by omega, rfl, hY, HM, HR, k3, k4, B4⟩
  case round =>
    clear HM HR k3 k4 B4 hY
    obtain ⟨k, Y, hk, hk64, rfl, hY, HM, HR, KS, KR, HB⟩ := hrel
    obtain ⟨wo, rfl⟩ : ∃ wo : World, wo = wr := ⟨_, rfl⟩
    have c0 : wo.cell? ⟨gs, 0, none⟩ = some (.slice A n c) := KS.cellv 0 _ h0.out
    go_upto_region 4 with fail
    go_cut [24] from 16 to 48 (fun sv wx => sv = .bool (decide (k < n ∧ k < 64)) ∧ wo = wx)
    case first =>
      clear HM HR KS KR HB hxx hee
      by_cases g1 : k < n
      · have hq : decide ((k : Int) < (n : Int)) = true := by simp; omega
        have hq3 : (k : Int) < (n : Int) := by omega
        by_cases g2 : k < 64
        · have hq2 : decide ((k : Int) < 64) = true := by simp; omega
          have hq4 : (k : Int) < 64 := by omega
          have hfin : Hid (decide (k < n ∧ k < 64) = true) := Lib.hid (by simp; omega)
          go_wp2_with fail
          go_meet
          exact ⟨by rw [hfin.out], rfl⟩
        · have hq2 : decide ((k : Int) < 64) = false := by simp; omega
          have hfin : Hid (decide (k < n ∧ k < 64) = false) := Lib.hid (by simp; omega)
          go_wp2_with fail
          go_meet
          exact ⟨by rw [hfin.out], rfl⟩
      · have hq : decide ((k : Int) < (n : Int)) = false := by simp; omega
        have hfin : Hid (decide (k < n ∧ k < 64) = false) := Lib.hid (by simp; omega)
        go_wp2_with fail
        go_meet
        exact ⟨by rw [hfin.out], rfl⟩
    case rest =>
      obtain ⟨rfl, rfl⟩ := hcut
      rcases Decidable.em (k < n ∧ k < 64) with hlt | hlt
      · have hdec : decide (k < n ∧ k < 64) = true := by simpa using hlt
        rw [hdec]
        have hlt1 := hlt.1
        have hlt2 := hlt.2
        have hq3 : (k : Int) < (n : Int) := by omega
        have hq4 : (k : Int) < 64 := by omega
        obtain ⟨f, hf⟩ : ∃ f, f = k / 16 := ⟨_, rfl⟩
        obtain ⟨a, ha⟩ : ∃ a, a = k % 16 := ⟨_, rfl⟩
        have hf1 : (k : Int) / 16 = (f : Int) := by omega
        have ha1 : (k : Int) % 16 = (a : Int) := by omega
        have hfa : Hid (f * 16 + a = k) := Lib.hid (by omega)
        have hP := fun w' h v => put_yes gm gp 4 f a v (lay xs k) w' h (by omega) (by omega)
        replace hP := Lib.hid hP
        obtain ⟨ad, rfl, cw0⟩ := hxx.out.at_ k hlt1
        have hadb := Lib.hid (hxb.out ad rfl (by omega))
        have hls := Lib.hid (lay_set xs k)
        obtain ⟨v, hv⟩ : ∃ v, v = xs[k]?.getD 0 := ⟨_, rfl⟩
        rw [← hv] at cw0 hls
        have cw := bl_cell HB cw0
        clear hv hf ha hdec hlt
        go_wp2_with fail
        refine (hP.out wo HM v).mono ?_
        rintro r w5 ⟨rfl, HM5, G5⟩
        rw [hfa.out, hls.out] at HM5
        obtain ⟨nb1, nb2⟩ := HR.ne HM
        have HR := HR.grown G5 nb2
        have KS := KS.grown G5 (fun e => by injection e with e; exact Blk.ne_ KS HM.p (by decide) e)
        have KR := KR.grown G5 (fun e => by injection e with e; exact Blk.ne_ KR HM.p (by decide) e)
        have HB := bl_drew (below_grown HB HB.size G5 hgpw)
        have HM := HM5.below (bl_drew (bl_refl w5))
        obtain ⟨cur, kcur, hcur⟩ := HR
        have hks : k < cur.size := by
          have := hcur k (by omega)
          exact (Array.getElem?_eq_some_iff.1 this).1
        have hcur' := Lib.hid hcur
        have ngr : gr ≠ gb := Blk.ne_ KR kcur (by decide)
        have ngs : gs ≠ gb := Blk.ne_ KS kcur (by decide)
        clear HM5 G5 hP hls cw hcur hfa
        go_upto_region 7 with fail
        have cw := bl_cell HB cw0
        refine wp_region_held_drew (S := (fun w' => Blk w' gr 136 (rm gb cb none 0 0) ∧ Blk w' gs 111 SV ∧ w'.cell? (ad.add k) = some (.int .u32 v))) (by kernel_rfl) (⟨KR.drew, KS.drew, cw⟩) (fun hHeld => ?_)
        refine wpAnyH_take (i := 0) (oi := { dst := some 38, op := Op.move (Operand.tmp 7), type := 113, pos := "law.go:29", after := #[], guard := none }) (v := ?_) rfl (by kernel_rfl) (by kernel_rfl) (by kernel_rfl) (fun _ _ _ h => h) ?_ hHeld ?_
        rotate_left
        · refine Or.inl ⟨by rfl, fun w hSw => ?_⟩; skip; go_simp; (try with_reducible rfl)
        try simp only [Act.put, List.setIfInBounds_toArray, List.set_cons_zero, List.set_cons_succ]
        refine wpAnyH_take (i := 1) (oi := { dst := some 39, op := Op.nilCheck (Operand.tmp 38), type := 0, pos := "law.go:29", after := #[{ on := 0, ground := Ground.data }], guard := none }) (v := ?_) rfl (by kernel_rfl) (by kernel_rfl) (by kernel_rfl) (fun _ _ _ h => h) ?_ hHeld ?_
        rotate_left
        · refine Or.inl ⟨by rfl, fun w hSw => ?_⟩; skip; go_simp; (try with_reducible rfl)
        try simp only [Act.put, List.setIfInBounds_toArray, List.set_cons_zero, List.set_cons_succ]
        refine wpAnyH_take (i := 2) (oi := { dst := some 40, op := Op.fieldAddr 136 (Operand.tmp 39) 0, type := 0, pos := "law.go:29", after := #[{ on := 1, ground := Ground.data }], guard := none }) (v := ?_) rfl (by kernel_rfl) (by kernel_rfl) (by kernel_rfl) (fun _ _ _ h => h) ?_ hHeld ?_
        rotate_left
        · refine Or.inl ⟨by rfl, fun w hSw => ?_⟩; skip; go_simp; (try with_reducible rfl)
        try simp only [Act.put, List.setIfInBounds_toArray, List.set_cons_zero, List.set_cons_succ]
        refine wpAnyH_take (i := 3) (oi := { dst := some 41, op := Op.load 25 (Operand.tmp 40), type := 25, pos := "law.go:29", after := #[{ on := 2, ground := Ground.data }], guard := none }) (v := ?_) rfl (by kernel_rfl) (by kernel_rfl) (by kernel_rfl) (fun _ _ _ h => h) ?_ hHeld ?_
        rotate_left
        · refine Or.inl ⟨by rfl, fun w' hSw => ?_⟩; have c0 : w'.cell? ⟨gr, 0, none⟩ = some (.slice (some ⟨gb, 0, none⟩) 64 cb) := hSw.1.cellv 0 _ rfl; go_simp; (try with_reducible rfl)
        try simp only [Act.put, List.setIfInBounds_toArray, List.set_cons_zero, List.set_cons_succ]
        refine wpAnyH_take (i := 4) (oi := { dst := some 42, op := Op.move (Operand.tmp 8), type := 3, pos := "law.go:29", after := #[], guard := none }) (v := ?_) rfl (by kernel_rfl) (by kernel_rfl) (by kernel_rfl) (fun _ _ _ h => h) ?_ hHeld ?_
        rotate_left
        · refine Or.inl ⟨by rfl, fun w hSw => ?_⟩; skip; go_simp; (try with_reducible rfl)
        try simp only [Act.put, List.setIfInBounds_toArray, List.set_cons_zero, List.set_cons_succ]
        refine wpAnyH_take (i := 5) (oi := { dst := some 43, op := Op.fieldAddr 111 (Operand.tmp 1) 0, type := 0, pos := "law.go:29", after := #[], guard := none }) (v := ?_) rfl (by kernel_rfl) (by kernel_rfl) (by kernel_rfl) (fun _ _ _ h => h) ?_ hHeld ?_
        rotate_left
        · refine Or.inl ⟨by rfl, fun w hSw => ?_⟩; skip; go_simp; (try with_reducible rfl)
        try simp only [Act.put, List.setIfInBounds_toArray, List.set_cons_zero, List.set_cons_succ]
        refine wpAnyH_take (i := 6) (oi := { dst := some 44, op := Op.load 25 (Operand.tmp 43), type := 25, pos := "law.go:29", after := #[{ on := 5, ground := Ground.data }], guard := none }) (v := ?_) rfl (by kernel_rfl) (by kernel_rfl) (by kernel_rfl) (fun _ _ _ h => h) ?_ hHeld ?_
        rotate_left
        · refine Or.inl ⟨by rfl, fun w' hSw => ?_⟩; have c0 : w'.cell? ⟨gs, 0, none⟩ = some (.slice (some ad) n c) := hSw.2.1.cellv 0 _ h0.out; go_simp; (try with_reducible rfl)
        try simp only [Act.put, List.setIfInBounds_toArray, List.set_cons_zero, List.set_cons_succ]
        refine wpAnyH_take (i := 7) (oi := { dst := some 45, op := Op.move (Operand.tmp 8), type := 3, pos := "law.go:29", after := #[], guard := none }) (v := ?_) rfl (by kernel_rfl) (by kernel_rfl) (by kernel_rfl) (fun _ _ _ h => h) ?_ hHeld ?_
        rotate_left
        · refine Or.inl ⟨by rfl, fun w hSw => ?_⟩; skip; go_simp; (try with_reducible rfl)
        try simp only [Act.put, List.setIfInBounds_toArray, List.set_cons_zero, List.set_cons_succ]
        refine wpAnyH_take (i := 8) (oi := { dst := some 46, op := Op.indexAddr 25 (Operand.tmp 44) (Operand.tmp 45), type := 0, pos := "law.go:29", after := #[{ on := 6, ground := Ground.data }, { on := 7, ground := Ground.data }], guard := none }) (v := ?_) rfl (by kernel_rfl) (by kernel_rfl) (by kernel_rfl) (fun _ _ _ h => h) ?_ hHeld ?_
        rotate_left
        · refine Or.inl ⟨by rfl, fun w hSw => ?_⟩; skip; go_simp; (try with_reducible rfl)
        try simp only [Act.put, List.setIfInBounds_toArray, List.set_cons_zero, List.set_cons_succ]
        refine wpAnyH_take (i := 9) (oi := { dst := some 47, op := Op.load 28 (Operand.tmp 46), type := 28, pos := "law.go:29", after := #[{ on := 8, ground := Ground.data }], guard := none }) (v := ?_) rfl (by kernel_rfl) (by kernel_rfl) (by kernel_rfl) (fun _ _ _ h => h) ?_ hHeld ?_
        rotate_left
        · refine Or.inl ⟨by rfl, fun w hSw => ?_⟩; have c0 := hSw.2.2; go_simp; (try with_reducible rfl)
        try simp only [Act.put, List.setIfInBounds_toArray, List.set_cons_zero, List.set_cons_succ]
        refine wpAnyH_take (i := 10) (oi := { dst := some 48, op := Op.indexAddr 25 (Operand.tmp 41) (Operand.tmp 42), type := 0, pos := "law.go:29", after := #[{ on := 3, ground := Ground.data }, { on := 4, ground := Ground.data }, { on := 0, ground := Ground.phase }, { on := 1, ground := Ground.phase }, { on := 2, ground := Ground.phase }, { on := 3, ground := Ground.phase }, { on := 4, ground := Ground.phase }, { on := 5, ground := Ground.phase }, { on := 6, ground := Ground.phase }, { on := 7, ground := Ground.phase }, { on := 8, ground := Ground.phase }, { on := 9, ground := Ground.phase }], guard := none }) (v := ?_) rfl (by kernel_rfl) (by kernel_rfl) (by kernel_rfl) (fun _ _ _ h => h) ?_ hHeld ?_
        rotate_left
        · refine Or.inl ⟨by rfl, fun w hSw => ?_⟩; skip; go_simp; (try with_reducible rfl)
        try simp only [Act.put, List.setIfInBounds_toArray, List.set_cons_zero, List.set_cons_succ]
        refine wpAnyH_ready (rs := [11]) (by kernel_rfl) (by simp) ?_
        refine AllReadyH.cons (o := { dst := none, op := Op.store 28 (Operand.tmp 48) (Operand.tmp 47), type := 0, pos := "law.go:29", after := #[{ on := 10, ground := Ground.data }, { on := 9, ground := Ground.data }, { on := 0, ground := Ground.phase }, { on := 1, ground := Ground.phase }, { on := 2, ground := Ground.phase }, { on := 3, ground := Ground.phase }, { on := 4, ground := Ground.phase }, { on := 5, ground := Ground.phase }, { on := 6, ground := Ground.phase }, { on := 7, ground := Ground.phase }, { on := 8, ground := Ground.phase }, { on := 9, ground := Ground.phase }], guard := none }) rfl (fun Kc hKc => ?_) AllReadyH.nil
        refine step_of (by rfl) (wp_set 28 (.tmp 48) (.tmp 47) (by rfl) gb k (by rfl) (.int .u32 v) (by rfl) (by rfl) 28 cur kcur.drew size_u32' hks ?_)
        intro w6 k6 g6 s6
        have HB6 := below_grown HB HB.size g6 hgbw
        refine hKc.out _ _ (⟨hHeld.1.grown g6 (fun e => by injection e with e; exact ngr e), hHeld.2.1.grown g6 (fun e => by injection e with e; exact ngs e), bl_cell HB6 cw0⟩) (fun hHeld => ?_)
        clear hKc Kc
        try simp only [Act.put]
        refine wpAnyH_done (by kernel_rfl) ?_ _
        have HR6 := Rf.set_ hcur'.out k6
        have HM6 := HM.grown g6 nb1.symm nb2.symm
        have KS6 := hHeld.2.1
        have KR6 := hHeld.1
        clear hHeld HM HB KS KR cw g6 k6 kcur hcur' cw0
        go_wp2_with fail
        go_roundw
        case rel => exact ⟨k + 1, Y.set k v, by omega, by omega, by go_num, by rw [List.length_set]; exact hY, HM6, HR6, KS6, KR6, HB6⟩
        case measure => first | (simp [intOf]; done) | (simp [intOf]; omega)
      · have hdec : decide (k < n ∧ k < 64) = false := by simpa using hlt
        rw [hdec]
        have hkm : Hid (k = min n 64) := Lib.hid (by omega)
        clear hlt hdec HR hY c0 hxx hxb
        go_wp2_with (first
          | (with_reducible refine wl_build0 rfl 55 rfl (tc [] 0) zero_t ?_)
          | ((refine wl_box rfl 55 _ rfl (tc [] 0) rfl ?_); intro w5 k5 b5 s5))
        obtain ⟨gt, hgt⟩ : ∃ gt, gt = wo.heap.size := ⟨_, rfl⟩
        rw [← hgt] at k5 ⊢
        have hgtw : w.heap.size ≤ gt := by have := HB.size; omega
        have HM := HM.below b5
        have KS := KS.below b5
        have KR := KR.below b5
        have HB := bl_then HB b5
        have HT : Tl w5 gt [] 0 := k5
        clear hgt b5 s5 k5
        go_loopw [10] (fun i wr => ∃ (q m : Nat) (A9 : Option Addr) (c9 : Nat), q ≤ n2 ∧ q ≤ 12 ∧ i = .int .i64 q ∧ m = (putN es q).length ∧ Tl wr gt (putN es q) 0 ∧ Mm wr gm gp 4 (lay xs k) ∧ Blk wr gs 111 SV ∧ Blk wr gr 136 (rm gb cb A9 m c9) ∧ wr.ownsRow w.heap.size 58 4 (.slice A9 m c9) m ((putN es q).flatMap ev) ∧ Below w.heap.size w wr) (fun i _ => 12 + 1 - (intOf i).toNat)
        case atStart => exact ⟨0, 0, none, 0, by omega, by omega, rfl, rfl, HT, HM, KS, KR, own_nil _ _ _ _, HB⟩
        case round =>
          clear HT HM KS KR HB
          obtain ⟨q, m, A9, c9, hqn, hq12, rfl, hm, HT, HM, KS, KR, HO, HB⟩ := hrel
          obtain ⟨wi, rfl⟩ : ∃ wi : World, wi = wr := ⟨_, rfl⟩
          have c1 : wi.cell? ⟨gs, 1, none⟩ = some (.slice A2 n2 c2) := KS.cellv 1 _ h1.out
          replace hm := Lib.hid hm
          go_upto_region 10 with fail
          go_cut [59] from 51 to 86 (fun sv wx => sv = .bool (decide (q < n2 ∧ q < 12)) ∧ wi = wx)
          case first =>
            clear HT HM KS KR HO HB hee
            by_cases g1 : q < n2
            · have hq : decide ((q : Int) < (n2 : Int)) = true := by simp; omega
              have hq3 : (q : Int) < (n2 : Int) := by omega
              by_cases g2 : q < 12
              · have hq2 : decide ((q : Int) < 12) = true := by simp; omega
                have hq4 : (q : Int) < 12 := by omega
                have hfin : Hid (decide (q < n2 ∧ q < 12) = true) := Lib.hid (by simp; omega)
                go_wp2_with fail
                go_meet
                exact ⟨by rw [hfin.out], rfl⟩
              · have hq2 : decide ((q : Int) < 12) = false := by simp; omega
                have hfin : Hid (decide (q < n2 ∧ q < 12) = false) := Lib.hid (by simp; omega)
                go_wp2_with fail
                go_meet
                exact ⟨by rw [hfin.out], rfl⟩
            · have hq : decide ((q : Int) < (n2 : Int)) = false := by simp; omega
              have hfin : Hid (decide (q < n2 ∧ q < 12) = false) := Lib.hid (by simp; omega)
              go_wp2_with fail
              go_meet
              exact ⟨by rw [hfin.out], rfl⟩
          case rest =>
            obtain ⟨rfl, rfl⟩ := hcut
            rcases Decidable.em (q < n2 ∧ q < 12) with hlt | hlt
            · have hdec : decide (q < n2 ∧ q < 12) = true := by simpa using hlt
              rw [hdec]
              have hlt1 := hlt.1
              have hlt2 := hlt.2
              have hq3 : (q : Int) < (n2 : Int) := by omega
              have hq4 : (q : Int) < 12 := by omega
              obtain ⟨g2, o2, e, rfl, hqe, hcl⟩ := (hee.out.below HB).at_ q hlt1
              have hpy := Lib.hid (putN_yes hqe)
              have huni := putN_uni es q
              have hPt := Lib.hid (fun w' h => put_c gt (putN es q) 0 e w' h huni)
              have hRp := Lib.hid (fun w' h => rput_c A9 m c9 e (putN es q) w' h huni)
              have ce0 : wi.cell? ⟨g2, o2 + q * 4, none⟩ = some (.int .i64 e.s) := hcl 0 _ rfl
              have ce1 : wi.cell? ⟨g2, o2 + q * 4 + 1, none⟩ = some (.int .i64 e.p) := hcl 1 _ rfl
              have ce2 : wi.cell? ⟨g2, o2 + q * 4 + 2, none⟩ = some (.int .i64 e.f) := hcl 2 _ rfl
              have ce3 : wi.cell? ⟨g2, o2 + q * 4 + 3, none⟩ = some (.bool e.w) := hcl 3 _ rfl
              clear hqe hcl hdec hlt hee huni
              go_wp2_with (first
                | ((with_reducible refine wl_alloc rfl 58 rfl (ea ez) new_re ?_); intro w6 k6 b6 s6)
                | ((refine wl_store rfl 58 (.tmp 11) (.tmp 66) rfl wi.heap.size rfl (ea e) rfl 58 (ea ez) k6 (size_re _) rfl (ea_one _) ?_); intro w7 k7 g7 s7; have d0 : w7.cell? ⟨wi.heap.size, 0, none⟩ = some (.int .i64 e.s) := k7.cellv 0 _ rfl; have d1 : w7.cell? ⟨wi.heap.size, 1, none⟩ = some (.int .i64 e.p) := k7.cellv 1 _ rfl; have d2 : w7.cell? ⟨wi.heap.size, 2, none⟩ = some (.int .i64 e.f) := k7.cellv 2 _ rfl; have d3 : w7.cell? ⟨wi.heap.size, 3, none⟩ = some (.bool e.w) := k7.cellv 3 _ rfl))
              have BE := below_grown b6 b6.size g7 (Nat.le_refl _)
              have HT := Blk.below HT BE
              have HM := HM.below BE
              have KS := KS.below BE
              have KR := KR.below BE
              have HO := own_below HO BE
              have HB := bl_then HB BE
              obtain ⟨ge, hge⟩ : ∃ ge, ge = wi.heap.size := ⟨_, rfl⟩
              rw [← hge] at k7 ⊢
              clear hge BE b6 g7 k6 s6 s7 d0 d1 d2 d3 ce0 ce1 ce2 ce3 c1
              refine (hPt.out w7 HT).mono ?_
              rintro r w8 ⟨rfl, HT8, G8⟩
              rw [← hpy.out] at HT8
              have O8 := Out.of_grown G8 (S := fun i => i = gt) (fun k e => by injection e with e; exact e.symm)
              have HM := mm_out HM O8 (fun h => Blk.ne_ HM.m HT (by decide) h) (fun h => Blk.ne_ HM.p HT (by decide) h)
              have HO := own_out HO O8 (fun b hb h => by obtain ⟨cs, hk⟩ := row_lt HO b hb; exact Blk.ne_ hk HT (by decide) h)
              have KS8 := Out.Blk.out KS O8 (fun h => Blk.ne_ KS HT (by decide) h)
              have KR8 := Out.Blk.out KR O8 (fun h => Blk.ne_ KR HT (by decide) h)
              have KE8 := Out.Blk.out k7 O8 (fun h => Blk.ne_ k7 HT (by decide) h)
              have HB := O8.below HB HB.size (fun i h => by omega)
              clear G8 O8 HT KS KR k7 hPt
              have HO' := Lib.hid HO
              clear HO
              go_upto_region 14 with fail
              have HM := HM.below (bl_drew (bl_refl w8))
              have HT := Blk.below HT8 (bl_drew (bl_refl w8))
              have KS := KS8.drew
              have KR := KR8.drew
              have HB := bl_drew HB
              have HO := own_below HO'.out (bl_drew (bl_refl w8))
              clear HT8 KS8 HO'
              refine wp_region_held_drew (S := (fun w' => Blk w' ge 58 (ea e))) (by kernel_rfl) (KE8.drew) (fun hHeld => ?_)
              refine wpAnyH_take (i := 0) (oi := { dst := some 78, op := Op.move (Operand.tmp 7), type := 113, pos := "law.go:35", after := #[], guard := none }) (v := ?_) rfl (by kernel_rfl) (by kernel_rfl) (by kernel_rfl) (fun _ _ _ h => h) ?_ hHeld ?_
              rotate_left
              · refine Or.inl ⟨by rfl, fun w hSw => ?_⟩; skip; go_simp; (try with_reducible rfl)
              try simp only [Act.put, List.setIfInBounds_toArray, List.set_cons_zero, List.set_cons_succ]
              refine wpAnyH_take (i := 1) (oi := { dst := some 79, op := Op.move (Operand.tmp 7), type := 113, pos := "law.go:35", after := #[], guard := none }) (v := ?_) rfl (by kernel_rfl) (by kernel_rfl) (by kernel_rfl) (fun _ _ _ h => h) ?_ hHeld ?_
              rotate_left
              · refine Or.inl ⟨by rfl, fun w hSw => ?_⟩; skip; go_simp; (try with_reducible rfl)
              try simp only [Act.put, List.setIfInBounds_toArray, List.set_cons_zero, List.set_cons_succ]
              refine wpAnyH_take (i := 2) (oi := { dst := some 80, op := Op.nilCheck (Operand.tmp 79), type := 0, pos := "law.go:35", after := #[{ on := 1, ground := Ground.data }], guard := none }) (v := ?_) rfl (by kernel_rfl) (by kernel_rfl) (by kernel_rfl) (fun _ _ _ h => h) ?_ hHeld ?_
              rotate_left
              · refine Or.inl ⟨by rfl, fun w hSw => ?_⟩; skip; go_simp; (try with_reducible rfl)
              try simp only [Act.put, List.setIfInBounds_toArray, List.set_cons_zero, List.set_cons_succ]
              refine wpAnyH_take (i := 3) (oi := { dst := some 81, op := Op.fieldAddr 136 (Operand.tmp 80) 1, type := 0, pos := "law.go:35", after := #[{ on := 2, ground := Ground.data }], guard := none }) (v := ?_) rfl (by kernel_rfl) (by kernel_rfl) (by kernel_rfl) (fun _ _ _ h => h) ?_ hHeld ?_
              rotate_left
              · refine Or.inl ⟨by rfl, fun w hSw => ?_⟩; skip; go_simp; (try with_reducible rfl)
              try simp only [Act.put, List.setIfInBounds_toArray, List.set_cons_zero, List.set_cons_succ]
              refine wpAnyH_take (i := 5) (oi := { dst := some 83, op := Op.load 58 (Operand.tmp 11), type := 58, pos := "law.go:35", after := #[], guard := none }) (v := ?_) rfl (by kernel_rfl) (by kernel_rfl) (by kernel_rfl) (fun _ _ _ h => h) ?_ hHeld ?_
              rotate_left
              · refine yIf_load 58 (.tmp 11) ge 58 (ea e) _ ?_ Try.underlying58 rfl (size_re _) ?_ ?_ ?_
                · exact fun _ h => h
                · rfl
                · rfl
                · rfl
              try simp only [Act.put, List.setIfInBounds_toArray, List.set_cons_zero, List.set_cons_succ]
              refine wpAnyH_ready (rs := [4]) (by kernel_rfl) (by simp) ?_
              refine AllReadyH.cons (o := { dst := some 82, op := Op.load 65 (Operand.tmp 81), type := 65, pos := "law.go:35", after := #[{ on := 3, ground := Ground.data }], guard := none }) rfl (fun Kc hKc => ?_) AllReadyH.nil
              have c0 : w8.drew.cell? ⟨gr, 1, none⟩ = some (.slice A9 m c9) := KR.cellv 1 _ rfl
              go_simp
              refine hKc.out _ _ (hHeld) (fun hHeld => ?_)
              clear hKc Kc
              try simp only [Act.put, List.setIfInBounds_toArray, List.set_cons_zero, List.set_cons_succ]
              refine wpAnyH_ready (rs := [6]) (by kernel_rfl) (by simp) ?_
              refine AllReadyH.cons (o := { dst := some 84, op := Op.call { callee := Callee.value (Operand.func 35), args := #[Operand.tmp 82, Operand.tmp 83], argTypes := #[65, 58] }, type := 65, pos := "law.go:35", after := #[{ on := 4, ground := Ground.data }, { on := 5, ground := Ground.data }], guard := none }) rfl (fun Kc hKc => ?_) AllReadyH.nil
              go_simp
              refine (hRp.out _ (RF.of_own ev_len (by decide) HO)).mono ?_
              rintro r w9 ⟨⟨A5, c5, rfl, HOn⟩, b9⟩
              have HOn := own_mono HOn HB.size
              have HM := HM.below b9
              have HT := Blk.below HT b9
              have KS := KS.below b9
              have KR := KR.below b9
              have HB := bl_then HB b9
              refine hKc.out _ _ (Blk.below hHeld b9) (fun hHeld => ?_)
              clear hKc Kc
              try simp only [Act.put, List.setIfInBounds_toArray, List.set_cons_zero, List.set_cons_succ]
              refine wpAnyH_take (i := 7) (oi := { dst := some 85, op := Op.nilCheck (Operand.tmp 78), type := 0, pos := "law.go:35", after := #[{ on := 0, ground := Ground.data }, { on := 0, ground := Ground.phase }, { on := 1, ground := Ground.phase }, { on := 2, ground := Ground.phase }, { on := 3, ground := Ground.phase }, { on := 4, ground := Ground.phase }, { on := 5, ground := Ground.phase }, { on := 6, ground := Ground.phase }], guard := none }) (v := ?_) rfl (by kernel_rfl) (by kernel_rfl) (by kernel_rfl) (fun _ _ _ h => h) ?_ hHeld ?_
              rotate_left
              · refine Or.inl ⟨by rfl, fun w hSw => ?_⟩; skip; go_simp; (try with_reducible rfl)
              try simp only [Act.put, List.setIfInBounds_toArray, List.set_cons_zero, List.set_cons_succ]
              refine wpAnyH_take (i := 8) (oi := { dst := some 86, op := Op.fieldAddr 136 (Operand.tmp 85) 1, type := 0, pos := "law.go:35", after := #[{ on := 7, ground := Ground.data }, { on := 0, ground := Ground.phase }, { on := 1, ground := Ground.phase }, { on := 2, ground := Ground.phase }, { on := 3, ground := Ground.phase }, { on := 4, ground := Ground.phase }, { on := 5, ground := Ground.phase }, { on := 6, ground := Ground.phase }], guard := none }) (v := ?_) rfl (by kernel_rfl) (by kernel_rfl) (by kernel_rfl) (fun _ _ _ h => h) ?_ hHeld ?_
              rotate_left
              · refine Or.inl ⟨by rfl, fun w hSw => ?_⟩; skip; go_simp; (try with_reducible rfl)
              try simp only [Act.put, List.setIfInBounds_toArray, List.set_cons_zero, List.set_cons_succ]
              refine wpAnyH_ready (rs := [9]) (by kernel_rfl) (by simp) ?_
              refine AllReadyH.cons (o := { dst := none, op := Op.store 65 (Operand.tmp 86) (Operand.tmp 84), type := 0, pos := "law.go:35", after := #[{ on := 8, ground := Ground.data }, { on := 6, ground := Ground.data }, { on := 6, ground := Ground.chain }, { on := 0, ground := Ground.phase }, { on := 1, ground := Ground.phase }, { on := 2, ground := Ground.phase }, { on := 3, ground := Ground.phase }, { on := 4, ground := Ground.phase }, { on := 5, ground := Ground.phase }, { on := 6, ground := Ground.phase }], guard := none }) rfl (fun Kc hKc => ?_) AllReadyH.nil
              refine step_of (by rfl) (wp_set 65 (.tmp 86) (.tmp 84) (by rfl) gr 1 (by rfl) (.slice A5 (put (putN es q) e).length c5) (by rfl) (by rfl) 136 (rm gb cb A9 m c9) KR size_sl (by simp [rm]) ?_)
              intro w10 k10 g10 s10
              refine hKc.out _ _ (Blk.grown hHeld g10 (fun h => by injection h with h; exact Blk.ne_ hHeld KR (by decide) h)) (fun hHeld => ?_)
              clear hKc Kc
              try simp only [Act.put]
              refine wpAnyH_done (by kernel_rfl) ?_ _
              have HM := HM.grown g10 (fun e => Blk.ne_ HM.m KR (by decide) e) (fun e => Blk.ne_ HM.p KR (by decide) e)
              have O10 := Out.of_grown g10 (S := fun i => i = gr) (fun k e => by injection e with e; exact e.symm)
              have HT := Out.Blk.out HT O10 (fun h => Blk.ne_ HT KR (by decide) h)
              have KS := Out.Blk.out KS O10 (fun h => Blk.ne_ KS KR (by decide) h)
              have HO := own_out HOn O10 (fun b hb h => by obtain ⟨cs, hk⟩ := row_lt HOn b hb; exact Blk.ne_ hk KR (by decide) h)
              have HB := O10.below HB HB.size (fun i h => by omega)
              rw [← hpy.out] at HO k10
              clear hHeld HOn g10 hRp
              go_wp2_with fail
              go_roundw
              case rel => exact ⟨q + 1, (putN es (q + 1)).length, A5, c5, by omega, by omega, by go_num, rfl, HT, HM, KS, by exact k10, HO, HB⟩
              case measure => first | (simp [intOf]; done) | (simp [intOf]; omega)
            · have hdec : decide (q < n2 ∧ q < 12) = false := by simpa using hlt
              rw [hdec]
              have hqm : Hid (q = min n2 12) := Lib.hid (by omega)
              clear hlt hdec KS KR HO c1 hee
              go_wp2_with fail
              refine (cnew_c gm gt wi).mono ?_
              rintro r w6 ⟨⟨x, rfl, hxw, HX⟩, b6⟩
              have HM := HM.below b6
              have HT := Blk.below HT b6
              have hx0 : w.heap.size ≤ x := by have := HB.size; omega
              have HB := bl_then HB b6
              clear b6
              go_wp2_with fail
              refine bodyPost_ret (results_tmp4 rfl _ _ _) rfl ⟨⟨x, gm, gp, gt, gr, rfl, ⟨HX, by rw [← hkm.out]; exact HM, by rw [← hqm.out]; exact HT⟩, hx0, hgmw, hgpw, hgtw⟩, HB⟩
end Go.Proofs.Ytdokmnpkihmkpaa.Cpu4
