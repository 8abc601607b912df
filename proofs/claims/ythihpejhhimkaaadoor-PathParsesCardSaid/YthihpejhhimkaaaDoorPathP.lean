/- Contract of path.Parse. -/
import Derived.Test.YthihpejhhimkaaaDoorPathI
set_option linter.unusedVariables false
namespace Go.Proofs.YthihpejhhimkaaaDoor.PathP
open Go.RowKit Go.Shelf Go.Proofs.YthihpejhhimkaaaDoor.Base Go.Proofs.YthihpejhhimkaaaDoor.Row Go.Proofs.YthihpejhhimkaaaDoor.App Go.Proofs.YthihpejhhimkaaaDoor.Multi Go.Proofs.YthihpejhhimkaaaDoor.StEq Go.Proofs.YthihpejhhimkaaaDoor.Held Go.Proofs.YthihpejhhimkaaaDoor.Out Go.Proofs.YthihpejhhimkaaaDoor.HeldW Go.Proofs.YthihpejhhimkaaaDoor.HeldX Go.Proofs.YthihpejhhimkaaaDoor.In Go.Proofs.YthihpejhhimkaaaDoor.PathL Go.Proofs.YthihpejhhimkaaaDoor.Dir Go.Proofs.YthihpejhhimkaaaDoor.Path Go.Proofs.YthihpejhhimkaaaDoor.Path2 Go.Proofs.YthihpejhhimkaaaDoor.PathI
attribute [local go_sem] Oper.semAt_some

/-- The names that come of the parts, one by one; or the error. -/
def run : List ByteArray → List ByteArray → Except Int (List ByteArray)
  | L, [] => .ok L
  | L, p :: ps => if p.toList = [] ∨ p.toList = [46] then run L ps else if p.toList = [46, 46] then run L.dropLast ps
    else if nameB p = false then .error 18 else if L.length = 8 then .error 22 else run (L ++ [p]) ps
theorem run_append : ∀ (a b L : List ByteArray), run L (a ++ b) = (match run L a with | .ok M => run M b | .error e => .error e)
  | [], b, L => rfl
  | p :: ps, b, L => by
    simp only [List.cons_append, run]
    split
    · exact run_append ps b L
    · split
      · exact run_append ps b _
      · split
        · rfl
        · split
          · rfl
          · exact run_append ps b _
/-- What the boxes of the call hold between two rounds. -/
def PI (w : World) (L : List ByteArray) (W : World) : Prop :=
  ∃ A c, Blk W (w.heap.size + 2) 49 #[.slice A L.length c] ∧ W.ownsRow (w.heap.size + 6) 9 1 (.slice A L.length c) L.length (L.flatMap ss) ∧
    Blk W w.heap.size 49 #[.slice none 0 0] ∧ Blk W (w.heap.size + 1) 53 #[.int .i64 0] ∧ Below w.heap.size w W ∧ L.length ≤ 8 ∧ w.heap.size + 6 ≤ W.heap.size
def PX (w : World) (e : Int) (W : World) : Prop :=
  Blk W w.heap.size 49 #[.slice none 0 0] ∧ Blk W (w.heap.size + 1) 53 #[.int .i64 e] ∧ Below w.heap.size w W
theorem blk_free {w A B : World} {row : Option Nat} {g : Nat} {t : TypeId} {cs : Array Value} (h : Blk A g t cs) (hg : A.grownBy B row) (hr : ∀ r, row = some r → w.heap.size ≤ r ∧ ∃ o : Obj, A.heap[r]? = some o ∧ o.isCells = false) : Blk B g t cs :=
  h.grown hg (fun e => by
    obtain ⟨_, o, ho, hc⟩ := hr g e.symm
    unfold Blk at h
    rw [h] at ho
    injection ho with ho
    subst ho
    cases hc)
theorem PI.own (w : World) (L : List ByteArray) {X A B : World} {row : Option Nat} (hX : w.heap.size ≤ X.heap.size) (h : PI w L A) (hg : A.grownBy B row) (hr : ∀ r, row = some r → X.heap.size ≤ r ∧ ∃ o : Obj, A.heap[r]? = some o ∧ o.isCells = false) : PI w L B := by
  obtain ⟨Al, c, h1, h2, h3, h4, h5, h6, h7⟩ := h
  refine ⟨Al, c, blk_free h1 hg hr, ?_, blk_free h3 hg hr, blk_free h4 hg hr, ?_, h6, Nat.le_trans h7 hg.size⟩
  · refine h2.kept hg ?_
    rcases h2.2 with ⟨e, _⟩ | ⟨g, cap, cur, e, _, hk, _⟩
    · rw [e]; exact .inl rfl
    · rw [e]
      refine .inr fun e2 => ?_
      obtain ⟨_, o, ho, hc⟩ := hr g (by rw [← e2]; rfl)
      rw [hk] at ho
      injection ho with ho
      subst ho
      cases hc
  · exact h5.grown hg h5.size (fun k hk => by have := (hr k hk).1; omega)
theorem PX.own (w : World) (e : Int) {X A B : World} {row : Option Nat} (hX : w.heap.size ≤ X.heap.size) (h : PX w e A) (hg : A.grownBy B row) (hr : ∀ r, row = some r → X.heap.size ≤ r ∧ ∃ o : Obj, A.heap[r]? = some o ∧ o.isCells = false) : PX w e B := by
  obtain ⟨h1, h2, h3⟩ := h
  exact ⟨blk_free h1 hg hr, blk_free h2 hg hr, h3.grown hg h3.size (fun k hk => by have := (hr k hk).1; omega)⟩
theorem PI.set (w : World) (L : List ByteArray) {A : World} (v : Value) (h : PI w L A) : PI w L (A.setCell ⟨w.heap.size + 3, 0, none⟩ v) := by
  obtain ⟨Al, c, h1, h2, h3, h4, h5, h6, h7⟩ := h
  refine ⟨Al, c, h1.far (show w.heap.size + 2 ≠ w.heap.size + 3 by omega) v, ?_, h3.far (show w.heap.size ≠ w.heap.size + 3 by omega) v, h4.far (show w.heap.size + 1 ≠ w.heap.size + 3 by omega) v, h5.setCell (show w.heap.size ≤ w.heap.size + 3 by omega) v, h6, by rw [size_set]; exact h7⟩
  exact own_kept h2 (grownBy_set A (w.heap.size + 3) 0 v) (by omega)
theorem own_init {w : World} {base e sz g n c : Nat} {xs : List Value} (h : w.ownsRow base e sz (.slice (some ⟨g, 0, none⟩) n c) n xs) (m : Nat) (hm : m ≤ n) : w.ownsRow base e sz (.slice (some ⟨g, 0, none⟩) m c) m (xs.take (m * sz)) := by
  obtain ⟨h1, h2⟩ := h
  rcases h2 with ⟨h2, _⟩ | ⟨g', cap, cur, hv, hb, hk, hc, hx, hs, ht⟩
  · cases h2
  · injection hv with hA _ hcap
    injection hA with hA
    injection hA with hA
    subst hA
    subst hcap
    have hms := Nat.mul_le_mul_right sz hm
    refine ⟨by rw [List.length_take, h1]; omega, .inr ⟨_, _, cur, rfl, hb, hk, by omega, hx, hs, ?_⟩⟩
    rw [← ht, List.take_take, Nat.min_eq_left hms]
theorem flat_ss (L : List ByteArray) (m : Nat) : (L.flatMap ss).take (m * 1) = (L.take m).flatMap ss := by
  have : ∀ L : List ByteArray, L.flatMap ss = L.map Value.string := fun L => by
    induction L with
    | nil => rfl
    | cons x l ih => rw [List.flatMap_cons, ih]; rfl
  rw [this, this, Nat.mul_one, List.map_take]
set_option maxRecDepth 100000 in
set_option maxHeartbeats 2000000 in
/-- strings.SplitSeq lays three boxes. -/
theorem sseq_c (s : ByteArray) (w : World) :
    Calls Tryd.prog 40 #[.string s, .string ⟨#[47]⟩, .int .i64 0] w fun e w' =>
      e = .returned (.func (.func 47) #[] #[.pointer (some ⟨w.heap.size + 1, 0, none⟩), .pointer (some ⟨w.heap.size, 0, none⟩), .pointer (some ⟨w.heap.size + 2, 0, none⟩)]) ∧
      w' = ((w.alloc (.cells #[.string s] 9)).alloc (.cells #[.string ⟨#[47]⟩] 9)).alloc (.cells #[.int .i64 0] 3) := by
  go_enter Tryd.func40, Tryd.ntmps40
  go_wp2_with fail
  go_ret
  exact ⟨rfl, rfl⟩
set_option maxRecDepth 100000 in
set_option maxHeartbeats 2000000 in
theorem seq_c (s : ByteArray) (w : World) :
    Calls Tryd.prog 33 #[.string s, .string ⟨#[47]⟩] w fun e w' =>
      e = .returned (.func (.func 47) #[] #[.pointer (some ⟨w.heap.size + 1, 0, none⟩), .pointer (some ⟨w.heap.size, 0, none⟩), .pointer (some ⟨w.heap.size + 2, 0, none⟩)]) ∧
      w' = ((w.alloc (.cells #[.string s] 9)).alloc (.cells #[.string ⟨#[47]⟩] 9)).alloc (.cells #[.int .i64 0] 3) := by
  have H := Lib.hid (sseq_c s w)
  go_enter Tryd.func33, Tryd.ntmps33
  go_wp2_with (go_at_call 40; refine (H.out).mono ?_; rintro e w' ⟨rfl, rfl⟩)
  go_ret
  exact ⟨rfl, rfl⟩
/-- What Parse tells. -/
def resP (s : ByteArray) (xs : List ByteArray) : Prop := abs_ s = true ∧ xs.map tl = parts ((tl s).drop 1)
def ParseP (w : World) (s : ByteArray) (e : Ending) (w' : World) : Prop :=
  Below w.heap.size w w' ∧
  ((abs_ s = false ∧ e = .returned (.tuple #[.slice none 0 0, .int .i64 1])) ∨
   (abs_ s = true ∧ ∃ xs, xs.map tl = parts ((tl s).drop 1) ∧
     ((∃ k, run [] xs = .error k ∧ e = .returned (.tuple #[.slice none 0 0, .int .i64 k])) ∨
      (∃ L A c, run [] xs = .ok L ∧ L.length ≤ 8 ∧ e = .returned (.tuple #[.slice A L.length c, .int .i64 0]) ∧ w'.ownsRow w.heap.size 9 1 (.slice A L.length c) L.length (L.flatMap ss)))))
/-- Two results in variables of one cell. -/
theorem res_vv {fn : Func} {p q : Tmp} {ty tq : TypeId} (h : fn.results = #[.cell p ty, .cell q tq]) (P : Program) (tmps : Array Value) (w : World) (g g2 : Nat) (u v : Value)
    (hp : tmps.getD p undef = .pointer (some ⟨g, 0, none⟩)) (hu : (loadVar ty ⟨g, 0, none⟩).run P w = .ok u w)
    (hq : tmps.getD q undef = .pointer (some ⟨g2, 0, none⟩)) (hv : (loadVar tq ⟨g2, 0, none⟩).run P w = .ok v w) :
    (results fn tmps).run P w = .ok (.tuple #[u, v]) w := by
  have hp' : tmps[p]?.getD undef = .pointer (some ⟨g, 0, none⟩) := by rw [← hp]; simp
  have hq' : tmps[q]?.getD undef = .pointer (some ⟨g2, 0, none⟩) := by rw [← hq]; simp
  simp only [results, h]
  simp [Result.andThen, hp', hq', asAddr, hu, hv]
theorem load_sl (w : World) (g : Nat) (A : Option Addr) (n c : Nat) (h : Blk w g 49 #[.slice A n c]) : (loadVar 49 ⟨g, 0, none⟩).run Tryd.prog w = .ok (.slice A n c) w := by
  have hc := h.cellv 0 (.slice A n c) rfl
  have hu := Tryd.underlying49
  go_simp
theorem load_er (w : World) (g : Nat) (v : Int) (h : Blk w g 53 #[.int .i64 v]) : (loadVar 53 ⟨g, 0, none⟩).run Tryd.prog w = .ok (.int .i64 v) w := by
  have hc := h.cellv 0 (.int .i64 v) rfl
  have hu := Tryd.underlying53
  go_simp
/-! ### what a round comes to -/
theorem run_skip {pre : List ByteArray} {L : List ByteArray} {x : ByteArray} (h : run [] pre = .ok L) (hx : x.toList = [] ∨ x.toList = [46]) : run [] (pre ++ [x]) = .ok L := by
  rw [run_append, h]
  show run L [x] = _
  unfold run
  rw [if_pos hx]; rfl
theorem run_up {pre : List ByteArray} {L : List ByteArray} {x : ByteArray} (h : run [] pre = .ok L) (h1 : ¬ (x.toList = [] ∨ x.toList = [46])) (h2 : x.toList = [46, 46]) : run [] (pre ++ [x]) = .ok L.dropLast := by
  rw [run_append, h]
  show run L [x] = _
  unfold run
  rw [if_neg h1, if_pos h2]; rfl
theorem run_bad {pre : List ByteArray} {L : List ByteArray} {x : ByteArray} (h : run [] pre = .ok L) (h1 : ¬ (x.toList = [] ∨ x.toList = [46])) (h2 : ¬ x.toList = [46, 46]) (h3 : nameB x = false) : run [] (pre ++ [x]) = .error 18 := by
  rw [run_append, h]
  show run L [x] = _
  unfold run
  rw [if_neg h1, if_neg h2, if_pos h3]
theorem run_big {pre : List ByteArray} {L : List ByteArray} {x : ByteArray} (h : run [] pre = .ok L) (h1 : ¬ (x.toList = [] ∨ x.toList = [46])) (h2 : ¬ x.toList = [46, 46]) (h3 : nameB x = true) (h4 : L.length = 8) : run [] (pre ++ [x]) = .error 22 := by
  rw [run_append, h]
  show run L [x] = _
  unfold run
  rw [if_neg h1, if_neg h2, if_neg (by rw [h3]; simp), if_pos h4]
theorem run_new {pre : List ByteArray} {L : List ByteArray} {x : ByteArray} (h : run [] pre = .ok L) (h1 : ¬ (x.toList = [] ∨ x.toList = [46])) (h2 : ¬ x.toList = [46, 46]) (h3 : nameB x = true) (h4 : ¬ L.length = 8) : run [] (pre ++ [x]) = .ok (L ++ [x]) := by
  rw [run_append, h]
  show run L [x] = _
  unfold run
  rw [if_neg h1, if_neg h2, if_neg (by rw [h3]; simp), if_neg h4]; rfl
theorem kp_set {b k : Nat} (W : World) (v : Value) (h : k < b) : Kp3 b W (W.setCell ⟨k, 0, none⟩ v) := fun i h1 _ => Below.heap_setCell W ⟨k, 0, none⟩ v i (show i ≠ k by omega)
theorem PX.two {w : World} {L : List ByteArray} {W : World} (h : PI w L W) (e : Int) (B : Nat) :
    KeepsFrom B W ((W.setCell ⟨w.heap.size, 0, none⟩ (.slice none 0 0)).setCell ⟨w.heap.size + 1, 0, none⟩ (.int .i64 e)) ∧ PX w e ((W.setCell ⟨w.heap.size, 0, none⟩ (.slice none 0 0)).setCell ⟨w.heap.size + 1, 0, none⟩ (.int .i64 e)) := by
  obtain ⟨A, c, _, _, K2, K3, HB, _, _⟩ := h
  have kA : Blk (W.setCell ⟨w.heap.size, 0, none⟩ (.slice none 0 0)) w.heap.size 49 #[.slice none 0 0] := K2.set_ 0 _
  have kB : Blk (W.setCell ⟨w.heap.size, 0, none⟩ (.slice none 0 0)) (w.heap.size + 1) 53 #[.int .i64 0] := K3.far (show w.heap.size + 1 ≠ w.heap.size by omega) _
  have kD : Blk ((W.setCell ⟨w.heap.size, 0, none⟩ (.slice none 0 0)).setCell ⟨w.heap.size + 1, 0, none⟩ (.int .i64 e)) (w.heap.size + 1) 53 #[.int .i64 e] := kB.set_ 0 _
  exact ⟨((KeepsOthers.setCell _ _ _).trans (KeepsOthers.setCell _ _ _)).from B, kA.far (show w.heap.size ≠ w.heap.size + 1 by omega) _, kD,
    (HB.setCell (show w.heap.size ≤ w.heap.size by omega) _).setCell (show w.heap.size ≤ w.heap.size + 1 by omega) _⟩
/-- One name less. -/
theorem PI.up {w : World} {L : List ByteArray} {W : World} {A : Option Addr} {c m : Nat} (K4 : Blk W (w.heap.size + 2) 49 #[.slice A L.length c]) (KO : W.ownsRow (w.heap.size + 6) 9 1 (.slice A L.length c) L.length (L.flatMap ss))
    (K2 : Blk W w.heap.size 49 #[.slice none 0 0]) (K3 : Blk W (w.heap.size + 1) 53 #[.int .i64 0]) (HB : Below w.heap.size w W) (hL : L.length ≤ 8) (hsz : w.heap.size + 6 ≤ W.heap.size) (hm : m = L.length - 1) :
    PI w L.dropLast (W.setCell ⟨w.heap.size + 2, 0, none⟩ (.slice A m c)) := by
  have hd : L.dropLast.length = m := by rw [List.length_dropLast, hm]
  refine ⟨A, c, by rw [hd]; exact K4.set_ 0 _, ?_, K2.far (show w.heap.size ≠ w.heap.size + 2 by omega) _, K3.far (show w.heap.size + 1 ≠ w.heap.size + 2 by omega) _, HB.setCell (show w.heap.size ≤ w.heap.size + 2 by omega) _, by omega, by rw [size_set]; exact hsz⟩
  refine own_kept ?_ (grownBy_set W (w.heap.size + 2) 0 _) (by omega)
  rw [hd]
  cases A with
  | none =>
    rcases KO.2 with ⟨e, h0⟩ | ⟨g, cap, cur, e, _⟩
    · injection e with _ e1 e2
      have hL0 := List.length_eq_zero_iff.1 h0
      subst hL0
      rw [e2, hm]
      exact own_nil _ _ _ _
    · cases e
  | some ad =>
    obtain ⟨g, hg⟩ : ∃ g, ad = ⟨g, 0, none⟩ := by
      rcases KO.2 with ⟨e, _⟩ | ⟨g, cap, cur, e, _⟩
      · cases e
      · injection e with e
        injection e with e
        exact ⟨g, e⟩
    subst hg
    have := own_init KO m (by omega)
    rw [flat_ss] at this
    rwa [List.dropLast_eq_take, ← hm]
/-- One name more. -/
theorem PI.more {w : World} {L : List ByteArray} {W W1 w1 : World} {A A1 : Option Addr} {c c1 : Nat} {x : ByteArray} {o : Obj} (hW1 : W1 = W.alloc o) (K4 : Blk W (w.heap.size + 2) 49 #[.slice A L.length c]) (KO : W.ownsRow (w.heap.size + 6) 9 1 (.slice A L.length c) L.length (L.flatMap ss))
    (K2 : Blk W w.heap.size 49 #[.slice none 0 0]) (K3 : Blk W (w.heap.size + 1) 53 #[.int .i64 0]) (HB : Below w.heap.size w W) (hL : L.length ≤ 8) (h8 : ¬ L.length = 8) (hsz : w.heap.size + 6 ≤ W.heap.size)
    (hown : w1.ownsRow (w.heap.size + 6) 9 1 (.slice A1 (L.length + 1) c1) (L.length + 1) (L.flatMap ss ++ [.string x])) (hgrow : W1.grownBy w1 (Value.slice A L.length c).ownBlock) (B : Nat) :
    (KeepsFrom B W (w1.setCell ⟨w.heap.size + 2, 0, none⟩ (.slice A1 (L.length + 1) c1)) ∧ Kp3 (w.heap.size + 3) W (w1.setCell ⟨w.heap.size + 2, 0, none⟩ (.slice A1 (L.length + 1) c1)) ∧ PI w (L ++ [x]) (w1.setCell ⟨w.heap.size + 2, 0, none⟩ (.slice A1 (L.length + 1) c1))) ∧
    w1.frozen? ⟨w.heap.size + 2, 0, none⟩ = false ∧ w1.cell? ⟨w.heap.size + 2, 0, none⟩ = some (.slice A L.length c) := by
  subst hW1
  have hob : ∀ k, (Value.slice A L.length c).ownBlock = some k → w.heap.size + 6 ≤ k := fun k hk => own_base KO k hk
  have hz : W.heap.size + 1 ≤ w1.heap.size := by have := hgrow.size; rwa [World.size_alloc] at this
  have hsame : ∀ k, k < W.heap.size → k < w.heap.size + 6 → w1.heap[k]? = W.heap[k]? := fun k h1 h2 =>
    (hgrow.block k (by rw [World.size_alloc]; omega) (fun e => by have := hob k e.symm; omega)).trans (Below.heap_alloc W o k h1)
  have k4 : Blk w1 (w.heap.size + 2) 49 #[.slice A L.length c] := (hsame _ (by omega) (by omega)).trans K4
  have k2 : Blk w1 w.heap.size 49 #[.slice none 0 0] := (hsame _ (by omega) (by omega)).trans K2
  have k3 : Blk w1 (w.heap.size + 1) 53 #[.int .i64 0] := (hsame _ (by omega) (by omega)).trans K3
  have hl1 : (L ++ [x]).length = L.length + 1 := by simp
  refine ⟨⟨?_, ?_, A1, c1, by rw [hl1]; exact k4.set_ 0 _, ?_, k2.far (show w.heap.size ≠ w.heap.size + 2 by omega) _, k3.far (show w.heap.size + 1 ≠ w.heap.size + 2 by omega) _, ?_, by rw [hl1]; omega, by rw [size_set]; omega⟩, k4.frozen 0, k4.cellv 0 _ rfl⟩
  · refine (((KeepsOthers.alloc W o).trans (KeepsOthers.of_grownBy hgrow (fun j o' hj ho => ?_))).trans (KeepsOthers.setCell _ _ _)).from B
    rcases (KO.alloc o).2 with ⟨e, _⟩ | ⟨g, cap, cur, e, _, hk, _⟩
    · rw [e] at hj; cases hj
    · rw [e] at hj
      injection hj with hj
      rw [← hj] at ho
      change (W.alloc o).heap[g]? = some o' at ho
      rw [hk] at ho
      injection ho with ho
      rw [← ho]; rfl
  · exact fun i h1 h2 => (Below.heap_setCell w1 ⟨w.heap.size + 2, 0, none⟩ _ i (show i ≠ w.heap.size + 2 by omega)).trans (hsame i (by omega) (by omega))
  · rw [hl1]
    refine own_kept ?_ (grownBy_set w1 (w.heap.size + 2) 0 _) (by omega)
    rw [List.flatMap_append]
    exact hown
  · refine Below.setCell ?_ (show w.heap.size ≤ w.heap.size + 2 by omega) _
    exact (bl_alloc HB o).grown hgrow (by rw [World.size_alloc]; omega) (fun k hk => by have := hob k hk; omega)
set_option maxRecDepth 100000 in
set_option maxHeartbeats 4000000 in
theorem parse_c (s : ByteArray) (hs : s.size ≤ 1000) (w : World) :
    Calls Tryd.prog 24 #[.string s] w fun e w' => ParseP w s e w' := by
  cases hb : abs_ s with
  | false =>
    have HP : Hid (∀ w, Calls Tryd.prog 32 #[.string s, .string ⟨#[47]⟩] w fun e w' => e = .returned (.bool false) ∧ w' = w) := Lib.hid (fun w => by rw [← hb]; exact hp_c s w)
    have hbb := Lib.hid hb
    clear hb
    refine (callsIn_wide (n := 8)).1 (callsIn_of_wp_marks Tryd.func24 rfl trivial (wpIn_wide.2 ?_) rfl)
    simp only [Tryd.ntmps24, List.size_toArray, List.length_cons, List.length_nil, Nat.reduceAdd, Nat.reduceSub, Array.replicate_succ, Array.replicate_zero, List.push_toArray, List.append_toArray, List.nil_append, List.cons_append]
    go_wp2_with (go_at_call 32; refine (HP.out _).mono ?_; rintro e w' ⟨rfl, rfl⟩)
    have k2 := (Blk.new w 49 #[.slice none 0 0]).alloc (.cells #[.int .i64 1] 53)
    have k3 := Blk.new (w.alloc (.cells #[.slice none 0 0] 49)) 53 #[.int .i64 1]
    rw [World.size_alloc] at k3
    refine ⟨_, res_vv rfl _ _ _ w.heap.size (w.heap.size + 1) _ _ rfl (load_sl _ _ _ _ _ k2) rfl (load_er _ _ _ k3), ?_⟩
    exact ⟨bl_alloc (bl_alloc (bl_refl w) _) _, .inl ⟨hbb.out, rfl⟩⟩
  | true =>
    have HP : Hid (∀ w, Calls Tryd.prog 32 #[.string s, .string ⟨#[47]⟩] w fun e w' => e = .returned (.bool true) ∧ w' = w) := Lib.hid (fun w => by rw [← hb]; exact hp_c s w)
    have hbb := Lib.hid hb
    have h1 : 1 ≤ s.size := by
      rw [← tl_len]
      unfold abs_ at hb
      cases h : tl s with
      | nil => rw [h] at hb; simp at hb
      | cons c l => simp
    have q1 : decide (1 ≤ s.size) = true := by simp; omega
    have q2 : decide ((1 : Int) ≤ (s.size : Int)) = true := by simp; omega
    have q3 : (1 : Int) ≤ (s.size : Int) := by omega
    have HS := Lib.hid (fun w => seq_c (s.extract 1 s.size) w)
    clear hb
    refine (callsIn_wide (n := 8)).1 (callsIn_of_wp_marks Tryd.func24 rfl trivial (wpIn_wide.2 ?_) rfl)
    simp only [Tryd.ntmps24, List.size_toArray, List.length_cons, List.length_nil, Nat.reduceAdd, Nat.reduceSub, Array.replicate_succ, Array.replicate_zero, List.push_toArray, List.append_toArray, List.nil_append, List.cons_append]
    go_wp2_with (first
      | (go_at_call 32; refine (HP.out _).mono ?_; rintro e w' ⟨rfl, rfl⟩)
      | (go_at_call 33; refine (HS.out _).mono ?_; rintro e w' ⟨rfl, rfl⟩))
    simp only [Nat.add_assoc, Nat.reduceAdd]
    have b1 := bl_alloc (bl_alloc (bl_alloc (bl_alloc (bl_alloc (bl_alloc (bl_refl w) (.cells #[.slice none 0 0] 49)) (.cells #[.int .i64 0] 53)) (.cells #[.slice none 0 0] 49)) (.cells #[.string (s.extract 1 s.size)] 9)) (.cells #[.string ⟨#[47]⟩] 9)) (.cells #[.int .i64 0] 3)
    have hz : ((((((w.alloc (.cells #[.slice none 0 0] 49)).alloc (.cells #[.int .i64 0] 53)).alloc (.cells #[.slice none 0 0] 49)).alloc (.cells #[.string (s.extract 1 s.size)] 9)).alloc (.cells #[.string ⟨#[47]⟩] 9)).alloc (.cells #[.int .i64 0] 3)).heap.size = w.heap.size + 6 := by simp
    have k2 := (((((Blk.new w 49 #[.slice none 0 0]).alloc (.cells #[.int .i64 0] 53)).alloc (.cells #[.slice none 0 0] 49)).alloc (.cells #[.string (s.extract 1 s.size)] 9)).alloc (.cells #[.string ⟨#[47]⟩] 9)).alloc (.cells #[.int .i64 0] 3)
    have k3 := ((((Blk.new (w.alloc (.cells #[.slice none 0 0] 49)) 53 #[.int .i64 0]).alloc (.cells #[.slice none 0 0] 49)).alloc (.cells #[.string (s.extract 1 s.size)] 9)).alloc (.cells #[.string ⟨#[47]⟩] 9)).alloc (.cells #[.int .i64 0] 3)
    have k4 := (((Blk.new ((w.alloc (.cells #[.slice none 0 0] 49)).alloc (.cells #[.int .i64 0] 53)) 49 #[.slice none 0 0]).alloc (.cells #[.string (s.extract 1 s.size)] 9)).alloc (.cells #[.string ⟨#[47]⟩] 9)).alloc (.cells #[.int .i64 0] 3)
    have k5 := ((Blk.new (((w.alloc (.cells #[.slice none 0 0] 49)).alloc (.cells #[.int .i64 0] 53)).alloc (.cells #[.slice none 0 0] 49)) 9 #[.string (s.extract 1 s.size)]).alloc (.cells #[.string ⟨#[47]⟩] 9)).alloc (.cells #[.int .i64 0] 3)
    have k6 := (Blk.new ((((w.alloc (.cells #[.slice none 0 0] 49)).alloc (.cells #[.int .i64 0] 53)).alloc (.cells #[.slice none 0 0] 49)).alloc (.cells #[.string (s.extract 1 s.size)] 9)) 9 #[.string ⟨#[47]⟩]).alloc (.cells #[.int .i64 0] 3)
    have k7 := Blk.new (((((w.alloc (.cells #[.slice none 0 0] 49)).alloc (.cells #[.int .i64 0] 53)).alloc (.cells #[.slice none 0 0] 49)).alloc (.cells #[.string (s.extract 1 s.size)] 9)).alloc (.cells #[.string ⟨#[47]⟩] 9)) 3 #[.int .i64 0]
    simp only [World.size_alloc, Nat.add_assoc, Nat.reduceAdd] at k3 k4 k5 k6 k7
    generalize (((((w.alloc (.cells #[.slice none 0 0] 49)).alloc (.cells #[.int .i64 0] 53)).alloc (.cells #[.slice none 0 0] 49)).alloc (.cells #[.string (s.extract 1 s.size)] 9)).alloc (.cells #[.string ⟨#[47]⟩] 9)).alloc (.cells #[.int .i64 0] 3) = W0 at *
    have hP0 : PI w [] W0 := ⟨none, 0, k4, own_nil _ _ _ _, k2, k3, b1, by simp, by omega⟩
    have hse : (s.extract 1 s.size).size ≤ maxLen := by unfold maxLen; have := ext_le s 1 s.size; omega
    clear k2 k3 k4 b1
    refine (wpIn_wide (n := 8)).1 (range_c (w := W0) rfl (by omega) (gf := 47) (lb := #[.pointer (some ⟨w.heap.size + 4, 0, none⟩), .pointer (some ⟨w.heap.size + 3, 0, none⟩), .pointer (some ⟨w.heap.size + 5, 0, none⟩)]) rfl trivial (enters_of Tryd.func47 (by kernel_rfl) rfl)
      (split_stops (w.heap.size + 3) (s.extract 1 s.size) hse W0 (by omega) k5 k6 k7) (by omega) (fun h k => h.trans k) (fun W l o o' h1 _ _ _ => Kp3.put W l o' (by omega)) (Below.refl _ _) (fun _ => rfl)
      (fun pre W => ∃ L, run [] pre = .ok L ∧ PI w L W) (fun pre W => ∃ e, run [] pre = .error e ∧ PX w e W)
      ?hI ?hIs ?hIx ⟨[], rfl, hP0⟩
      (fun x => { tmps := #[.string s, undef, .pointer (some ⟨w.heap.size, 0, none⟩), .pointer (some ⟨w.heap.size + 1, 0, none⟩), .pointer (some ⟨w.heap.size + 2, 0, none⟩), .string x, .string s, .bool true, .bool false, .string s, .string (s.extract 1 s.size),
        .func (.func 47) #[] #[.pointer (some ⟨w.heap.size + 4, 0, none⟩), .pointer (some ⟨w.heap.size + 3, 0, none⟩), .pointer (some ⟨w.heap.size + 5, 0, none⟩)], .string x, undef, undef, undef, undef, undef, undef, undef, undef, undef, undef, undef, undef, undef, undef, undef, undef, undef, undef, undef, undef, undef, undef, undef, undef, undef, undef, undef, undef, undef], defers := [] }) ?assign ?body ?done ?stop)
    case hI =>
      rintro pre A B row ⟨L, h1, h2⟩ hg hr
      exact ⟨L, h1, h2.own w L (by omega) hg hr⟩
    case hIs =>
      rintro pre A v ⟨L, h1, h2⟩
      exact ⟨L, h1, h2.set w L v⟩
    case hIx =>
      rintro pre A B row ⟨e, h1, h2⟩ hg hr
      exact ⟨e, h1, h2.own w e (by omega) hg hr⟩
    case assign =>
      intro l x W K hK
      have hact : ∀ (t : Array Value), (((#[12] : Array Nat).zip (enc1 x)).foldl (fun t (p, v) => t.setIfInBounds p v) t) = t.setIfInBounds 12 (.string x) := by
        intro t
        simp [enc1]
      rw [hact]
      simp only [List.setIfInBounds_toArray, List.set_cons_succ, List.set_cons_zero]
      gi_wp2
      exact hK
    case body =>
      rintro l pre x W hl hx ⟨L, hrun, HPI⟩
      have HPI' := Lib.hid HPI
      obtain ⟨A, c, K4, KO, K2, K3, HB, hL, hsz⟩ := HPI
      have c4 := K4.cellv 0 (.slice A L.length c) rfl
      have f4 := K4.frozen 0
      have f2 := K2.frozen 0
      have f3 := K3.frozen 0
      have c2 := K2.cellv 0 (.slice none 0 0) rfl
      have c3 := K3.cellv 0 (.int .i64 0) rfl
      have hcap := own_cap KO
      have hxm : x.size ≤ maxLen := Nat.le_trans hx hse
      have HN := Lib.hid (fun w => name_c x w hxm)
      clear HP HS k5 k6 k7 hP0 hxm
      have hb0 : x.toList.isEmpty = decide (x.toList = []) := by cases x.toList <;> rfl
      by_cases e1 : x.toList = []
      · have HR := Lib.hid (run_skip hrun (.inl e1))
        have q1 : x.toList.isEmpty = true := by rw [e1]; rfl
        clear hb0
        gi_wp2
        exact ⟨KeepsFrom.refl _ _, fun _ _ _ => rfl, ⟨L, HR.out, HPI'.out⟩⟩
      · by_cases e2 : x.toList = [46]
        · have HR := Lib.hid (run_skip hrun (.inr e2))
          have q1 : x.toList.isEmpty = false := by rw [e2]; rfl
          have q2 : (x.toList == [46]) = true := by simp [e2]
          clear hb0
          gi_wp2
          exact ⟨KeepsFrom.refl _ _, fun _ _ _ => rfl, ⟨L, HR.out, HPI'.out⟩⟩
        · have q1 : x.toList.isEmpty = false := by rw [hb0]; simpa using e1
          have q2 : (x.toList == [46]) = false := by simpa using e2
          have e12 : ¬ (x.toList = [] ∨ x.toList = [46]) := fun h => h.elim e1 e2
          clear hb0
          by_cases e3 : x.toList = [46, 46]
          · have HR := Lib.hid (run_up hrun e12 e3)
            have q3 : (x.toList == [46, 46]) = true := by simp [e3]
            obtain ⟨m, hm⟩ : ∃ m : Nat, m = L.length - 1 := ⟨_, rfl⟩
            have HU := Lib.hid (PI.up K4 KO K2 K3 HB hL hsz hm)
            have q4 : wrap64 ((L.length : Int) - 1) = (L.length : Int) - 1 := by unfold wrap64; omega
            have q5 : max ((L.length : Int) - 1) 0 = (m : Int) := by omega
            have q6 : decide (m ≤ c) = true := by simp; omega
            have q7 : decide ((m : Int) ≤ (c : Int)) = true := by simp; omega
            have q8 : m ≤ c := by omega
            clear e12 hrun K2 K3 KO hm
            gi_wp2
            exact ⟨(KeepsOthers.setCell _ _ _).from _, kp_set _ _ (by omega), ⟨_, HR.out, HU.out⟩⟩
          · have q3 : (x.toList == [46, 46]) = false := by simpa using e3
            cases hn : nameB x with
            | false =>
              have HR := Lib.hid (run_bad hrun e12 e3 hn)
              rw [hn] at HN
              have HU := Lib.hid (fun B => PX.two HPI'.out 18 B)
              clear e12 hrun KO hn
              gi_wp2_with (first
                | (refine ⟨trivial, ?_⟩; gi_at_call 10; refine (CallsIn.inRound l (callsIn_wide.2 (HN.out _))).mono ?_; rintro e w' ⟨rfl, rfl⟩)
                | (gi_at_call 10; refine (CallsIn.inRound l (callsIn_wide.2 (HN.out _))).mono ?_; rintro e w' ⟨rfl, rfl⟩))
              exact ⟨(HU.out _).1, ⟨_, HR.out, (HU.out 0).2⟩⟩
            | true =>
              rw [hn] at HN
              by_cases e4 : L.length = 8
              · have HR := Lib.hid (run_big hrun e12 e3 hn e4)
                have HU := Lib.hid (fun B => PX.two HPI'.out 22 B)
                have q4 : ((L.length : Int) == 8) = true := by simp; omega
                clear e12 hrun KO hn
                gi_wp2_with (first
                  | (refine ⟨trivial, ?_⟩; gi_at_call 10; refine (CallsIn.inRound l (callsIn_wide.2 (HN.out _))).mono ?_; rintro e w' ⟨rfl, rfl⟩)
                  | (gi_at_call 10; refine (CallsIn.inRound l (callsIn_wide.2 (HN.out _))).mono ?_; rintro e w' ⟨rfl, rfl⟩))
                exact ⟨(HU.out _).1, ⟨_, HR.out, (HU.out 0).2⟩⟩
              · have HR := Lib.hid (run_new hrun e12 e3 hn e4)
                have q4 : ((L.length : Int) == 8) = false := by simp; omega
                obtain ⟨i0, hi, hz0, hz1, hz2⟩ := info_parts (show (Tryd.prog.info? 9).map (fun i => (i.zero, i.size, i.bytes)) = some (some (.string ⟨#[]⟩), 1, 16) by kernel_rfl)
                have hn0 : 16 * (L.length + 1) ≤ 140737488355328 := by omega
                clear e12 hrun hn
                gi_wp2_with (first
                  | (refine ⟨trivial, ?_⟩; gi_at_call 10; refine (CallsIn.inRound l (callsIn_wide.2 (HN.out _))).mono ?_; rintro e w' ⟨rfl, rfl⟩)
                  | (gi_at_call 10; refine (CallsIn.inRound l (callsIn_wide.2 (HN.out _))).mono ?_; rintro e w' ⟨rfl, rfl⟩)
                  | (gi_at_builtin; refine wpListIn_append_own _ rfl _ _ 49 rfl (w.heap.size + 6) 9 i0 (.string ⟨#[]⟩) 1 16 Tryd.underlying49 hi hz0 hz1 hz2 rfl (by decide) _ _ _ rfl (KO.alloc _) ⟨W.heap.size, 0, none⟩ 1 1 [.string x] rfl rfl (cell_one_new _ _ _) (by simp [Value.oneCell']) (by unfold maxLen; omega) (by omega) (by rw [World.size_alloc]; omega) ?_; intro v' w1 hown' hgrow _; obtain ⟨g', cap', rfl⟩ := ownsRow_succ hown'; obtain ⟨HM, f5, c5⟩ := PI.more rfl K4 KO K2 K3 HB hL e4 hsz hown' hgrow W0.heap.size; have HM := Lib.hid HM; clear hgrow))
                exact ⟨HM.out.1, HM.out.2.1, ⟨_, HR.out, HM.out.2.2⟩⟩
    case done =>
      rintro D xs W hD hxs ⟨L, hrun, A, c, K4, KO, K2, K3, HB, hL, hsz⟩ hK
      have c4 := K4.cellv 0 (.slice A L.length c) rfl
      have f2 := K2.frozen 0
      have f3 := K3.frozen 0
      have c2 := K2.cellv 0 _ rfl
      have c3 := K3.cellv 0 _ rfl
      clear HP HS k5 k6 k7 hP0
      go_wp2_with fail
      have g1 := grownBy_set W w.heap.size 0 (.slice A L.length c)
      have g2 := grownBy_set (W.setCell ⟨w.heap.size, 0, none⟩ (.slice A L.length c)) (w.heap.size + 1) 0 (.int .i64 0)
      have kA : Blk (W.setCell ⟨w.heap.size, 0, none⟩ (.slice A L.length c)) w.heap.size 49 #[.slice A L.length c] := K2.set_ 0 _
      have kB : Blk (W.setCell ⟨w.heap.size, 0, none⟩ (.slice A L.length c)) (w.heap.size + 1) 53 #[.int .i64 0] := K3.far (show w.heap.size + 1 ≠ w.heap.size by omega) _
      have kC := kA.far (show w.heap.size ≠ (⟨w.heap.size + 1, 0, none⟩ : Addr).block from by show w.heap.size ≠ w.heap.size + 1; omega) (.int .i64 0)
      have kD : Blk ((W.setCell ⟨w.heap.size, 0, none⟩ (.slice A L.length c)).setCell ⟨w.heap.size + 1, 0, none⟩ (.int .i64 0)) (w.heap.size + 1) 53 #[.int .i64 0] := kB.set_ 0 _
      have KO2 := own_kept (own_kept KO g1 (by omega)) g2 (by omega)
      have HB2 := below_grown (below_grown HB HB.size g1 (by omega)) (by rw [size_set]; exact HB.size) g2 (by omega)
      have hK2 := (Below.heap_setCell (W.setCell ⟨w.heap.size, 0, none⟩ (.slice A L.length c)) ⟨w.heap.size + 1, 0, none⟩ (.int .i64 0) D (show D ≠ w.heap.size + 1 by omega)).trans ((Below.heap_setCell W ⟨w.heap.size, 0, none⟩ (.slice A L.length c) D (show D ≠ w.heap.size by omega)).trans hK)
      generalize (W.setCell ⟨w.heap.size, 0, none⟩ (.slice A L.length c)).setCell ⟨w.heap.size + 1, 0, none⟩ (.int .i64 0) = WF at *
      refine ⟨by simp, .inl ⟨_, _, rfl, run_takeDeferred hK2, ?_⟩⟩
      have hPO : WF.grownBy (WF.putObj D (.deferred none)) (some D) := grownBy_putObj' WF D _
      have hfr : ∀ r, some D = some r → w.heap.size ≤ r ∧ ∃ o : Obj, WF.heap[r]? = some o ∧ o.isCells = false := by
        intro r e
        injection e with e
        subst e
        exact ⟨by omega, _, hK2, rfl⟩
      refine ⟨_, res_vv rfl _ _ _ w.heap.size (w.heap.size + 1) _ _ rfl (load_sl _ _ _ _ _ (blk_free kC hPO hfr)) rfl (load_er _ _ _ (blk_free kD hPO hfr)), ?_⟩
      refine ⟨HB2.trans (belowK_b (w := w) (Nat.le_refl _) WF D _ _ (by omega) hK2 rfl rfl), .inr ⟨hbb.out, xs, ?_, .inr ⟨L, A, c, hrun, hL, rfl, own_mono (ownsRow_putObj KO2 _ hK2 rfl) (by omega)⟩⟩⟩
      rw [hxs, tl_extract, List.take_of_length_le (by rw [tl_len]; exact Nat.le_refl _)]
    case stop =>
      rintro D pre W hD ⟨r, hr⟩ ⟨e, hrun, K2, K3, HB⟩ hK
      clear HP HS k5 k6 k7 hP0
      gi_wp2
      refine ⟨by simp, .inl ⟨_, _, rfl, run_takeDeferred hK, ?_⟩⟩
      have hPO : W.grownBy (W.putObj D (.deferred none)) (some D) := grownBy_putObj' W D _
      have hfr : ∀ r, some D = some r → w.heap.size ≤ r ∧ ∃ o : Obj, W.heap[r]? = some o ∧ o.isCells = false := by
        intro r e
        injection e with e
        subst e
        exact ⟨by omega, _, hK, rfl⟩
      refine ⟨_, res_vv rfl _ _ _ w.heap.size (w.heap.size + 1) _ _ rfl (load_sl _ _ _ _ _ (blk_free K2 hPO hfr)) rfl (load_er _ _ _ (blk_free K3 hPO hfr)), ?_⟩
      refine ⟨HB.trans (belowK_b (w := w) (Nat.le_refl _) W D _ _ (by omega) hK rfl rfl), .inr ⟨hbb.out, pre ++ r.map (fun l => ⟨l.toArray⟩), ?_, .inl ⟨e, by rw [run_append, hrun], rfl⟩⟩⟩
      rw [List.map_append, List.map_map, show (tl ∘ fun l : List UInt8 => (⟨l.toArray⟩ : ByteArray)) = id from rfl, List.map_id, hr, tl_extract, List.take_of_length_le (by rw [tl_len]; exact Nat.le_refl _)]
end Go.Proofs.YthihpejhhimkaaaDoor.PathP
