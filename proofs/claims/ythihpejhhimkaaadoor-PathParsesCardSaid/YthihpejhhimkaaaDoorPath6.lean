/- Package path: Print, the reference's Print; what is printed is parsed as it was. -/
import Derived.Test.YthihpejhhimkaaaDoorPath5
import Derived.Test.YthihpejhhimkaaaDoorPathJoin
set_option linter.unusedVariables false
namespace Go.Proofs.YthihpejhhimkaaaDoor.Path6
open Go.RowKit Go.Proofs.YthihpejhhimkaaaDoor.Base Go.Proofs.YthihpejhhimkaaaDoor.Row Go.Proofs.YthihpejhhimkaaaDoor.App Go.Proofs.YthihpejhhimkaaaDoor.Multi Go.Proofs.YthihpejhhimkaaaDoor.StEq Go.Proofs.YthihpejhhimkaaaDoor.Held Go.Proofs.YthihpejhhimkaaaDoor.Out Go.Proofs.YthihpejhhimkaaaDoor.HeldW Go.Proofs.YthihpejhhimkaaaDoor.HeldX Go.Proofs.YthihpejhhimkaaaDoor.Dir Go.Proofs.YthihpejhhimkaaaDoor.Path Go.Proofs.YthihpejhhimkaaaDoor.Path2 Go.Proofs.YthihpejhhimkaaaDoor.PathP Go.Proofs.YthihpejhhimkaaaDoor.Path3 Go.Proofs.YthihpejhhimkaaaDoor.Path4 Go.Proofs.YthihpejhhimkaaaDoor.Path5

/-- Names as a path's bytes. -/
def pr (L : List ByteArray) : List UInt8 := L.flatMap fun x => 47 :: tl x
def prS (L : List ByteArray) : ByteArray := if L = [] then ⟨#[47]⟩ else ⟨(pr L).toArray⟩
theorem tl_mk (l : List UInt8) : tl ⟨l.toArray⟩ = l := rfl
theorem tl_app (a b : ByteArray) : tl (a ++ b) = tl a ++ tl b := by
  unfold tl
  rw [ByteArray.data_append, Array.toList_append]
theorem pr_join : ∀ (x : ByteArray) (r : List ByteArray), pr (x :: r) = 47 :: Lib.join ((x :: r).map tl) [47]
  | x, r => by
    rw [List.map_cons, Lib.join_cons]
    show 47 :: tl x ++ pr r = _
    rw [List.cons_append]
    congr 2
    unfold Lib.joinTail pr
    induction r with
    | nil => rfl
    | cons y r ih => simp only [List.map_cons, List.flatten_cons, List.flatMap_cons, ih]; rfl
/-- Every name that Parse tells may be one. -/
theorem run_names : ∀ (xs L M : List ByteArray), run L xs = .ok M → (∀ x ∈ L, nameB x = true) → L.length ≤ 8 → (∀ x ∈ M, nameB x = true) ∧ M.length ≤ 8
  | [], L, M, h, h1, h2 => by
    simp only [run, Except.ok.injEq] at h
    subst h
    exact ⟨h1, h2⟩
  | p :: ps, L, M, h, h1, h2 => by
    unfold run at h
    split at h
    · exact run_names ps L M h h1 h2
    · split at h
      · refine run_names ps _ M h (fun x hx => h1 x (List.dropLast_subset _ hx)) (by rw [List.length_dropLast]; omega)
      · split at h
        · cases h
        · split at h
          · cases h
          · rename_i hn h8
            refine run_names ps _ M h (fun x hx => ?_) (by simp; omega)
            rcases List.mem_append.1 hx with hx | hx
            · exact h1 x hx
            · rw [List.mem_singleton] at hx
              subst hx
              simpa using hn
theorem name_facts {x : ByteArray} (h : nameB x = true) : ¬ x.toList = [] ∧ ¬ x.toList = [46] ∧ ¬ x.toList = [46, 46] ∧ x.size ≤ 14 ∧ ∀ c ∈ tl x, c ≠ 47 := by
  unfold nameB at h
  simp only [Bool.and_eq_true, Bool.not_eq_true', Bool.or_eq_false_iff, decide_eq_false_iff_not, beq_eq_false_iff_ne, ne_eq, List.isEmpty_eq_false_iff] at h
  obtain ⟨⟨h1, h2, h3, h4⟩, h5⟩ := h
  refine ⟨h1, h3, h4, by omega, fun c hc e => ?_⟩
  have := List.all_eq_true.1 h5 c hc
  subst e
  revert this
  decide
theorem run_back : ∀ (xs L : List ByteArray), (∀ x ∈ xs, nameB x = true) → L.length + xs.length ≤ 8 → run L xs = .ok (L ++ xs)
  | [], L, _, _ => by rw [List.append_nil]; rfl
  | p :: ps, L, h, hl => by
    obtain ⟨h1, h2, h3, _⟩ := name_facts (h p (List.mem_cons_self ..))
    simp only [List.length_cons] at hl
    unfold run
    rw [if_neg (fun e => e.elim h1 h2), if_neg h3, if_neg (by rw [h p (List.mem_cons_self ..)]; simp), if_neg (by omega), run_back ps _ (fun x hx => h x (List.mem_cons_of_mem _ hx)) (by simp; omega), List.append_assoc]
    rfl
theorem parts_pre (l r : List UInt8) (h : ∀ c ∈ l, c ≠ 47) : parts (l ++ 47 :: r) = l :: parts r := by
  have := parts_cut (l ++ 47 :: r) l.length (fun j hj => by
    rw [List.getElem?_append_left hj]
    intro e
    exact h _ (List.mem_of_getElem? e) rfl) (by simp)
  rw [this]
  simp
theorem parts_self (l : List UInt8) (h : ∀ c ∈ l, c ≠ 47) : parts l = [l] := parts_all l (fun j e => h _ (List.mem_of_getElem? e) rfl)
theorem parts_pr : ∀ (x : ByteArray) (r : List ByteArray), (∀ y ∈ x :: r, nameB y = true) → parts (tl x ++ pr r) = (x :: r).map tl
  | x, [], h => by
    show parts (tl x ++ []) = _
    rw [List.append_nil, parts_self _ (name_facts (h x (List.mem_cons_self ..))).2.2.2.2]
    rfl
  | x, y :: r, h => by
    show parts (tl x ++ (47 :: tl y ++ pr r)) = _
    rw [List.cons_append, parts_pre _ _ (name_facts (h x (List.mem_cons_self ..))).2.2.2.2, parts_pr y r (fun z hz => h z (List.mem_cons_of_mem _ hz))]
    rfl
theorem res_back {s : ByteArray} {L : List ByteArray} (h : res s = .ok L) : res (prS L) = .ok L := by
  have hn : (∀ x ∈ L, nameB x = true) ∧ L.length ≤ 8 := by
    unfold res at h
    split at h
    · exact run_names _ _ _ h (fun x hx => by cases hx) (by simp)
    · cases h
  cases L with
  | nil =>
    unfold res prS
    rw [if_pos rfl, if_pos (by decide), show segs ⟨#[47]⟩ = [⟨#[]⟩] by rfl]
    unfold run
    rw [if_pos (.inl (by rw [toList_tl]; rfl))]
    rfl
  | cons x r =>
    rw [show prS (x :: r) = ⟨(pr (x :: r)).toArray⟩ by unfold prS; rw [if_neg (by simp)]]
    unfold res
    have ht : tl (⟨(pr (x :: r)).toArray⟩ : ByteArray) = 47 :: (tl x ++ pr r) := rfl
    rw [if_pos (by unfold abs_; rw [ht]; rfl)]
    rw [← segs_of (xs := x :: r) (by rw [ht, List.drop_one, List.tail_cons, parts_pr x r hn.1])]
    have := run_back (x :: r) [] hn.1 (by have := hn.2; simp at this ⊢; omega)
    rwa [List.nil_append] at this
theorem res_names {s : ByteArray} {L : List ByteArray} (h : res s = .ok L) : (∀ x ∈ L, nameB x = true) ∧ L.length ≤ 8 := by
  unfold res at h
  split at h
  · exact run_names _ _ _ h (fun x hx => by cases hx) (by simp)
  · cases h
theorem pr_len : ∀ (L : List ByteArray), (∀ x ∈ L, nameB x = true) → (pr L).length ≤ 15 * L.length
  | [], _ => by simp [pr]
  | x :: r, h => by
    have h1 := (name_facts (h x (List.mem_cons_self ..))).2.2.2.1
    have h2 := pr_len r (fun z hz => h z (List.mem_cons_of_mem _ hz))
    show (47 :: tl x ++ pr r).length ≤ _
    have h3 := tl_len x
    simp only [List.length_append, List.length_cons]
    omega
theorem prS_size {s : ByteArray} {L : List ByteArray} (h : res s = .ok L) : (prS L).size ≤ 1000 := by
  obtain ⟨h1, h2⟩ := res_names h
  unfold prS
  split
  · decide
  · have := pr_len L h1
    show (pr L).toArray.size ≤ 1000
    rw [List.size_toArray]
    omega
theorem run_err : ∀ (xs L : List ByteArray) (k : Int), run L xs = .error k → ¬ k = 0
  | [], L, k, h => by cases h
  | p :: ps, L, k, h => by
    unfold run at h
    split at h
    · exact run_err ps _ k h
    · split at h
      · exact run_err ps _ k h
      · split at h
        · injection h with h; omega
        · split at h
          · injection h with h; omega
          · exact run_err ps _ k h
theorem res_err0 {s : ByteArray} {k : Int} (h : res s = .error k) : ¬ k = 0 := by
  unfold res at h
  split at h
  · exact run_err _ _ k h
  · injection h with h; omega
set_option maxRecDepth 100000 in
set_option maxHeartbeats 1000000 in
theorem print_nil (A : Option Addr) (c : Nat) (w : World) : Calls Tryd.prog 26 #[.slice A 0 c] w fun r w' => r = .returned (.string ⟨#[47]⟩) ∧ Below w.heap.size w w' := by
  go_enter Tryd.func26, Tryd.ntmps26
  go_wp2_with fail
  go_ret
  exact ⟨rfl, bl_refl w⟩
set_option maxRecDepth 100000 in
set_option maxHeartbeats 1000000 in
theorem print_some (A : Option Addr) (n c : Nat) (L : List ByteArray) (w : World) (h : SL w A n L) (hn : 0 < n) (hc : n ≤ c) (hok : ∀ x ∈ L, nameB x = true) (h8 : L.length ≤ 8) :
    Calls Tryd.prog 26 #[.slice A n c] w fun r w' => r = .returned (.string (prS L)) ∧ Below w.heap.size w w' := by
  obtain ⟨g, o, rfl, hcell⟩ := h.cells hn
  have hl := h.len
  have hcells : ∀ (j : Nat) x, L[j]? = some x → w.cell? ⟨g, o + j, none⟩ = some (.string x) := fun j x hx => by
    have := hcell j x hx 0 (.string x) rfl
    rwa [Nat.mul_one, Nat.add_zero] at this
  have hg : g < w.heap.size := World.block_lt_of_cell? w _ (hcells 0 _ (List.getElem?_eq_getElem (by omega)))
  have hlen := pr_len L hok
  cases L with
  | nil => simp at hl; omega
  | cons x r =>
    rw [pr_join] at hlen
    have HJ := Tryd.strings_Join g o c (x :: r) ⟨#[47]⟩ w hcells hg (by omega) (by omega) (by
      have e : Lib.join ((x :: r).map (·.data.toList)) (⟨#[47]⟩ : ByteArray).data.toList = Lib.join ((x :: r).map tl) [47] := rfl
      rw [e]
      simp only [List.length_cons] at hlen h8
      omega)
    have HP : Hid (prS (x :: r) = (⟨#[47]⟩ : ByteArray) ++ ⟨(Lib.join ((x :: r).map tl) [47]).toArray⟩) := Lib.hid (by
      apply tl_ext
      rw [tl_app]
      unfold prS
      rw [if_neg (by simp), tl_mk, tl_mk, pr_join]
      rfl)
    have e : Lib.join ((x :: r).map (·.data.toList)) (⟨#[47]⟩ : ByteArray).data.toList = Lib.join ((x :: r).map tl) [47] := rfl
    rw [e, hl] at HJ
    have HJ' := Lib.hid HJ
    have q : ((n : Int) == 0) = false := by rw [beq_eq_false_iff_ne]; omega
    have hq : ¬ 9223372036854775807 < 1 + (Lib.join ((x :: r).map tl) [47]).length := by
      simp only [List.length_cons] at hlen h8
      omega
    clear HJ e hlen hcells hcell h hl
    go_enter Tryd.func26, Tryd.ntmps26
    generalize Lib.join ((x :: r).map tl) [47] = J at *
    go_wp2_with (first
      | (go_at_call 34; refine (HJ'.out).mono ?_; clear HJ'; rintro e w1 ⟨rfl, b1⟩))
    go_ret
    exact ⟨by rw [HP.out]; rfl, b1⟩
theorem pr_snoc (L : List ByteArray) (x : ByteArray) : pr (L ++ [x]) = pr L ++ 47 :: tl x := by
  unfold pr
  rw [List.flatMap_append, List.flatMap_singleton]
theorem pr_nil_iff {L : List ByteArray} : pr L = [] ↔ L = [] := by
  cases L with
  | nil => simp [pr]
  | cons x r => simp [pr]
set_option maxRecDepth 100000 in
set_option maxHeartbeats 2000000 in
theorem rprint_c (A : Option Addr) (n c : Nat) (L : List ByteArray) (w : World) (h : SL w A n L) (hok : ∀ x ∈ L, nameB x = true) (h8 : L.length ≤ 8) :
    Calls Tryd.prog 27 #[.slice A n c] w fun r w' => r = .returned (.string (prS L)) ∧ Below w.heap.size w w' := by
  have hl := h.len
  have H := Lib.hid h
  clear h
  go_enter Tryd.func27, Tryd.ntmps27
  go_wp2_with fail
  go_loopw [3, 4] (fun s i wr => ∃ (k : Nat) (v : ByteArray), k ≤ n ∧ s = .string v ∧ i = .int .i64 k ∧ tl v = pr (L.take k) ∧ w = wr) (fun _ i _ => n - (intOf i).toNat)
  case atStart => exact ⟨0, ⟨#[]⟩, by omega, rfl, rfl, rfl, rfl⟩
  case round =>
    obtain ⟨k, v, hk, rfl, rfl, hv, rfl⟩ := hrel
    have HV := Lib.hid hv
    have hvl : v.size ≤ 120 := by
      have h1 := pr_len (L.take k) (fun x hx => hok x (List.mem_of_mem_take hx))
      rw [List.length_take] at h1
      rw [← tl_len, hv]
      omega
    clear hv
    by_cases hlt : k < n
    · obtain ⟨ad, x, rfl, hx, cx⟩ := sl_at H.out k hlt
      have hx14 := (name_facts (hok x (List.mem_of_getElem? hx))).2.2.2.1
      have q1 : decide ((k : Int) < (n : Int)) = true := by simp; omega
      have q3 : (k : Int) < (n : Int) := by omega
      have hq1 : ¬ 9223372036854775807 < v.size + 1 := by omega
      have hq2 : ¬ 9223372036854775807 < v.size + 1 + x.size := by omega
      have HN : Hid (tl (v ++ ⟨#[47]⟩ ++ x) = pr (L.take (k + 1))) := Lib.hid (by
        rw [List.take_add_one, hx, Option.toList_some, pr_snoc, ← HV.out, tl_app, tl_app, List.append_assoc]
        rfl)
      clear hx hx14
      go_wp2_with fail
      go_roundw
      case rel => exact ⟨k + 1, _, by omega, rfl, by go_num, HN.out, trivial⟩
      case measure => first | (simp [intOf]; done) | (simp [intOf]; omega)
    · obtain rfl : k = n := by omega
      have q1 : decide ((k : Int) < (k : Int)) = false := by simp
      have hvt : tl v = pr L := by rw [HV.out, List.take_of_length_le (by omega)]
      by_cases hL : L = []
      · have hemp : v.toList = [] := by rw [toList_tl, hvt, hL]; rfl
        have q2 : v.toList.isEmpty = true := by rw [hemp]; rfl
        have HF : Hid (prS L = ⟨#[47]⟩) := Lib.hid (by unfold prS; rw [if_pos hL])
        clear hL hvt
        go_wp2_with fail
        go_ret
        exact ⟨by rw [HF.out]; rfl, bl_refl _⟩
      · have hemp : ¬ v.toList = [] := by rw [toList_tl, hvt]; exact fun e => hL (pr_nil_iff.1 e)
        have q2 : v.toList.isEmpty = false := by cases hh : v.toList with
          | nil => exact absurd hh hemp
          | cons a b => rfl
        have HF : Hid (prS L = v) := Lib.hid (by unfold prS; rw [if_neg hL]; exact tl_ext hvt.symm)
        clear hL hvt
        go_wp2_with fail
        go_ret
        exact ⟨by rw [HF.out]; rfl, bl_refl _⟩
end Go.Proofs.YthihpejhhimkaaaDoor.Path6
