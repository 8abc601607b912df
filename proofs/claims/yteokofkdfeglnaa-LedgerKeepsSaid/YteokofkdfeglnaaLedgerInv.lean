/- What every deed keeps: the sums of the quotas, and that nobody uses more than its own. No program in sight. -/
import Derived.Test.YteokofkdfeglnaaLedgerDoes
set_option linter.unusedVariables false
namespace Go.Proofs.Yteokofkdfeglnaa.LedgerInv
open Go.RowKit Go.Proofs.Yteokofkdfeglnaa.Base Go.Proofs.Yteokofkdfeglnaa.Row Go.Proofs.Yteokofkdfeglnaa.Ledger Go.Proofs.Yteokofkdfeglnaa.Ledger2 Go.Proofs.Yteokofkdfeglnaa.Ledger3 Go.Proofs.Yteokofkdfeglnaa.Ledger4 Go.Proofs.Yteokofkdfeglnaa.LedgerRef Go.Proofs.Yteokofkdfeglnaa.LedgerRef2 Go.Proofs.Yteokofkdfeglnaa.LedgerDoes

def S (f : Nat → Int) : Nat → Int
  | 0 => 0
  | n + 1 => S f n + f n
theorem S_congr {f g : Nat → Int} (n : Nat) (h : ∀ e, e < n → f e = g e) : S f n = S g n := by
  induction n with
  | zero => rfl
  | succ n ih => rw [S, S, ih (fun e he => h e (by omega)), h n (by omega)]
theorem S_upd (f : Nat → Int) (a : Nat) (v : Int) (n : Nat) : S (fun e => if e = a then v else f e) n = S f n + (if a < n then v - f a else 0) := by
  induction n with
  | zero => simp [S]
  | succ n ih =>
    rw [S, S, ih]
    by_cases h : n = a
    · subst h
      rw [if_neg (Nat.lt_irrefl _), if_pos rfl, if_pos (Nat.lt_succ_self _)]; omega
    · rw [if_neg h]
      by_cases h2 : a < n
      · rw [if_pos h2, if_pos (by omega)]; omega
      · rw [if_neg h2, if_neg (by omega)]; omega
theorem S_nonneg (f : Nat → Int) (n : Nat) (h : ∀ e, e < n → 0 ≤ f e) : 0 ≤ S f n := by
  induction n with
  | zero => exact Int.le_refl _
  | succ n ih =>
    have := ih (fun e he => h e (by omega))
    have := h n (by omega)
    rw [S]; omega
theorem S_mono (f : Nat → Int) (m n : Nat) (hmn : m ≤ n) (h : ∀ e, e < n → 0 ≤ f e) : S f m ≤ S f n := by
  induction n with
  | zero => obtain rfl : m = 0 := by omega
            exact Int.le_refl _
  | succ n ih =>
    rcases Nat.lt_or_ge m (n + 1) with h1 | h1
    · have := ih (by omega) (fun e he => h e (by omega))
      have := h n (by omega)
      rw [S]; omega
    · obtain rfl : m = n + 1 := by omega
      exact Int.le_refl _
theorem S_ge (f : Nat → Int) (a n : Nat) (ha : a < n) (h : ∀ e, e < n → 0 ≤ f e) : f a ≤ S f n := by
  have h1 := S_mono f (a + 1) n ha h
  have h2 := S_nonneg f a (fun e he => h e (by omega))
  rw [S] at h1; omega

theorem qat_setq (L : List Int) (hl : L.length = 128) (e k : Nat) (v : Int) (e' k' : Nat) (he : e < 16) (hk : k < 4) (he' : e' < 16) (hk' : k' < 4) : qat (L.set (e * 8 + k) v) e' k' = if e' = e ∧ k' = k then v else qat L e' k' := by
  unfold qat
  rw [List.getElem?_set]
  by_cases h : e' = e ∧ k' = k
  · rw [if_pos h, if_pos (by omega), if_pos (by omega)]; rfl
  · rw [if_neg h, if_neg (by omega)]
theorem uat_setq (L : List Int) (e k : Nat) (v : Int) (e' k' : Nat) (hk : k < 4) (hk' : k' < 4) : uat (L.set (e * 8 + k) v) e' k' = uat L e' k' := by
  unfold uat
  rw [List.getElem?_set, if_neg (by omega)]
theorem uat_setu (L : List Int) (hl : L.length = 128) (e k : Nat) (v : Int) (e' k' : Nat) (he : e < 16) (hk : k < 4) (he' : e' < 16) (hk' : k' < 4) : uat (L.set (e * 8 + (4 + k)) v) e' k' = if e' = e ∧ k' = k then v else uat L e' k' := by
  unfold uat
  rw [List.getElem?_set]
  by_cases h : e' = e ∧ k' = k
  · rw [if_pos h, if_pos (by omega), if_pos (by omega)]; rfl
  · rw [if_neg h, if_neg (by omega)]
theorem qat_setu (L : List Int) (e k : Nat) (v : Int) (e' k' : Nat) (hk : k < 4) (hk' : k' < 4) : qat (L.set (e * 8 + (4 + k)) v) e' k' = qat L e' k' := by
  unfold qat
  rw [List.getElem?_set, if_neg (by omega)]

structure Inv (L : List Int) (s : Nat → Int) : Prop where
  len : L.length = 128
  u0 : ∀ e k, e < 16 → k < 4 → 0 ≤ uat L e k
  uq : ∀ e k, e < 16 → k < 4 → uat L e k ≤ qat L e k
  sum : ∀ k, k < 4 → S (fun e => qat L e k) 16 = s k
  le : ∀ k, k < 4 → s k ≤ 512
theorem Inv.q0 {L : List Int} {s : Nat → Int} (h : Inv L s) (e k : Nat) (he : e < 16) (hk : k < 4) : 0 ≤ qat L e k := Int.le_trans (h.u0 e k he hk) (h.uq e k he hk)
theorem Inv.q5 {L : List Int} {s : Nat → Int} (h : Inv L s) (e k : Nat) (he : e < 16) (hk : k < 4) : qat L e k ≤ 512 := by
  have := S_ge (fun e => qat L e k) e 16 he (fun e he => h.q0 e k he hk)
  rw [h.sum k hk] at this
  exact Int.le_trans this (h.le k hk)
theorem Inv.left_ {L : List Int} {s : Nat → Int} (h : Inv L s) (e k : Nat) (he : e < 16) (hk : k < 4) : left L e k = qat L e k - uat L e k := by
  have h1 := h.q5 e k he hk
  have h2 := h.u0 e k he hk
  have h3 := h.uq e k he hk
  unfold left wrap64; omega

theorem inv_u {L : List Int} {s : Nat → Int} (h : Inv L s) (e k : Nat) (v : Int) (he : e < 16) (hk : k < 4) (h0 : 0 ≤ v) (h1 : v ≤ qat L e k) : Inv (L.set (e * 8 + (4 + k)) v) s := by
  refine ⟨by rw [List.length_set]; exact h.len, fun e' k' he' hk' => ?_, fun e' k' he' hk' => ?_, fun k' hk' => ?_, h.le⟩
  · rw [uat_setu L h.len e k v e' k' he hk he' hk']
    split
    · exact h0
    · exact h.u0 e' k' he' hk'
  · rw [uat_setu L h.len e k v e' k' he hk he' hk', qat_setu L e k v e' k' hk hk']
    split
    · rename_i hh; rw [hh.1, hh.2]; exact h1
    · exact h.uq e' k' he' hk'
  · rw [← h.sum k' hk']
    exact S_congr 16 (fun e' he' => qat_setu L e k v e' k' hk hk')
theorem inv_take {L : List Int} {s : Nat → Int} (h : Inv L s) (e k n : Int) : Inv (pTake L e k n).2 s := by
  unfold pTake
  cases hm : lmay e k n with
  | false => simpa using h
  | true =>
    obtain ⟨e, k, rfl, rfl, he, hk, h0, h1⟩ := lmay_nat hm
    simp only [Int.toNat_natCast, if_true]
    split
    · exact h
    · rename_i hlt
      rw [h.left_ e k he hk] at hlt
      have h2 := h.u0 e k he hk
      have h3 := h.q5 e k he hk
      refine inv_u h e k _ he hk ?_ ?_ <;> unfold wrap64 <;> omega
theorem inv_free {L : List Int} {s : Nat → Int} (h : Inv L s) (e k n : Int) : Inv (pFree L e k n).2 s := by
  unfold pFree
  cases hm : lmay e k n with
  | false => simpa using h
  | true =>
    obtain ⟨e, k, rfl, rfl, he, hk, h0, h1⟩ := lmay_nat hm
    simp only [Int.toNat_natCast, if_true]
    split
    · exact h
    · rename_i hlt
      have h2 := h.u0 e k he hk
      have h3 := h.q5 e k he hk
      have h4 := h.uq e k he hk
      refine inv_u h e k _ he hk ?_ ?_ <;> unfold wrap64 <;> omega
theorem inv_move {L : List Int} {s : Nat → Int} (h : Inv L s) (e t k n : Int) : Inv (pMove L e t k n).2 s := by
  unfold pMove
  cases hm : lmay e k n with
  | false => simpa using h
  | true =>
    cases hm2 : lmay t k n with
    | false => simpa using h
    | true =>
      obtain ⟨e, k, rfl, rfl, he, hk, h0, h1⟩ := lmay_nat hm
      obtain ⟨t, k2, rfl, _, ht, _, _, _⟩ := lmay_nat hm2
      simp only [Int.toNat_natCast, Bool.and_self, if_true]
      split
      · exact h
      · rename_i hlt
        rw [h.left_ e k he hk] at hlt
        have h2 := h.u0 e k he hk
        have h3 := h.q5 e k he hk
        have h4 := h.q5 t k ht hk
        have h5 := h.q0 t k ht hk
        unfold mv
        have w1 : wrap64 (qat L e k - n) = qat L e k - n := by unfold wrap64; omega
        rw [w1]
        have hML : (L.set (e * 8 + k) (qat L e k - n)).length = 128 := by rw [List.length_set]; exact h.len
        have hq1 : ∀ e' k', e' < 16 → k' < 4 → qat (L.set (e * 8 + k) (qat L e k - n)) e' k' = if e' = e ∧ k' = k then qat L e k - n else qat L e' k' := fun e' k' he' hk' => qat_setq L h.len e k _ e' k' he hk he' hk'
        have w2 : wrap64 (qat (L.set (e * 8 + k) (qat L e k - n)) t k + n) = qat (L.set (e * 8 + k) (qat L e k - n)) t k + n := by
          rw [hq1 t k ht hk]
          split <;> (unfold wrap64; omega)
        simp only [w2]
        have hq2 : ∀ e' k', e' < 16 → k' < 4 → qat ((L.set (e * 8 + k) (qat L e k - n)).set (t * 8 + k) (qat (L.set (e * 8 + k) (qat L e k - n)) t k + n)) e' k' = if e' = t ∧ k' = k then qat (L.set (e * 8 + k) (qat L e k - n)) t k + n else (if e' = e ∧ k' = k then qat L e k - n else qat L e' k') := fun e' k' he' hk' => by
          rw [qat_setq _ hML t k _ e' k' ht hk he' hk', hq1 e' k' he' hk']
        rw [hq1 t k ht hk] at hq2
        refine ⟨by rw [List.length_set]; exact hML, fun e' k' he' hk' => ?_, fun e' k' he' hk' => ?_, fun k' hk' => ?_, h.le⟩
        · rw [uat_setq _ t k _ e' k' hk hk', uat_setq _ e k _ e' k' hk hk']
          exact h.u0 e' k' he' hk'
        · rw [uat_setq _ t k _ e' k' hk hk', uat_setq _ e k _ e' k' hk hk', hq1 t k ht hk, hq2 e' k' he' hk']
          have h6 := h.uq e' k' he' hk'
          by_cases c1 : e' = t ∧ k' = k
          · obtain ⟨rfl, rfl⟩ := c1
            rw [if_pos ⟨rfl, rfl⟩]
            by_cases c2 : e' = e
            · subst c2; rw [if_pos ⟨rfl, rfl⟩]; omega
            · rw [if_neg (fun hh => c2 hh.1)]; omega
          · rw [if_neg c1]
            by_cases c2 : e' = e ∧ k' = k
            · obtain ⟨rfl, rfl⟩ := c2; rw [if_pos ⟨rfl, rfl⟩]; omega
            · rw [if_neg c2]; exact h6
        · rw [hq1 t k ht hk, ← h.sum k' hk']
          by_cases c : k' = k
          · subst c
            have e1 : S (fun e' => qat ((L.set (e * 8 + k') (qat L e k' - n)).set (t * 8 + k') ((if t = e ∧ k' = k' then qat L e k' - n else qat L t k') + n)) e' k') 16 = S (fun e' => if e' = t then ((if t = e then qat L e k' - n else qat L t k') + n) else (if e' = e then qat L e k' - n else qat L e' k')) 16 := S_congr 16 (fun e' he' => by rw [hq2 e' k' he' hk']; simp)
            rw [e1, S_upd (fun e' => if e' = e then qat L e k' - n else qat L e' k'), S_upd (fun e' => qat L e' k'), if_pos he, if_pos ht]
            by_cases c2 : t = e
            · rw [if_pos c2]; omega
            · rw [if_neg c2]; omega
          · exact S_congr 16 (fun e' he' => by rw [hq2 e' k' he' hk', if_neg (fun hh => c hh.2), if_neg (fun hh => c hh.2)])

theorem set_get (L : List Int) (i j : Nat) (v : Int) : (L.set i v)[j]?.getD 0 = if i = j ∧ j < L.length then v else L[j]?.getD 0 := by
  rw [List.getElem?_set]
  by_cases h : i = j
  · subst h
    by_cases h2 : i < L.length
    · simp [h2]
    · simp [h2]
  · simp [h]
theorem z8_get (L : List Int) (hl : L.length = 128) (e i : Nat) (he : e < 16) : (z8 L e)[i]?.getD 0 = if e * 8 ≤ i ∧ i < e * 8 + 8 then 0 else L[i]?.getD 0 := by
  simp only [z8, set_get, List.length_set, hl]
  by_cases h : e * 8 ≤ i ∧ i < e * 8 + 8
  · rw [if_pos h]
    repeat' split
    all_goals first | rfl | omega
  · rw [if_neg h]
    repeat' split
    all_goals first | rfl | omega
theorem qat_z8 (L : List Int) (hl : L.length = 128) (e e' k' : Nat) (he : e < 16) (hk' : k' < 4) : qat (z8 L e) e' k' = if e' = e then 0 else qat L e' k' := by
  unfold qat
  rw [z8_get L hl e _ he]
  by_cases h : e' = e
  · rw [if_pos h, if_pos (by omega)]
  · rw [if_neg h, if_neg (by omega)]
theorem uat_z8 (L : List Int) (hl : L.length = 128) (e e' k' : Nat) (he : e < 16) (hk' : k' < 4) : uat (z8 L e) e' k' = if e' = e then 0 else uat L e' k' := by
  unfold uat
  rw [z8_get L hl e _ he]
  by_cases h : e' = e
  · rw [if_pos h, if_pos (by omega)]
  · rw [if_neg h, if_neg (by omega)]
theorem Inv.two {L : List Int} {s : Nat → Int} (h : Inv L s) (e t k : Nat) (he : e < 16) (ht : t < 16) (hk : k < 4) (hne : ¬ e = t) : qat L t k + qat L e k ≤ 512 := by
  have h1 := S_upd (fun e => qat L e k) e 0 16
  rw [if_pos he, h.sum k hk] at h1
  have h2 := S_ge (fun x => if x = e then 0 else qat L x k) t 16 ht (fun x hx => by
    show 0 ≤ if x = e then 0 else qat L x k
    split
    · exact Int.le_refl _
    · exact h.q0 x k hx hk)
  simp only [if_neg (fun hh : t = e => hne hh.symm)] at h2
  have h3 := h.le k hk
  omega
theorem clk_get {L : List Int} {s : Nat → Int} (h : Inv L s) (e t : Nat) (he : e < 16) (ht : t < 16) (hne : ¬ e = t) (j : Nat) (hj : j ≤ 4) :
    (∀ e' k', e' < 16 → k' < 4 → qat (clk L e t j) e' k' = if e' = t ∧ k' < j then qat L t k' + qat L e k' else qat L e' k') ∧ (∀ e' k', k' < 4 → uat (clk L e t j) e' k' = uat L e' k') := by
  induction j with
  | zero => exact ⟨fun e' k' _ _ => by rw [if_neg (by omega)]; rfl, fun _ _ _ => rfl⟩
  | succ j ih =>
    obtain ⟨ih1, ih2⟩ := ih (by omega)
    have hL : (clk L e t j).length = 128 := by rw [clk_len, h.len]
    have hw : wrap64 (qat (clk L e t j) t j + qat L e j) = qat L t j + qat L e j := by
      rw [ih1 t j ht (by omega), if_neg (by omega)]
      have h1 := h.two e t j he ht (by omega) hne
      have h2 := h.q0 e j he (by omega)
      have h3 := h.q0 t j ht (by omega)
      unfold wrap64; omega
    rw [clk, hw]
    refine ⟨fun e' k' he' hk' => ?_, fun e' k' hk' => ?_⟩
    · rw [qat_setq _ hL t j _ e' k' ht (by omega) he' hk', ih1 e' k' he' hk']
      by_cases c : e' = t ∧ k' = j
      · obtain ⟨rfl, rfl⟩ := c
        rw [if_pos ⟨rfl, rfl⟩, if_pos ⟨rfl, by omega⟩]
      · rw [if_neg c]
        by_cases c2 : e' = t ∧ k' < j
        · rw [if_pos c2, if_pos ⟨c2.1, by omega⟩]
        · rw [if_neg c2, if_neg (by omega)]
    · rw [uat_setq _ t j _ e' k' (by omega) hk']
      exact ih2 e' k' hk'
theorem inv_close {L : List Int} {s : Nat → Int} (h : Inv L s) (e t : Int) : Inv (pClose L e t).2 s := by
  unfold pClose
  cases hm : lmay e 0 0 with
  | false => simpa using h
  | true =>
    cases hm2 : lmay t 0 0 with
    | false => simpa using h
    | true =>
      obtain ⟨e, _, rfl, _, he, _, _, _⟩ := lmay_nat hm
      obtain ⟨t, _, rfl, _, ht, _, _, _⟩ := lmay_nat hm2
      by_cases het : e = t
      · subst het
        simpa using h
      · have hb : ((e : Int) == (t : Int)) = false := by simp; omega
        simp only [Int.toNat_natCast, Bool.and_self, hb, Bool.not_false, if_true]
        obtain ⟨c1, c2⟩ := clk_get h e t he ht het 4 (by omega)
        have hL : (clk L e t 4).length = 128 := by rw [clk_len, h.len]
        have q1 : ∀ e' k', e' < 16 → k' < 4 → qat (z8 (clk L e t 4) e) e' k' = if e' = e then 0 else (if e' = t then qat L t k' + qat L e k' else qat L e' k') := fun e' k' he' hk' => by
          rw [qat_z8 _ hL e e' k' he hk', c1 e' k' he' hk']
          congr 1
          by_cases d : e' = t
          · rw [if_pos ⟨d, hk'⟩, if_pos d]
          · rw [if_neg (fun hh => d hh.1), if_neg d]
        have u1 : ∀ e' k', k' < 4 → uat (z8 (clk L e t 4) e) e' k' = if e' = e then 0 else uat L e' k' := fun e' k' hk' => by
          rw [uat_z8 _ hL e e' k' he hk', c2 e' k' hk']
        refine ⟨by rw [z8_len]; exact hL, fun e' k' he' hk' => ?_, fun e' k' he' hk' => ?_, fun k' hk' => ?_, h.le⟩
        · rw [u1 e' k' hk']
          split
          · exact Int.le_refl _
          · exact h.u0 e' k' he' hk'
        · rw [u1 e' k' hk', q1 e' k' he' hk']
          split
          · exact Int.le_refl _
          · split
            · rename_i d
              subst d
              have a1 := h.uq e' k' he' hk'
              have a2 := h.q0 e k' he hk'
              omega
            · exact h.uq e' k' he' hk'
        · rw [← h.sum k' hk', S_congr 16 (fun e' he' => q1 e' k' he' hk'), S_upd (fun e' => if e' = t then qat L t k' + qat L e k' else qat L e' k'), S_upd (fun e' => qat L e' k'), if_pos he, if_pos ht, if_neg het]
          omega
theorem inv_do {L : List Int} {s : Nat → Int} (h : Inv L s) (kd en to k n : Int) : Inv (pDo L kd en to k n) s := by
  unfold pDo
  split
  · exact inv_take h en k n
  · split
    · exact inv_free h en k n
    · split
      · exact inv_move h en to k n
      · split
        · exact inv_close h en to
        · exact h
theorem z128_get (i : Nat) : z128[i]?.getD 0 = 0 := by
  unfold z128
  rw [List.getElem?_replicate]
  split <;> rfl
theorem nk_get (v : Nat → Int) (i : Nat) : (nk v 4)[i]?.getD 0 = if i < 4 then mm (v i) else 0 := by
  have hz : z128.length = 128 := by simp [z128]
  simp only [nk, set_get, List.length_set, hz, z128_get]
  repeat' split
  all_goals first | rfl | omega | (rename_i h1 _; obtain ⟨rfl, _⟩ := h1; rfl) | (rename_i h1; obtain ⟨rfl, _⟩ := h1; rfl)
theorem mm_range (n : Int) : 0 ≤ mm n ∧ mm n ≤ 512 := by
  unfold mm
  split
  · omega
  · split <;> omega
theorem inv_new (v : Nat → Int) : Inv (nk v 4) (fun k => mm (v k)) := by
  have q1 : ∀ e k, k < 4 → qat (nk v 4) e k = if e = 0 then mm (v k) else 0 := fun e k hk => by
    unfold qat
    rw [nk_get]
    by_cases h : e = 0
    · subst h
      rw [if_pos rfl, if_pos (by omega), show 0 * 8 + k = k by omega]
    · rw [if_neg h, if_neg (by omega)]
  have u1 : ∀ e k, uat (nk v 4) e k = 0 := fun e k => by
    unfold uat
    rw [nk_get, if_neg (by omega)]
  refine ⟨nk_len _ _, fun e k _ _ => by rw [u1]; exact Int.le_refl _, fun e k _ hk => ?_, fun k hk => ?_, fun k _ => (mm_range _).2⟩
  · rw [u1, q1 e k hk]
    split
    · exact (mm_range _).1
    · exact Int.le_refl _
  · rw [S_congr 16 (fun e _ => q1 e k hk), S_upd (fun _ => (0 : Int))]
    simp [S]
end Go.Proofs.Yteokofkdfeglnaa.LedgerInv
