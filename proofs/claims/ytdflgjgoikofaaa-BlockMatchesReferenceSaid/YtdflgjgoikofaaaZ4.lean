/- Plain: the reference as functions on lists, and the laws of both; no condition. -/
import Derived.Test.YtdflgjgoikofaaaR5
import Derived.Test.YtdflgjgoikofaaaZ1
import Derived.KernelRfl
set_option linter.unusedVariables false
set_option linter.unusedSimpArgs false
namespace Go.Proofs.Ytdflgjgoikofaaa.Pl
open Go.RowKit Go.Proofs.Ytdflgjgoikofaaa.Ref

theorem wrap_succ (i : Nat) (h : i < 1000000) : wrap64 ((i : Int) + 1) = ((i + 1 : Nat) : Int) := by unfold wrap64; omega
theorem rd_nat (l : List S53) (i : Nat) : rd_T53 l (i : Int) = l.getD i z53 := by unfold rd_T53; rw [Int.toNat_natCast]
theorem rd_nat26 (l : List S26) (i : Nat) : rd_T26 l (i : Int) = l.getD i z26 := by unfold rd_T26; rw [Int.toNat_natCast]
theorem drop_cons53 (l : List S53) (i : Nat) (h : i < l.length) : l.drop i = l.getD i z53 :: l.drop (i + 1) := by
  rw [List.drop_eq_getElem_cons h, List.getD_eq_getElem?_getD, List.getElem?_eq_getElem h]; rfl

theorem hold_cons (b : S53) (l : List S53) (n : Int) : hold (b :: l) n = if bF b ≤ n ∧ n < bT b then bC b else hold l n := by
  unfold hold holds
  by_cases h1 : bF b ≤ n <;> by_cases h2 : n < bT b <;> simp [List.find?_cons, h1, h2]
theorem hold_nil (n : Int) : hold [] n = -1 := rfl
theorem holder_l0 (l : List S53) (n : Int) (hl : l.length < 1000000) (d : Nat) : ∀ (k i : Nat), l.length - i = d → i ≤ l.length → d < k → dialtoneref13_holder.l0 k l n (i : Int) = some (hold (l.drop i) n) := by
  induction d with
  | zero =>
    intro k i hd hi hk
    obtain ⟨k, rfl⟩ : ∃ m, k = m + 1 := ⟨k - 1, by omega⟩
    simp only [dialtoneref13_holder.l0]
    rw [if_neg (by omega), List.drop_eq_nil_of_le (by omega)]
    rfl
  | succ d ih =>
    intro k i hd hi hk
    obtain ⟨k, rfl⟩ : ∃ m, k = m + 1 := ⟨k - 1, by omega⟩
    have h := ih k (i + 1) (by omega) (by omega) (by omega)
    simp only [dialtoneref13_holder.l0, rd_nat, wrap_succ i (by omega)]
    rw [if_pos (by omega), if_pos (by omega), drop_cons53 l i (by omega), hold_cons, h]
    by_cases h1 : (l.getD i z53).f0.f0 ≤ n
    · rw [if_pos h1]
      by_cases h2 : n < (l.getD i z53).f0.f1
      · rw [if_pos h2, if_pos ⟨h1, h2⟩]
      · rw [if_neg h2, if_neg (fun x => h2 x.2)]
    · rw [if_neg h1, if_neg (fun x => h1 x.1)]
theorem holder_f (l : List S53) (n : Int) (hl : l.length < 1000000) (k : Nat) (hk : l.length < k) : dialtoneref13_holder.f k l n = some (hold l n) := by
  have := holder_l0 l n hl l.length k 0 (by omega) (by omega) hk
  simpa [dialtoneref13_holder.f] using this

theorem Range_f (f t : Int) : dialtoneref13_Range.f f t = some (rangeB f t) := by
  unfold dialtoneref13_Range.f rangeB
  by_cases h1 : 0 ≤ f <;> by_cases h2 : f < t <;> simp [h1, h2]
theorem carrier_f (c : Int) : dialtoneref13_carrier.f c = some (carrB c) := by
  unfold dialtoneref13_carrier.f carrB
  by_cases h1 : 0 ≤ c <;> simp [h1]
theorem valid_j1 (l : List S53) (hl : l.length < 1000000) (k i : Nat) (hi : i < l.length) (x : Bool) (r : Bool) (h : dialtoneref13_Valid.l0 k l ((i + 1 : Nat) : Int) = some r) :
    dialtoneref13_Valid.j1 (k + 1) l (i : Int) x = some (!x && (decide (i = 0) || (decide (bT (l.getD (i - 1) z53) ≤ bF (l.getD i z53)) && !(bF (l.getD i z53) == bT (l.getD (i - 1) z53) && bC (l.getD i z53) == bC (l.getD (i - 1) z53)))) && r) := by
  simp only [dialtoneref13_Valid.j1, rd_nat, wrap_succ i (by omega)]
  cases x with
  | true => simp
  | false =>
    rw [if_neg (by simp)]
    by_cases h0 : i = 0
    · subst h0
      rw [if_neg (by simp)]
      simpa using h
    · have e : wrap64 ((i : Int) - 1) = ((i - 1 : Nat) : Int) := by unfold wrap64; omega
      rw [if_pos (by omega), e, if_pos (by omega), if_pos (by omega), if_pos (by omega), if_pos (by omega), rd_nat]
      rw [h]
      dsimp only [bF, bT, bC]
      simp only [h0, decide_false, Bool.false_or, Bool.not_false, Bool.true_and]
      by_cases h1 : (l.getD (i - 1) z53).f0.f1 > (l.getD i z53).f0.f0
      · rw [if_pos h1, decide_eq_false (by omega)]
        simp
      · rw [if_neg h1, decide_eq_true (by omega)]
        by_cases h2 : (l.getD (i - 1) z53).f0.f1 = (l.getD i z53).f0.f0
        · rw [if_pos h2, beq_iff_eq.mpr h2.symm]
          by_cases h3 : (l.getD (i - 1) z53).f1 = (l.getD i z53).f1
          · rw [if_pos h3, beq_iff_eq.mpr h3.symm]; simp
          · rw [if_neg h3, beq_eq_false_iff_ne.mpr (fun x => h3 x.symm)]; simp
        · rw [if_neg h2, beq_eq_false_iff_ne.mpr (fun x => h2 x.symm)]; simp
/-- The block before the one at i. -/
def prevB (l : List S53) (i : Nat) : S53 := (b00 :: l).getD i z53
theorem valid_l0 (l : List S53) (hl : l.length < 1000000) (d : Nat) : ∀ (k i : Nat), l.length - i = d → i ≤ l.length → 2 * d + 1 < k → dialtoneref13_Valid.l0 k l (i : Int) = some (validFrom (prevB l i) (l.drop i)) := by
  induction d with
  | zero =>
    intro k i hd hi hk
    obtain ⟨k, rfl⟩ : ∃ m, k = m + 1 := ⟨k - 1, by omega⟩
    simp only [dialtoneref13_Valid.l0]
    rw [if_neg (by omega), List.drop_eq_nil_of_le (by omega)]
    rfl
  | succ d ih =>
    intro k i hd hi hk
    obtain ⟨k, rfl⟩ : ∃ m, k = m + 1 + 1 := ⟨k - 2, by omega⟩
    have h := ih k (i + 1) (by omega) (by omega) (by omega)
    have hp : prevB l (i + 1) = l.getD i z53 := by simp [prevB]
    rw [hp] at h
    have hj := fun x => valid_j1 l hl k i (by omega) x _ h
    rw [dialtoneref13_Valid.l0]
    simp only [rd_nat]
    rw [if_pos (by omega), if_pos (by omega), Range_f, drop_cons53 l i (by omega)]
    simp only [Option.bind_some, validFrom]
    have key : ∀ x : Bool, x = (!rangeB (bF (l.getD i z53)) (bT (l.getD i z53)) || !carrB (bC (l.getD i z53))) →
        dialtoneref13_Valid.j1 (k + 1) l (i : Int) x = some (!badB (prevB l i) (l.getD i z53) && validFrom (l.getD i z53) (l.drop (i + 1))) := by
      intro x hx
      rw [hj x]
      congr 2
      rw [hx]
      cases hr : rangeB (bF (l.getD i z53)) (bT (l.getD i z53)) with
      | false => simp only [badB, hr, Bool.not_false, Bool.true_or, Bool.not_true, Bool.false_and]
      | true =>
        cases hc : carrB (bC (l.getD i z53)) with
        | false => simp only [badB, hr, hc, Bool.not_false, Bool.true_or, Bool.or_true, Bool.not_true, Bool.false_and]
        | true =>
          simp only [badB, hr, hc, Bool.not_true, Bool.false_or, Bool.not_false, Bool.true_and]
          by_cases h0 : i = 0
          · subst h0
            have hr' := hr
            have hc' := hc
            simp only [rangeB, carrB, Bool.and_eq_true, decide_eq_true_eq] at hr' hc'
            have e : prevB l 0 = b00 := rfl
            rw [e, decide_eq_true rfl, Bool.true_or]
            have e1 : decide (bF (l.getD 0 z53) < bT b00) = false := decide_eq_false (by show ¬ _ < (0 : Int); omega)
            have e2 : (bC (l.getD 0 z53) == bC b00) = false := beq_eq_false_iff_ne.mpr (by show ¬ _ = (-1 : Int); omega)
            rw [e1, e2]
            simp
          · have e : prevB l i = l.getD (i - 1) z53 := by
              obtain ⟨m, rfl⟩ : ∃ m, i = m + 1 := ⟨i - 1, by omega⟩
              simp [prevB]
            rw [e, decide_eq_false h0, Bool.false_or, Bool.not_or]
            congr 1
            by_cases h1 : bF (l.getD i z53) < bT (l.getD (i - 1) z53)
            · rw [decide_eq_true h1, decide_eq_false (by omega)]; rfl
            · rw [decide_eq_false h1, decide_eq_true (by omega)]; rfl
    cases hr : rangeB (bF (l.getD i z53)) (bT (l.getD i z53)) with
    | false =>
      rw [if_neg (by simp)]
      exact key true (by rw [hr]; rfl)
    | true =>
      rw [if_pos rfl, carrier_f]
      exact key _ (by rw [hr]; rfl)
theorem Valid_f (l : List S53) (hl : l.length < 1000000) (k : Nat) (hk : 2 * l.length + 1 < k) : dialtoneref13_Valid.f k l = some (validP l) := by
  unfold dialtoneref13_Valid.f validP
  by_cases h : l.length ≤ 40
  · rw [if_neg (by omega), decide_eq_true h, Bool.true_and]
    have := valid_l0 l hl l.length k 0 (by omega) (by omega) (by omega)
    simpa [prevB] using this
  · rw [if_pos (by omega), decide_eq_false h, Bool.false_and]
end Go.Proofs.Ytdflgjgoikofaaa.Pl

namespace Go.Proofs.Ytdflgjgoikofaaa.Pl
open Go.RowKit Go.Proofs.Ytdflgjgoikofaaa.Ref

/-! ### equality -/
def eqB (a b : S53) : Bool := bF a == bF b && bT a == bT b && bC a == bC b
theorem eqB_iff (a b : S53) : eqB a b = true ↔ a = b := by
  obtain ⟨⟨f, t⟩, c⟩ := a
  obtain ⟨⟨f', t'⟩, c'⟩ := b
  simp [eqB, and_assoc]
def sameP : List S53 → List S53 → Bool
  | [], [] => true
  | a :: l, b :: m => eqB a b && sameP l m
  | _, _ => false
theorem sameP_iff (l : List S53) : ∀ m, sameP l m = true ↔ l = m := by
  induction l with
  | nil => intro m; cases m <;> simp [sameP]
  | cons a l ih => intro m; cases m <;> simp [sameP, ih, eqB_iff]
theorem same_l0 (l m : List S53) (hlm : l.length = m.length) (hl : l.length < 1000000) (d : Nat) : ∀ (k i : Nat), l.length - i = d → i ≤ l.length → d < k → dialtoneref13_Same.l0 k l m (i : Int) = some (sameP (l.drop i) (m.drop i)) := by
  induction d with
  | zero =>
    intro k i hd hi hk
    obtain ⟨k, rfl⟩ : ∃ m, k = m + 1 := ⟨k - 1, by omega⟩
    simp only [dialtoneref13_Same.l0]
    rw [if_neg (by omega), List.drop_eq_nil_of_le (by omega), List.drop_eq_nil_of_le (by omega)]
    rfl
  | succ d ih =>
    intro k i hd hi hk
    obtain ⟨k, rfl⟩ : ∃ m, k = m + 1 := ⟨k - 1, by omega⟩
    have h := ih k (i + 1) (by omega) (by omega) (by omega)
    simp only [dialtoneref13_Same.l0, rd_nat, wrap_succ i (by omega)]
    rw [if_pos (by omega), if_pos (by omega), if_pos (by omega), drop_cons53 l i (by omega), drop_cons53 m i (by omega), h]
    simp only [sameP, eqB]
    generalize l.getD i z53 = x
    generalize m.getD i z53 = y
    cases h1 : (x.f0.f0 == y.f0.f0) <;> cases h2 : (x.f0.f1 == y.f0.f1) <;> cases h3 : (x.f1 == y.f1) <;> simp
theorem Same_f (l m : List S53) (hl : l.length < 1000000) (k : Nat) (hk : l.length < k) : dialtoneref13_Same.f k l m = some (sameP l m) := by
  unfold dialtoneref13_Same.f
  by_cases h : l.length = m.length
  · rw [if_pos (by omega)]
    have := same_l0 l m h hl l.length k 0 (by omega) (by omega) (by omega)
    simpa using this
  · rw [if_neg (by omega)]
    have : sameP l m = false := by
      rw [← Bool.not_eq_true, sameP_iff]
      rintro rfl
      exact h rfl
    rw [this]
def eqR (a b : S26) : Bool := a.f0 == b.f0 && a.f1 == b.f1
theorem eqR_iff (a b : S26) : eqR a b = true ↔ a = b := by
  obtain ⟨f, t⟩ := a
  obtain ⟨f', t'⟩ := b
  simp [eqR]
def sameRP : List S26 → List S26 → Bool
  | [], [] => true
  | a :: l, b :: m => eqR a b && sameRP l m
  | _, _ => false
theorem sameRP_iff (l : List S26) : ∀ m, sameRP l m = true ↔ l = m := by
  induction l with
  | nil => intro m; cases m <;> simp [sameRP]
  | cons a l ih => intro m; cases m <;> simp [sameRP, ih, eqR_iff]
theorem drop_cons26 (l : List S26) (i : Nat) (h : i < l.length) : l.drop i = l.getD i z26 :: l.drop (i + 1) := by
  rw [List.drop_eq_getElem_cons h, List.getD_eq_getElem?_getD, List.getElem?_eq_getElem h]; rfl
theorem sameR_l0 (l m : List S26) (hlm : l.length = m.length) (hl : l.length < 1000000) (d : Nat) : ∀ (k i : Nat), l.length - i = d → i ≤ l.length → d < k → dialtoneref13_SameRanges.l0 k l m (i : Int) = some (sameRP (l.drop i) (m.drop i)) := by
  induction d with
  | zero =>
    intro k i hd hi hk
    obtain ⟨k, rfl⟩ : ∃ m, k = m + 1 := ⟨k - 1, by omega⟩
    simp only [dialtoneref13_SameRanges.l0]
    rw [if_neg (by omega), List.drop_eq_nil_of_le (by omega), List.drop_eq_nil_of_le (by omega)]
    rfl
  | succ d ih =>
    intro k i hd hi hk
    obtain ⟨k, rfl⟩ : ∃ m, k = m + 1 := ⟨k - 1, by omega⟩
    have h := ih k (i + 1) (by omega) (by omega) (by omega)
    simp only [dialtoneref13_SameRanges.l0, rd_nat26, wrap_succ i (by omega)]
    rw [if_pos (by omega), if_pos (by omega), if_pos (by omega), drop_cons26 l i (by omega), drop_cons26 m i (by omega), h]
    simp only [sameRP, eqR]
    generalize l.getD i z26 = x
    generalize m.getD i z26 = y
    cases h1 : (x.f0 == y.f0) <;> cases h2 : (x.f1 == y.f1) <;> simp
theorem SameRanges_f (l m : List S26) (hl : l.length < 1000000) (k : Nat) (hk : l.length < k) : dialtoneref13_SameRanges.f k l m = some (sameRP l m) := by
  unfold dialtoneref13_SameRanges.f
  by_cases h : l.length = m.length
  · rw [if_pos (by omega)]
    have := sameR_l0 l m h hl l.length k 0 (by omega) (by omega) (by omega)
    simpa using this
  · rw [if_neg (by omega)]
    have : sameRP l m = false := by
      rw [← Bool.not_eq_true, sameRP_iff]
      rintro rfl
      exact h rfl
    rw [this]

/-! ### finding and counting -/
theorem valid_mem {l : List S53} (h : validP l = true) {b : S53} (hb : b ∈ l) : 0 ≤ bF b ∧ bF b < bT b ∧ bT b ≤ 100000000 ∧ 0 ≤ bC b ∧ bC b ≤ 7 := by
  obtain ⟨i, hi, rfl⟩ := List.getElem_of_mem hb
  have := valid_at h i hi
  rwa [List.getD_eq_getElem?_getD, List.getElem?_eq_getElem hi] at this
theorem findP_hold (l : List S53) (n : Int) : findP l n = if validP l = true then (if hold l n < 0 then (0, false) else (hold l n, true)) else (0, false) := by
  unfold findP
  cases hv : validP l with
  | false => simp
  | true =>
    simp only [if_true]
    unfold hold
    cases hf : l.find? (holds n) with
    | none => simp
    | some b =>
      have := valid_mem hv (List.mem_of_find?_eq_some hf)
      simp only
      rw [if_neg (by omega)]
theorem Find_f (l : List S53) (n : Int) (hl : l.length < 1000000) (k : Nat) (hk : 2 * l.length + 1 < k) : dialtoneref13_Find.f k l n = some (findP l n) := by
  unfold dialtoneref13_Find.f
  rw [Valid_f l hl k hk, findP_hold]
  simp only [Option.bind_some]
  cases hv : validP l with
  | false => rw [if_neg (by simp), if_neg (by simp)]
  | true =>
    rw [if_pos rfl, if_pos rfl, holder_f l n hl k (by omega)]
    simp only [Option.bind_some]
    split <;> rfl
theorem count_l0 (l : List S53) (c : Int) (hv : validP l = true) (d : Nat) : ∀ (k i : Nat), l.length - i = d → i ≤ l.length → 2 * l.length + 2 + 2 * d < k → dialtoneref13_Count.l0 k l c (cnt c (l.take i)) (i : Int) = some (cnt c l) := by
  have hl : l.length < 1000000 := by have := validP_len hv; omega
  induction d with
  | zero =>
    intro k i hd hi hk
    obtain ⟨k, rfl⟩ : ∃ m, k = m + 1 + 1 := ⟨k - 2, by omega⟩
    simp only [dialtoneref13_Count.l0, dialtoneref13_Count.j1]
    rw [if_neg (by omega), if_neg (by simp), List.take_of_length_le (by omega)]
  | succ d ih =>
    intro k i hd hi hk
    obtain ⟨k, rfl⟩ : ∃ m, k = m + 1 + 1 := ⟨k - 2, by omega⟩
    have h := ih k (i + 1) (by omega) (by omega) (by omega)
    rw [cnt_take c l i (by omega)] at h
    have b1 := cnt_bound c l hv i hi
    have b2 := valid_at hv i (by omega)
    have h40 := validP_len hv
    simp only [dialtoneref13_Count.l0]
    rw [if_pos (by omega), Valid_f l hl _ (by omega)]
    simp only [Option.bind_some, dialtoneref13_Count.j1, rd_nat, wrap_succ i (by omega)]
    rw [if_pos hv, if_pos (by omega), if_pos (by omega)]
    dsimp only [bF, bT, bC] at b2 h ⊢
    by_cases hc : (l.getD i z53).f1 = c
    · rw [if_pos hc] at h ⊢
      have e : wrap64 (wrap64 (cnt c (l.take i) + (l.getD i z53).f0.f1) - (l.getD i z53).f0.f0) = cnt c (l.take i) + ((l.getD i z53).f0.f1 - (l.getD i z53).f0.f0) := by unfold wrap64; omega
      rw [e]
      exact h
    · rw [if_neg hc] at h ⊢
      simpa using h
theorem Count_f (l : List S53) (c : Int) (hl : l.length < 1000000) (k : Nat) (hk : 4 * l.length + 4 < k) : dialtoneref13_Count.f k l c = some (cntP l c) := by
  unfold dialtoneref13_Count.f cntP
  cases hv : validP l with
  | true =>
    have := count_l0 l c hv l.length k 0 (by omega) (by omega) (by omega)
    simpa [cnt] using this
  | false =>
    obtain ⟨k, rfl⟩ : ∃ m, k = m + 1 + 1 := ⟨k - 2, by omega⟩
    simp only [dialtoneref13_Count.l0]
    by_cases h0 : (0 : Int) < (l.length : Int)
    · rw [if_pos h0, Valid_f l hl _ (by omega), hv]
      simp [dialtoneref13_Count.j1]
    · rw [if_neg h0]
      simp [dialtoneref13_Count.j1]

/-! ### the free number -/
def freeRF : List S53 → Int → Int
  | [], n => n
  | b :: l, n => if bF b ≤ n ∧ n < bT b then freeRF l (bT b) else freeRF l n
def capR (v : Int) : Int × Bool := if v > 99999999 then (0, false) else (v, true)
def freeR (l : List S53) (n : Int) : Int × Bool := if validP l = true ∧ 0 ≤ n ∧ n ≤ 99999999 then capR (freeRF l n) else (0, false)
theorem free_l0 (l : List S53) (hl : l.length < 1000000) (d : Nat) : ∀ (k i : Nat) (n : Int), l.length - i = d → i ≤ l.length → d < k → dialtoneref13_Free.l0 k l n (i : Int) = some (capR (freeRF (l.drop i) n)) := by
  induction d with
  | zero =>
    intro k i n hd hi hk
    obtain ⟨k, rfl⟩ : ∃ m, k = m + 1 := ⟨k - 1, by omega⟩
    simp only [dialtoneref13_Free.l0]
    rw [if_neg (by omega), List.drop_eq_nil_of_le (by omega)]
    show _ = some (capR n)
    unfold capR
    by_cases h : n > 99999999
    · rw [if_pos h, if_pos h]
    · rw [if_neg h, if_neg h]
  | succ d ih =>
    intro k i n hd hi hk
    obtain ⟨k, rfl⟩ : ∃ m, k = m + 1 := ⟨k - 1, by omega⟩
    have h := fun n' => ih k (i + 1) n' (by omega) (by omega) (by omega)
    simp only [dialtoneref13_Free.l0, rd_nat, wrap_succ i (by omega)]
    rw [if_pos (by omega : (i : Int) < (l.length : Int)), if_pos (by omega : (0 : Int) ≤ (i : Int)), drop_cons53 l i (by omega)]
    simp only [freeRF, h]
    dsimp only [bF, bT]
    by_cases h1 : (l.getD i z53).f0.f0 ≤ n
    · rw [if_pos h1]
      by_cases h2 : n < (l.getD i z53).f0.f1
      · rw [if_pos h2, if_pos (And.intro h1 h2)]
      · rw [if_neg h2, if_neg (fun x => h2 x.2)]
    · rw [if_neg h1, if_neg (fun x => h1 x.1)]
theorem Free_f (l : List S53) (n : Int) (hl : l.length < 1000000) (k : Nat) (hk : 2 * l.length + 2 < k) : dialtoneref13_Free.f k l n = some (freeR l n) := by
  unfold dialtoneref13_Free.f freeR
  obtain ⟨k, rfl⟩ : ∃ m, k = m + 1 := ⟨k - 1, by omega⟩
  rw [Valid_f l hl (k + 1) (by omega)]
  simp only [Option.bind_some, dialtoneref13_Free.j0]
  have h := free_l0 l hl l.length k 0 n (by omega) (by omega) (by omega)
  simp only [List.drop_zero, Int.natCast_zero] at h
  cases hv : validP l with
  | false => simp
  | true =>
    simp only [if_true]
    by_cases h0 : n < 0
    · have h2 : ¬ (True ∧ 0 ≤ n ∧ n ≤ 99999999) := by omega
      rw [if_pos h0, if_neg h2]
    · have h3 : decide (n > 99999999) = false ∨ decide (n > 99999999) = true := by cases decide (n > 99999999) <;> simp
      rw [if_neg h0]
      rcases h3 with h3 | h3
      · have h2 : (True ∧ 0 ≤ n ∧ n ≤ 99999999) := by simp at h3; exact ⟨trivial, by omega, by omega⟩
        rw [h3, if_pos h2, if_neg (by simp)]
        exact h
      · have h2 : ¬ (True ∧ 0 ≤ n ∧ n ≤ 99999999) := by simp at h3; omega
        rw [h3, if_neg h2, if_pos rfl]

/-! ### picking -/
def pickP (c n : Int) : Int := (if c < 0 then -(c + 1) else c) % n
theorem pickP_range (c n : Int) (hn : 0 < n) : 0 ≤ pickP c n ∧ pickP c n < n := ⟨Int.emod_nonneg _ (by omega), Int.emod_lt_of_pos _ hn⟩
def I64 (c : Int) : Prop := -9223372036854775808 ≤ c ∧ c ≤ 9223372036854775807
theorem pick_f (c n : Int) (hc : I64 c) (hn : 0 < n) : dialtoneref13_pick.f c n = some (pickP c n) := by
  unfold I64 at hc
  unfold dialtoneref13_pick.f pickP
  have hn0 : ¬ n = 0 := by omega
  by_cases h : c < 0
  · rw [if_pos h, if_pos h, if_neg hn0]
    have e : wrap64 (-wrap64 (c + 1)) = -(c + 1) := by unfold wrap64; omega
    rw [e, Int.tmod_eq_emod_of_nonneg (by omega)]
  · rw [if_neg h, if_neg h, if_neg hn0, Int.tmod_eq_emod_of_nonneg (by omega)]
theorem pick_law (c n : Int) (hc : I64 c) (hn : 0 < n) : dialtonelaw13_pick.f c n = some (pickP c n) := pick_f c n hc hn

/-! ### near to an end -/
theorem tdiv_I64 (c m : Int) (hc : I64 c) (hm : 2 ≤ m) : wrap64 (c.tdiv m) = c.tdiv m ∧ I64 (c.tdiv m) := by
  unfold I64 at *
  have h1 : (c.tdiv m).natAbs ≤ c.natAbs := by
    rw [Int.natAbs_tdiv]
    exact Nat.div_le_self _ _
  have h2 : 2 * (c.tdiv m).natAbs ≤ c.natAbs := by
    rw [Int.natAbs_tdiv]
    have := Nat.div_mul_le_self c.natAbs m.natAbs
    have h3 : 2 ≤ m.natAbs := by omega
    calc 2 * (c.natAbs / m.natAbs) ≤ m.natAbs * (c.natAbs / m.natAbs) := Nat.mul_le_mul_right _ h3
      _ ≤ c.natAbs := by rw [Nat.mul_comm]; exact this
  unfold wrap64
  omega
def nearP (l : List S53) (which n : Int) : Int :=
  if l = [] ∨ pickP which 4 = 3 then n
  else if pickP (which.tdiv 4) 2 = 0 then bF (l.getD (pickP (which.tdiv 8) l.length).toNat z53) - 1 + pickP n 3
  else bT (l.getD (pickP (which.tdiv 8) l.length).toNat z53) - 1 + pickP n 3
theorem Near_f (l : List S53) (which n : Int) (hv : validP l = true) (hw : I64 which) (hn : I64 n) (k : Nat) (hk : 1 < k) : dialtoneref13_Near.f k l which n = some (nearP l which n) := by
  obtain ⟨k, rfl⟩ : ∃ m, k = m + 1 := ⟨k - 1, by omega⟩
  unfold dialtoneref13_Near.f nearP
  cases l with
  | nil => simp [dialtoneref13_Near.j0]
  | cons b l =>
    generalize hbl : (b :: l) = L at *
    have hne : L ≠ [] := by rw [← hbl]; simp
    have hpos : 0 < L.length := List.length_pos_iff.mpr hne
    obtain ⟨e4, i4⟩ := tdiv_I64 which 4 hw (by omega)
    obtain ⟨e8, i8⟩ := tdiv_I64 which 8 hw (by omega)
    rw [if_neg (by omega), pick_f which 4 hw (by omega)]
    simp only [Option.bind_some, dialtoneref13_Near.j0, e4, e8]
    rw [pick_f _ _ i8 (by omega), pick_f _ _ i4 (by omega), pick_f n 3 hn (by omega)]
    simp only [Option.bind_some]
    have hr := pickP_range (which.tdiv 8) L.length (by omega)
    have h3 := pickP_range n 3 (by omega)
    have hb := valid_at hv (pickP (which.tdiv 8) L.length).toNat (by omega)
    by_cases h : pickP which 4 = 3
    · rw [if_pos (beq_iff_eq.mpr h), if_pos (Or.inr h : L = [] ∨ pickP which 4 = 3)]
    · rw [if_neg (by rw [beq_iff_eq]; exact h), if_neg (by simp [hne, h] : ¬ (L = [] ∨ pickP which 4 = 3)), if_pos hr.1, if_pos hr.2]
      unfold rd_T53
      generalize L.getD (pickP (which.tdiv 8) L.length).toNat z53 = x at hb ⊢
      dsimp only [bF, bT, bC] at hb ⊢
      by_cases h2 : pickP (which.tdiv 4) 2 = 0
      · rw [if_pos h2, if_pos h2]
        congr 1
        unfold wrap64
        omega
      · rw [if_neg h2, if_neg h2]
        congr 1
        unfold wrap64
        omega
end Go.Proofs.Ytdflgjgoikofaaa.Pl

namespace Go.Proofs.Ytdflgjgoikofaaa.Pl
open Go.Proofs.Ytdflgjgoikofaaa.Ref
def giveR (l : List S53) (f t c : Int) : List S53 × Int := if validP l && rangeB f t && carrB c then refComb l [⟨⟨f, t⟩, c⟩] 0 (-1) (-1) else errR
def takeR (l : List S53) (f t : Int) : List S53 × Int := if validP l && rangeB f t then refComb l [⟨⟨f, t⟩, 0⟩] 1 (-1) (-1) else errR
def onlyRR (l : List S53) (f t : Int) : List S53 × Int := if validP l && rangeB f t then refComb l [⟨⟨f, t⟩, 0⟩] 2 (-1) (-1) else errR
def overlayR (a b : List S53) : List S53 × Int := if validP a && validP b then refComb a b 0 (-1) (-1) else errR
def swapRR (l : List S53) (f t : Int) : List S53 × Int := if validP l && carrB f && carrB t then refComb l [] 0 f t else errR
end Go.Proofs.Ytdflgjgoikofaaa.Pl

namespace Go.Proofs.Ytdflgjgoikofaaa.Pl
open Go.Proofs.Ytdflgjgoikofaaa.Ref
def bk (f t c : Int) : S53 := ⟨⟨f, t⟩, c⟩
def exM : List S53 := [bk 100 200 1, bk 200 300 2]
def exG : List S53 := [bk 100 150 1, bk 150 250 3, bk 250 300 2]
def exH : List S53 := [bk 100 300 1]
def exT : List S53 := [bk 101 200 1, bk 200 300 2]
def exO : List S53 := [bk 100 101 1]
def exV : List S53 := [bk 100 200 1, bk 200 400 2]
theorem exG_is : giveP exM 150 250 3 = (exG, 0) := by kernel_rfl
theorem exH_is : giveP exM 200 300 1 = (exH, 0) := by kernel_rfl
theorem exT_is : takeP exM 0 101 = (exT, 0) := by kernel_rfl
theorem exO_is : onlyR exM 0 101 = (exO, 0) := by kernel_rfl
theorem exV_is : overlayP exM [bk 250 400 2] = (exV, 0) := by kernel_rfl
theorem exS_is : swapR exM 2 1 = (exH, 0) := by kernel_rfl
theorem exD_is : differP exM exG = ([⟨150, 250⟩], 0) := by kernel_rfl
theorem exE_is : giveP exM 5 5 1 = ([], 130) := by kernel_rfl
theorem exA_is : freeP exM 0 = (0, true) := by kernel_rfl
theorem exB_is : freeP exM 100 = (300, true) := by kernel_rfl
theorem exC_is : freeP exM 99999999 = (99999999, true) := by kernel_rfl
theorem exN_is : cntP exM 1 = 100 := by kernel_rfl
theorem exW_is : validP exM = true := by kernel_rfl
theorem exX_is : validP [bk 100 200 1, bk 200 300 1] = false := by kernel_rfl
end Go.Proofs.Ytdflgjgoikofaaa.Pl

namespace Go.Proofs.Ytdflgjgoikofaaa.Pl
open Go.Proofs.Ytdflgjgoikofaaa.Ref

/-! ### 1. Who holds a number -/
theorem hold_c (b : S53) (l : List S53) (n : Int) : hold (b :: l) n = if bF b ≤ n ∧ n < bT b then bC b else hold l n := by
  unfold hold
  by_cases h : bF b ≤ n ∧ n < bT b
  · rw [List.find?_cons_of_pos (by simp [holds, h]), if_pos h]
  · rw [List.find?_cons_of_neg (by simp only [holds, Bool.and_eq_true, decide_eq_true_eq]; exact h), if_neg h]
theorem hold_n (n : Int) : hold [] n = -1 := rfl
/-- The last block, or what is given. -/
def lst : S53 → List S53 → S53
  | p, [] => p
  | _, b :: l => lst b l
theorem lst_snoc (l : List S53) (b : S53) : ∀ p, lst p (l ++ [b]) = b := by
  induction l with
  | nil => intro p; rfl
  | cons c l ih => intro p; exact ih c
theorem validFrom_snoc (l : List S53) (b : S53) : ∀ p, validFrom p (l ++ [b]) = (validFrom p l && !badB (lst p l) b) := by
  induction l with
  | nil => intro p; simp [validFrom, lst]
  | cons c l ih => intro p; simp only [List.cons_append, validFrom, lst, ih c, Bool.and_assoc]
theorem validFrom_cons {p b : S53} {l : List S53} (h : validFrom p (b :: l) = true) : (0 ≤ bF b ∧ bF b < bT b ∧ bT b ≤ 100000000 ∧ 0 ≤ bC b ∧ bC b ≤ 7 ∧ bT p ≤ bF b ∧ ¬ (bF b = bT p ∧ bC b = bC p)) ∧ validFrom b l = true := by
  simp only [validFrom, Bool.and_eq_true, Bool.not_eq_true'] at h
  exact ⟨badB_false h.1, h.2⟩
theorem hold_range (l : List S53) : ∀ p, validFrom p l = true → ∀ n, -1 ≤ hold l n ∧ hold l n ≤ 7 := by
  induction l with
  | nil => intro p _ n; rw [hold_n]; omega
  | cons b l ih =>
    intro p h n
    have h' := validFrom_cons h
    rw [hold_c]
    split
    · omega
    · exact ih b h'.2 n
theorem hold_low (l : List S53) : ∀ p, validFrom p l = true → ∀ n, n < bT p → hold l n = -1 := by
  induction l with
  | nil => intro p _ n _; rfl
  | cons b l ih =>
    intro p h n hn
    have h' := validFrom_cons h
    rw [hold_c, if_neg (by omega)]
    exact ih b h'.2 n (by omega)
theorem lst_top (l : List S53) : ∀ p, validFrom p l = true → bT p ≤ bT (lst p l) := by
  induction l with
  | nil => intro p _; exact Int.le_refl _
  | cons b l ih =>
    intro p h
    have h' := validFrom_cons h
    have := ih b h'.2
    simp only [lst]
    omega
theorem hold_high (l : List S53) : ∀ p, validFrom p l = true → ∀ n, bT (lst p l) ≤ n → hold l n = -1 := by
  induction l with
  | nil => intro p _ n _; rfl
  | cons b l ih =>
    intro p h n hn
    have h' := validFrom_cons h
    have := lst_top l b h'.2
    simp only [lst] at hn
    rw [hold_c, if_neg (by omega)]
    exact ih b h'.2 n hn
theorem hold_snoc (l : List S53) (b : S53) : ∀ p, validFrom p l = true → ∀ n, hold (l ++ [b]) n = if hold l n = -1 then (if bF b ≤ n ∧ n < bT b then bC b else -1) else hold l n := by
  induction l with
  | nil => intro p _ n; simp only [List.nil_append, hold_c, hold_n]; rfl
  | cons c l ih =>
    intro p h n
    have h' := validFrom_cons h
    simp only [List.cons_append, hold_c]
    by_cases hc : bF c ≤ n ∧ n < bT c
    · rw [if_pos hc, if_pos hc, if_neg (by omega)]
    · rw [if_neg hc, if_neg hc]
      exact ih c h'.2 n
theorem b00_T : bT b00 = 0 := rfl
theorem lst_le (l : List S53) : ∀ p, validFrom p l = true → bT p ≤ 100000000 → bT (lst p l) ≤ 100000000 := by
  induction l with
  | nil => intro p _ h; exact h
  | cons b l ih =>
    intro p h _
    have h' := validFrom_cons h
    exact ih b h'.2 (by omega)
theorem hold_out (l : List S53) (h : validFrom b00 l = true) (n : Int) (hn : n < 0 ∨ 100000000 ≤ n) : hold l n = -1 := by
  rcases hn with hn | hn
  · exact hold_low l b00 h n hn
  · exact hold_high l b00 h n (by have := lst_le l b00 h (by decide); omega)

/-! ### 2. Maps that hold alike are equal -/
theorem hold_first {p b : S53} {l : List S53} (h : validFrom p (b :: l) = true) (n : Int) (hn : n < bF b) : hold (b :: l) n = -1 := by
  have h' := validFrom_cons h
  rw [hold_c, if_neg (by omega)]
  exact hold_low l b h'.2 n (by omega)
theorem hold_second {p b : S53} {l : List S53} (h : validFrom p (b :: l) = true) : hold l (bT b) ≠ bC b := by
  have hb := validFrom_cons h
  cases l with
  | nil => rw [hold_n]; omega
  | cons c l =>
    have h' := validFrom_cons hb.2
    by_cases hc : bF c ≤ bT b
    · rw [hold_c, if_pos (by omega)]; omega
    · rw [hold_first hb.2 _ (by omega)]; omega
theorem valid_ext (l : List S53) : ∀ (p q : S53) (m : List S53), validFrom p l = true → validFrom q m = true → (∀ n, hold l n = hold m n) → l = m := by
  induction l with
  | nil =>
    intro p q m _ hm h
    cases m with
    | nil => rfl
    | cons c m =>
      have h' := validFrom_cons hm
      have := h (bF c)
      rw [hold_n, hold_c, if_pos (by omega)] at this
      omega
  | cons b l ih =>
    intro p q m hl hm h
    have hb := validFrom_cons hl
    cases m with
    | nil =>
      have := h (bF b)
      rw [hold_n, hold_c, if_pos (by omega)] at this
      omega
    | cons c m =>
      have hc := validFrom_cons hm
      have hF : bF b = bF c := by
        rcases Int.lt_trichotomy (bF b) (bF c) with hlt | heq | hgt
        · have := h (bF b)
          rw [hold_c, if_pos (by omega), hold_first hm _ hlt] at this
          omega
        · exact heq
        · have := h (bF c)
          rw [hold_first hl _ hgt, hold_c, if_pos (by omega)] at this
          omega
      have hC : bC b = bC c := by
        have := h (bF b)
        rw [hold_c, if_pos (by omega), hold_c, if_pos (by omega)] at this
        exact this
      have hT : bT b = bT c := by
        rcases Int.lt_trichotomy (bT b) (bT c) with hlt | heq | hgt
        · have := h (bT b)
          rw [hold_c, if_neg (by omega), hold_c, if_pos (by omega)] at this
          exact absurd (this.trans hC.symm) (hold_second hl)
        · exact heq
        · have := h (bT c)
          rw [hold_c, if_pos (by omega), hold_c, if_neg (by omega)] at this
          exact absurd (this.symm.trans hC) (hold_second hm)
      have hbc : b = c := by
        obtain ⟨⟨b1, b2⟩, b3⟩ := b
        obtain ⟨⟨c1, c2⟩, c3⟩ := c
        have hF : b1 = c1 := hF
        have hT : b2 = c2 := hT
        have hC : b3 = c3 := hC
        rw [hF, hT, hC]
      subst hbc
      rw [ih b b m hb.2 hc.2 (fun n => ?_)]
      by_cases hn : n < bT b
      · rw [hold_low l b hb.2 n hn, hold_low m b hc.2 n hn]
      · have := h n
        rwa [hold_c, if_neg (by omega), hold_c, if_neg (by omega)] at this

/-! ### 3. What combining pieces does -/
/-- Pieces that lie end to end from f to g. -/
def Part : Int → List Pc → Int → Prop
  | f, [], g => f = g
  | f, p :: L, g => p.f = f ∧ p.f < p.t ∧ Part p.t L g
theorem part_le (L : List Pc) : ∀ f g, Part f L g → f ≤ g := by
  induction L with
  | nil => intro f g h; exact Int.le_of_eq h
  | cons p L ih => intro f g h; have := ih _ _ h.2.2; have := h.1; have := h.2.1; omega
theorem part_snoc (L : List Pc) (p : Pc) : ∀ f g, Part f (L ++ [p]) g → ∃ e, Part f L e ∧ p.f = e ∧ p.f < p.t ∧ p.t = g := by
  induction L with
  | nil => intro f g h; exact ⟨f, rfl, h.1, h.2.1, h.2.2⟩
  | cons q L ih =>
    intro f g h
    obtain ⟨e, h1, h2⟩ := ih _ _ h.2.2
    exact ⟨e, ⟨h.1, h.2.1, h1⟩, h2⟩
/-- What the pieces say of a number. -/
def says (h : Int → Int → Int) : List Pc → Int → Int
  | [], _ => -1
  | p :: L, n => if p.f ≤ n ∧ n < p.t then h p.x p.y else says h L n
theorem says_low (h : Int → Int → Int) (L : List Pc) : ∀ f g, Part f L g → ∀ n, n < f → says h L n = -1 := by
  induction L with
  | nil => intro f g _ n _; rfl
  | cons p L ih =>
    intro f g hp n hn
    have h1 := hp.1
    have h2 := hp.2.1
    simp only [says]
    rw [if_neg (by omega)]
    exact ih _ _ hp.2.2 n (by omega)
theorem says_high (h : Int → Int → Int) (L : List Pc) : ∀ f g, Part f L g → ∀ n, g ≤ n → says h L n = -1 := by
  induction L with
  | nil => intro f g _ n _; rfl
  | cons p L ih =>
    intro f g hp n hn
    have h1 := part_le _ _ _ hp.2.2
    simp only [says]
    rw [if_neg (by omega)]
    exact ih _ _ hp.2.2 n hn
theorem says_snoc (h : Int → Int → Int) (L : List Pc) (p : Pc) : ∀ f, Part f L p.f → ∀ n, says h (L ++ [p]) n = if p.f ≤ n ∧ n < p.t then h p.x p.y else says h L n := by
  induction L with
  | nil => intro f _ n; rfl
  | cons q L ih =>
    intro f hp n
    have h1 := part_le _ _ _ hp.2.2
    simp only [List.cons_append, says]
    rw [ih _ hp.2.2 n]
    by_cases hq : q.f ≤ n ∧ n < q.t
    · rw [if_pos hq, if_pos hq, if_neg (by omega)]
    · rw [if_neg hq, if_neg hq]
theorem lastB_snoc (l : List S53) (b : S53) : lastB (l ++ [b]) = b := by
  have e : (((l ++ [b]).length : Int) - 1).toNat = l.length := by simp
  unfold lastB rd_T53
  rw [e, List.getD_eq_getElem?_getD, List.getElem?_append_right (Nat.le_refl _)]
  simp
theorem set_snoc (l : List S53) (b c : S53) : (l ++ [b]).set ((l ++ [b]).length - 1) c = l ++ [c] := by
  have e : (l ++ [b]).length - 1 = l.length := by simp
  rw [e, List.set_append_right _ _ (Nat.le_refl _)]
  simp
theorem snoc_cases (l : List S53) : l = [] ∨ ∃ i b, l = i ++ [b] := by
  rcases List.eq_nil_or_concat l with h | ⟨i, b, h⟩
  · exact .inl h
  · exact .inr ⟨i, b, by simpa using h⟩
theorem fold_snoc_ind {P : List Pc → Prop} (h0 : P []) (h1 : ∀ L p, P L → P (L ++ [p])) (L : List Pc) : P L := by
  have : ∀ n (L : List Pc), L.length = n → P L := by
    intro n
    induction n with
    | zero => intro L h; rw [List.eq_nil_of_length_eq_zero h]; exact h0
    | succ n ih =>
      intro L h
      rcases List.eq_nil_or_concat L with h' | ⟨i, b, h'⟩
      · rw [h'] at h; simp at h
      · have e : L = i ++ [b] := by simpa using h'
        subst e
        exact h1 i b (ih i (by simpa using h))
  exact this _ L rfl
theorem comb_law (h : Int → Int → Int) (hh : ∀ x y, -1 ≤ x → x ≤ 7 → -1 ≤ y → y ≤ 7 → -1 ≤ h x y ∧ h x y ≤ 7) (L : List Pc) :
    ∀ g, Part 0 L g → g ≤ 100000000 → (∀ p ∈ L, -1 ≤ p.x ∧ p.x ≤ 7 ∧ -1 ≤ p.y ∧ p.y ≤ 7) →
      validFrom b00 (combP h L) = true ∧ bT (lst b00 (combP h L)) ≤ g ∧ ∀ n, hold (combP h L) n = says h L n := by
  refine fold_snoc_ind (P := fun L => ∀ g, Part 0 L g → g ≤ 100000000 → (∀ p ∈ L, -1 ≤ p.x ∧ p.x ≤ 7 ∧ -1 ≤ p.y ∧ p.y ≤ 7) → validFrom b00 (combP h L) = true ∧ bT (lst b00 (combP h L)) ≤ g ∧ ∀ n, hold (combP h L) n = says h L n) ?_ ?_ L
  · intro g hp _ _
    exact ⟨rfl, part_le _ _ _ hp, fun n => rfl⟩
  · intro L p ih g hp hg hr
    obtain ⟨e, hL, rfl, hlt, rfl⟩ := part_snoc L p 0 g hp
    have h0 := part_le _ _ _ hL
    obtain ⟨h1, h2, h3⟩ := ih p.f hL (by omega) (fun q hq => hr q (by simp [hq]))
    have hk := hr p (by simp)
    have hk := hh p.x p.y hk.1 hk.2.1 hk.2.2.1 hk.2.2.2
    have hs := says_snoc h L p 0 hL
    rw [combP_snoc]
    unfold stepC
    generalize combP h L = out at *
    by_cases hm : h p.x p.y = -1
    · rw [if_pos hm]
      refine ⟨h1, by omega, fun n => ?_⟩
      rw [hs n]
      by_cases hn : p.f ≤ n ∧ n < p.t
      · rw [if_pos hn, hm]; exact hold_high out b00 h1 n (by omega)
      · rw [if_neg hn]; exact h3 n
    · rw [if_neg hm]
      have happ : joins out p.f (h p.x p.y) = false → validFrom b00 (out ++ [⟨⟨p.f, p.t⟩, h p.x p.y⟩]) = true ∧ bT (lst b00 (out ++ [⟨⟨p.f, p.t⟩, h p.x p.y⟩])) ≤ p.t ∧ ∀ n, hold (out ++ [⟨⟨p.f, p.t⟩, h p.x p.y⟩]) n = says h (L ++ [p]) n := by
        intro hj
        refine ⟨?_, by rw [lst_snoc]; exact Int.le_refl _, fun n => ?_⟩
        · rw [validFrom_snoc, h1, Bool.true_and, Bool.not_eq_true']
          refine badB_of ⟨by show 0 ≤ p.f; omega, hlt, by show p.t ≤ 100000000; omega, by show 0 ≤ h p.x p.y; omega, by show h p.x p.y ≤ 7; omega, h2, ?_⟩
          rintro ⟨hf, hc⟩
          rcases snoc_cases out with rfl | ⟨i, b, rfl⟩
          · simp only [lst] at hc
            have hc : h p.x p.y = -1 := hc
            omega
          · rw [lst_snoc] at hf hc
            have hf : p.f = bT b := hf
            have hc : h p.x p.y = bC b := hc
            simp only [joins, lastB_snoc] at hj
            rw [← hf, ← hc] at hj
            simp at hj
        · rw [hold_snoc out _ b00 h1 n, hs n, h3 n]
          show (if says h L n = -1 then (if p.f ≤ n ∧ n < p.t then h p.x p.y else -1) else says h L n) = _
          by_cases hn : p.f ≤ n ∧ n < p.t
          · rw [if_pos hn, if_pos hn, if_pos (says_high h L 0 p.f hL n hn.1)]
          · rw [if_neg hn, if_neg hn]
            split
            · rename_i e; exact e.symm
            · rfl
      cases hj : joins out p.f (h p.x p.y) with
      | false => rw [if_neg (by simp)]; exact happ hj
      | true =>
        rw [if_pos rfl]
        rcases snoc_cases out with rfl | ⟨i, b, rfl⟩
        · simp [joins] at hj
        · simp only [joins, lastB_snoc, Bool.and_eq_true, beq_iff_eq, decide_eq_true_eq] at hj
          have hT : bT b = p.f := hj.1.2
          have hC : bC b = h p.x p.y := hj.2
          rw [set_snoc, lastB_snoc]
          rw [validFrom_snoc, Bool.and_eq_true, Bool.not_eq_true'] at h1
          have hbb := badB_false h1.2
          have hv : validFrom b00 (i ++ [⟨⟨bF b, p.t⟩, bC b⟩]) = true := by
            rw [validFrom_snoc, h1.1, Bool.true_and, Bool.not_eq_true']
            exact badB_of ⟨hbb.1, by show bF b < p.t; omega, by show p.t ≤ 100000000; omega, hbb.2.2.2.1, hbb.2.2.2.2.1, hbb.2.2.2.2.2.1, hbb.2.2.2.2.2.2⟩
          refine ⟨hv, by rw [lst_snoc]; exact Int.le_refl _, fun n => ?_⟩
          have h3n := h3 n
          rw [hold_snoc i _ b00 h1.1 n] at h3n ⊢
          rw [hs n, ← h3n]
          show (if hold i n = -1 then (if bF b ≤ n ∧ n < p.t then bC b else -1) else hold i n) = _
          have hhi := hold_high i b00 h1.1
          by_cases hn : p.f ≤ n ∧ n < p.t
          · rw [if_pos hn, if_pos (hhi n (by omega)), if_pos (by omega), hC]
          · rw [if_neg hn]
            by_cases hb2 : bF b ≤ n ∧ n < bT b
            · rw [if_pos hb2, if_pos (by omega : bF b ≤ n ∧ n < p.t)]
            · rw [if_neg hb2, if_neg (by omega : ¬ (bF b ≤ n ∧ n < p.t))]
end Go.Proofs.Ytdflgjgoikofaaa.Pl

namespace Go.Proofs.Ytdflgjgoikofaaa.Pl
open Go.Proofs.Ytdflgjgoikofaaa.Ref

/-! ### 1. The pieces -/
theorem atP_law (l : List S53) : ∀ p f, validFrom p l = true → f ≤ 99999999 →
    (∃ q, validFrom q (atP l f).1 = true) ∧ (∀ n, f ≤ n → hold (atP l f).1 n = hold l n) ∧ (∀ n, f ≤ n → n < (atP l f).2.2 → hold l n = (atP l f).2.1) ∧ (atP l f).2.2 ≤ 100000000 := by
  induction l with
  | nil => intro p f _ _; exact ⟨⟨p, rfl⟩, fun n _ => rfl, fun n _ _ => rfl, Int.le_refl _⟩
  | cons b l ih =>
    intro p f h hf
    have hb := validFrom_cons h
    simp only [atP]
    by_cases h1 : bT b ≤ f
    · rw [if_pos h1]
      obtain ⟨i1, i2, i3, i4⟩ := ih b f hb.2 hf
      refine ⟨i1, fun n hn => ?_, fun n hn hn2 => ?_, i4⟩
      · rw [i2 n hn, hold_c, if_neg (by omega)]
      · rw [hold_c, if_neg (by omega)]; exact i3 n hn hn2
    · rw [if_neg h1]
      by_cases h2 : f < bF b
      · rw [if_pos h2]
        exact ⟨⟨p, h⟩, fun n _ => rfl, fun n _ hn => hold_first h n hn, by show bF b ≤ 100000000; omega⟩
      · rw [if_neg h2]
        refine ⟨⟨p, h⟩, fun n _ => rfl, fun n hn hn2 => ?_, hb.1.2.2.1⟩
        have hn2 : n < bT b := hn2
        rw [hold_c, if_pos (by omega)]
theorem part_ge (L : List Pc) : ∀ f g, Part f L g → ∀ r ∈ L, f ≤ r.f ∧ r.f < r.t ∧ r.t ≤ g := by
  induction L with
  | nil => intro f g _ r hr; simp at hr
  | cons s L ih =>
    intro f g h r hr
    have h1 := h.1
    have h2 := h.2.1
    have h3 := part_le _ _ _ h.2.2
    rcases List.mem_cons.1 hr with rfl | hr
    · omega
    · have := ih _ _ h.2.2 r hr; omega
/-- The pieces say what two maps hold. -/
def Tells (a b : List S53) (L : List Pc) : Prop := ∀ p ∈ L, ∀ n, p.f ≤ n → n < p.t → hold a n = p.x ∧ hold b n = p.y
theorem pcs_law (k : Nat) : ∀ (a b : List S53) (f : Int) (L : List Pc) (p q : S53), pcs k a b f = some L → validFrom p a = true → validFrom q b = true → f ≤ 100000000 →
    Part f L 100000000 ∧ ∀ r ∈ L, ∀ n, r.f ≤ n → n < r.t → hold a n = r.x ∧ hold b n = r.y := by
  induction k with
  | zero => intro a b f L p q h; simp [pcs] at h
  | succ k ih =>
    intro a b f L p q h ha hb hf
    simp only [pcs] at h
    by_cases h1 : f ≤ 99999999
    · rw [if_pos h1] at h
      obtain ⟨⟨p', a1⟩, a2, a3, a4⟩ := atP_law a p f ha h1
      obtain ⟨⟨q', b1⟩, b2, b3, b4⟩ := atP_law b q f hb h1
      have sa := (atP_step a f h1).1
      have sb := (atP_step b f h1).1
      obtain ⟨M, hM, rfl⟩ := Option.map_eq_some_iff.1 h
      obtain ⟨i1, i2⟩ := ih _ _ _ M p' q' hM a1 b1 (by omega)
      refine ⟨⟨rfl, by show f < min _ _; omega, i1⟩, ?_⟩
      intro r hr n hn hn2
      rcases List.mem_cons.1 hr with rfl | hr
      · have hn : f ≤ n := hn
        have hn2 : n < min (atP a f).2.2 (atP b f).2.2 := hn2
        exact ⟨a3 n hn (by omega), b3 n hn (by omega)⟩
      · have hge : f ≤ n := by
          have := part_ge M _ _ i1 r hr
          omega
        have := i2 r hr n hn hn2
        rw [a2 n hge, b2 n hge] at this
        exact this
    · rw [if_neg h1] at h
      simp only [Option.some.injEq] at h
      subst h
      exact ⟨by show f = 100000000; omega, fun r hr => by simp at hr⟩
theorem says_at (h : Int → Int → Int) (a b : List S53) (L : List Pc) : ∀ f g, Part f L g → (∀ r ∈ L, ∀ n, r.f ≤ n → n < r.t → hold a n = r.x ∧ hold b n = r.y) → ∀ n, f ≤ n → n < g → says h L n = h (hold a n) (hold b n) := by
  induction L with
  | nil => intro f g hp _ n h1 h2; have : f = g := hp; omega
  | cons p L ih =>
    intro f g hp ht n h1 h2
    simp only [says]
    by_cases hn : p.f ≤ n ∧ n < p.t
    · rw [if_pos hn]
      obtain ⟨e1, e2⟩ := ht p (by simp) n hn.1 hn.2
      rw [e1, e2]
    · rw [if_neg hn]
      have := hp.1
      exact ih _ _ hp.2.2 (fun r hr => ht r (by simp [hr])) n (by omega) h2
/-- Combining two maps, number for number. -/
theorem comb_says (h : Int → Int → Int) (hh : ∀ x y, -1 ≤ x → x ≤ 7 → -1 ≤ y → y ≤ 7 → -1 ≤ h x y ∧ h x y ≤ 7) (a b : List S53) (ha : validFrom b00 a = true) (hb : validFrom b00 b = true) (L : List Pc) (hL : Part 0 L 100000000)
    (ht : ∀ r ∈ L, ∀ n, r.f ≤ n → n < r.t → hold a n = r.x ∧ hold b n = r.y) :
    validFrom b00 (combP h L) = true ∧ ∀ n, hold (combP h L) n = if 0 ≤ n ∧ n < 100000000 then h (hold a n) (hold b n) else -1 := by
  obtain ⟨h1, _, h3⟩ := comb_law h hh L 100000000 hL (Int.le_refl _) (fun p hp => by
    have hpl := part_ge L _ _ hL p hp
    obtain ⟨e1, e2⟩ := ht p hp p.f (Int.le_refl _) hpl.2.1
    have := hold_range a b00 ha p.f
    have := hold_range b b00 hb p.f
    omega)
  refine ⟨h1, fun n => ?_⟩
  rw [h3 n]
  split
  · rename_i hn
    exact says_at h a b L 0 100000000 hL ht n hn.1 hn.2
  · rename_i hn
    rcases Int.lt_or_le n 0 with hlt | hge
    · exact says_low h L _ _ hL n hlt
    · exact says_high h L _ _ hL n (by omega)
theorem pieces_law (a b : List S53) (ha : validFrom b00 a = true) (hb : validFrom b00 b = true) : Part 0 (pieces a b) 100000000 ∧ ∀ r ∈ pieces a b, ∀ n, r.f ≤ n → n < r.t → hold a n = r.x ∧ hold b n = r.y :=
  pcs_law _ a b 0 _ b00 b00 (pieces_some a b).1 ha hb (by decide)

/-! ### 2. The reference's cells -/
/-- Ascending, each greater than the one before. -/
def Asc : List Int → Prop
  | [] => True
  | [_] => True
  | x :: y :: l => x < y ∧ Asc (y :: l)
theorem asc_tail {x : Int} {l : List Int} (h : Asc (x :: l)) : Asc l := by
  cases l with
  | nil => trivial
  | cons y l => exact h.2
theorem asc_lt (l : List Int) : ∀ x, Asc (x :: l) → ∀ y ∈ l, x < y := by
  induction l with
  | nil => intro x _ y hy; simp at hy
  | cons z l ih =>
    intro x h y hy
    rcases List.mem_cons.1 hy with rfl | hy
    · exact h.1
    · have := ih z h.2 y hy; have := h.1; omega
theorem asc_of {x : Int} {l : List Int} (h : Asc l) (hx : ∀ y ∈ l, x < y) : Asc (x :: l) := by
  cases l with
  | nil => trivial
  | cons y l => exact ⟨hx y (by simp), h⟩
theorem putP_mem (l : List Int) (n y : Int) : y ∈ putP l n ↔ y = n ∨ y ∈ l := by
  induction l with
  | nil => simp [putP]
  | cons x l ih =>
    simp only [putP]
    split
    · simp only [List.mem_cons, ih]
      constructor
      · rintro (h | h | h)
        · exact .inr (.inl h)
        · exact .inl h
        · exact .inr (.inr h)
      · rintro (h | h | h)
        · exact .inr (.inl h)
        · exact .inl h
        · exact .inr (.inr h)
    · split
      · rename_i h1 h2
        subst h2
        simp only [List.mem_cons]
        constructor
        · exact fun h => .inr h
        · rintro (h | h)
          · exact .inl h
          · exact h
      · simp only [List.mem_cons]
theorem putP_asc (l : List Int) (n : Int) (h : Asc l) : Asc (putP l n) := by
  induction l with
  | nil => trivial
  | cons x l ih =>
    simp only [putP]
    split
    · rename_i h1
      refine asc_of (ih (asc_tail h)) (fun y hy => ?_)
      rcases (putP_mem l n y).1 hy with rfl | hy
      · exact h1
      · exact asc_lt l x h y hy
    · split
      · exact h
      · rename_i h1 h2
        exact ⟨by omega, h⟩
theorem edgesF_mem (l : List S53) : ∀ o y, y ∈ edgesF o l ↔ y ∈ o ∨ ∃ b ∈ l, y = bF b ∨ y = bT b := by
  induction l with
  | nil => intro o y; simp [edgesF]
  | cons c l ih =>
    intro o y
    have := ih (putP (putP o (bF c)) (bT c)) y
    simp only [edgesF, List.foldl_cons] at this ⊢
    rw [this, putP_mem, putP_mem]
    simp only [List.mem_cons, exists_eq_or_imp]
    constructor
    · rintro ((h | h | h) | h)
      · exact .inr (.inl (.inr h))
      · exact .inr (.inl (.inl h))
      · exact .inl h
      · exact .inr (.inr h)
    · rintro (h | (h | h) | h)
      · exact .inl (.inr (.inr h))
      · exact .inl (.inr (.inl h))
      · exact .inl (.inl h)
      · exact .inr h
theorem edgesF_asc (l : List S53) : ∀ o, Asc o → Asc (edgesF o l) := by
  induction l with
  | nil => intro o h; exact h
  | cons c l ih => intro o h; exact ih _ (putP_asc _ _ (putP_asc _ _ h))
theorem valid_mem_bounds (l : List S53) : ∀ p, validFrom p l = true → 0 ≤ bT p → ∀ b ∈ l, 0 ≤ bF b ∧ bF b < bT b ∧ bT b ≤ 100000000 := by
  induction l with
  | nil => intro p _ _ b hb; simp at hb
  | cons c l ih =>
    intro p h _ b hb
    have hc := validFrom_cons h
    rcases List.mem_cons.1 hb with rfl | hb
    · omega
    · exact ih c hc.2 (by omega) b hb
/-- Between two edges that are next to each other a map holds alike. -/
theorem hold_same (l : List S53) : ∀ p, validFrom p l = true → ∀ e e' n, e ≤ n → n < e' → (∀ b ∈ l, ¬ (e < bF b ∧ bF b < e') ∧ ¬ (e < bT b ∧ bT b < e')) → hold l n = hold l e := by
  induction l with
  | nil => intro p _ e e' n _ _ _; rfl
  | cons b l ih =>
    intro p h e e' n h1 h2 hx
    have hb := validFrom_cons h
    have hxb := hx b (by simp)
    rw [hold_c, hold_c]
    by_cases hn : bF b ≤ n ∧ n < bT b
    · rw [if_pos hn, if_pos (by omega)]
    · rw [if_neg hn, if_neg (by omega)]
      exact ih b hb.2 e e' n h1 h2 (fun c hc => hx c (by simp [hc]))
/-- The last number of a list. -/
def lastI : List Int → Int
  | [] => 0
  | [x] => x
  | _ :: y :: l => lastI (y :: l)
theorem cells_law (a b : List S53) (ha : validFrom b00 a = true) (hb : validFrom b00 b = true) (E : List Int) : ∀ e, Asc (e :: E) → (∀ c, c ∈ a ∨ c ∈ b → (bF c < e ∨ bF c ∈ e :: E) ∧ (bT c < e ∨ bT c ∈ e :: E)) → ∀ g, lastI (e :: E) = g →
    Part e (cellsE a b (e :: E)) g ∧ ∀ r ∈ cellsE a b (e :: E), ∀ n, r.f ≤ n → n < r.t → hold a n = r.x ∧ hold b n = r.y := by
  induction E with
  | nil => intro e _ _ g hg; exact ⟨hg, fun r hr => by simp [cellsE] at hr⟩
  | cons e' E ih =>
    intro e hA hm g hg
    have hlt := hA.1
    have hm' : ∀ c, c ∈ a ∨ c ∈ b → (bF c < e' ∨ bF c ∈ e' :: E) ∧ (bT c < e' ∨ bT c ∈ e' :: E) := by
      intro c hc
      obtain ⟨h1, h2⟩ := hm c hc
      constructor
      · rcases h1 with h1 | h1
        · exact .inl (by omega)
        · rcases List.mem_cons.1 h1 with h1 | h1
          · exact .inl (by omega)
          · exact .inr h1
      · rcases h2 with h2 | h2
        · exact .inl (by omega)
        · rcases List.mem_cons.1 h2 with h2 | h2
          · exact .inl (by omega)
          · exact .inr h2
    obtain ⟨i1, i2⟩ := ih e' (asc_tail hA) hm' g hg
    refine ⟨⟨rfl, hlt, i1⟩, ?_⟩
    intro r hr n h1 h2
    simp only [cellsE] at hr
    rcases List.mem_cons.1 hr with rfl | hr
    · have h1 : e ≤ n := h1
      have h2 : n < e' := h2
      have key : ∀ c, c ∈ a ∨ c ∈ b → ¬ (e < bF c ∧ bF c < e') ∧ ¬ (e < bT c ∧ bT c < e') := by
        intro c hc
        obtain ⟨k1, k2⟩ := hm' c hc
        obtain ⟨m1, m2⟩ := hm c hc
        have hl := asc_lt E e' (asc_tail hA)
        constructor
        · rintro ⟨x1, x2⟩
          rcases m1 with m1 | m1
          · omega
          · rcases List.mem_cons.1 m1 with m1 | m1
            · omega
            · rcases List.mem_cons.1 m1 with m1 | m1
              · omega
              · have := hl _ m1; omega
        · rintro ⟨x1, x2⟩
          rcases m2 with m2 | m2
          · omega
          · rcases List.mem_cons.1 m2 with m2 | m2
            · omega
            · rcases List.mem_cons.1 m2 with m2 | m2
              · omega
              · have := hl _ m2; omega
      exact ⟨hold_same a b00 ha e e' n h1 h2 (fun c hc => key c (.inl hc)), hold_same b b00 hb e e' n h1 h2 (fun c hc => key c (.inr hc))⟩
    · exact i2 r hr n h1 h2
end Go.Proofs.Ytdflgjgoikofaaa.Pl

namespace Go.Proofs.Ytdflgjgoikofaaa.Pl
open Go.Proofs.Ytdflgjgoikofaaa.Ref

/-! ### 1. The reference's cells are pieces -/
theorem asc_head {e : Int} {E : List Int} (h : Asc (e :: E)) (h0 : (0 : Int) ∈ e :: E) (hn : ∀ y ∈ e :: E, 0 ≤ y) : e = 0 := by
  rcases List.mem_cons.1 h0 with h0 | h0
  · exact h0.symm
  · have := asc_lt E e h 0 h0
    have := hn e (by simp)
    omega
theorem asc_last (g : Int) (E : List Int) : ∀ e, Asc (e :: E) → g ∈ e :: E → (∀ y ∈ e :: E, y ≤ g) → lastI (e :: E) = g := by
  induction E with
  | nil => intro e _ hg _; simp at hg; exact hg.symm
  | cons e' E ih =>
    intro e h hg hle
    refine ih e' (asc_tail h) ?_ (fun y hy => hle y (by simp only [List.mem_cons] at hy ⊢; exact .inr hy))
    rcases List.mem_cons.1 hg with rfl | hg
    · have := hle e' (by simp); have := h.1; omega
    · exact hg
theorem refcells_law (a b : List S53) (ha : validFrom b00 a = true) (hb : validFrom b00 b = true) : Part 0 (cellsE a b (edgesP a b)) 100000000 ∧ ∀ r ∈ cellsE a b (edgesP a b), ∀ n, r.f ≤ n → n < r.t → hold a n = r.x ∧ hold b n = r.y := by
  have hmem : ∀ y, y ∈ edgesP a b ↔ (y = 0 ∨ y = 100000000) ∨ (∃ c ∈ a, y = bF c ∨ y = bT c) ∨ (∃ c ∈ b, y = bF c ∨ y = bT c) := by
    intro y
    simp only [edgesP, edgesF_mem, List.mem_cons, List.not_mem_nil, or_false]
    constructor
    · rintro ((h | h) | h)
      · exact .inl h
      · exact .inr (.inl h)
      · exact .inr (.inr h)
    · rintro (h | h | h)
      · exact .inl (.inl h)
      · exact .inl (.inr h)
      · exact .inr h
  have hasc : Asc (edgesP a b) := edgesF_asc _ _ (edgesF_asc _ _ ⟨by decide, trivial⟩)
  have hba := valid_mem_bounds a b00 ha (by decide)
  have hbb := valid_mem_bounds b b00 hb (by decide)
  have hlo : ∀ y ∈ edgesP a b, 0 ≤ y ∧ y ≤ 100000000 := by
    intro y hy
    rcases (hmem y).1 hy with (h | h) | ⟨c, hc, h⟩ | ⟨c, hc, h⟩
    · omega
    · omega
    · have := hba c hc; omega
    · have := hbb c hc; omega
  have h0 := (hmem 0).2 (.inl (.inl rfl))
  have hN := (hmem 100000000).2 (.inl (.inr rfl))
  have hall : ∀ c, c ∈ a ∨ c ∈ b → bF c ∈ edgesP a b ∧ bT c ∈ edgesP a b := by
    rintro c (hc | hc)
    · exact ⟨(hmem _).2 (.inr (.inl ⟨c, hc, .inl rfl⟩)), (hmem _).2 (.inr (.inl ⟨c, hc, .inr rfl⟩))⟩
    · exact ⟨(hmem _).2 (.inr (.inr ⟨c, hc, .inl rfl⟩)), (hmem _).2 (.inr (.inr ⟨c, hc, .inr rfl⟩))⟩
  generalize edgesP a b = E at *
  cases E with
  | nil => simp at h0
  | cons e E =>
    have he := asc_head hasc h0 (fun y hy => (hlo y hy).1)
    subst he
    exact cells_law a b ha hb E 0 hasc (fun c hc => ⟨.inr (hall c hc).1, .inr (hall c hc).2⟩) _ (asc_last _ E 0 hasc hN (fun y hy => (hlo y hy).2))

/-! ### 2. The reference's operations are the program's -/
theorem validP_from {l : List S53} (h : validP l = true) : validFrom b00 l = true := by rw [validP, Bool.and_eq_true] at h; exact h.2
theorem comb_ref (h h' : Int → Int → Int) (hh : ∀ x y, -1 ≤ x → x ≤ 7 → -1 ≤ y → y ≤ 7 → -1 ≤ h x y ∧ h x y ≤ 7) (a b : List S53) (ha : validFrom b00 a = true) (hb : validFrom b00 b = true)
    (he : ∀ n, h' (hold a n) (hold b n) = h (hold a n) (hold b n)) (hh' : ∀ x y, -1 ≤ x → x ≤ 7 → -1 ≤ y → y ≤ 7 → -1 ≤ h' x y ∧ h' x y ≤ 7) : combP h' (cellsE a b (edgesP a b)) = combP h (pieces a b) := by
  obtain ⟨c1, c2⟩ := refcells_law a b ha hb
  obtain ⟨p1, p2⟩ := pieces_law a b ha hb
  obtain ⟨x1, x2⟩ := comb_says h' hh' a b ha hb _ c1 c2
  obtain ⟨y1, y2⟩ := comb_says h hh a b ha hb _ p1 p2
  exact valid_ext _ _ _ _ x1 y1 (fun n => by rw [x2 n, y2 n, he n])
theorem fin_ref (h h' : Int → Int → Int) (hh : ∀ x y, -1 ≤ x → x ≤ 7 → -1 ≤ y → y ≤ 7 → -1 ≤ h x y ∧ h x y ≤ 7) (a b : List S53) (ha : validFrom b00 a = true) (hb : validFrom b00 b = true)
    (he : ∀ n, h' (hold a n) (hold b n) = h (hold a n) (hold b n)) (hh' : ∀ x y, -1 ≤ x → x ≤ 7 → -1 ≤ y → y ≤ 7 → -1 ≤ h' x y ∧ h' x y ≤ 7) : finR (combP h' (cellsE a b (edgesP a b))) = fin (combP h (pieces a b)) := by
  obtain ⟨p1, p2⟩ := pieces_law a b ha hb
  obtain ⟨y1, y2⟩ := comb_says h hh a b ha hb _ p1 p2
  rw [comb_ref h h' hh a b ha hb he hh']
  unfold finR fin validP
  rw [y1, Bool.and_true]
  by_cases hl : (combP h (pieces a b)).length ≤ 40
  · rw [if_pos (by simpa using hl), if_pos hl]
  · rw [if_neg (by simpa using hl), if_neg hl]
theorem over_ok (x y : Int) (h1 : -1 ≤ x) (h2 : x ≤ 7) (h3 : -1 ≤ y) (h4 : y ≤ 7) : -1 ≤ overP x y ∧ overP x y ≤ 7 := by unfold overP; split <;> omega
theorem away_ok (x y : Int) (h1 : -1 ≤ x) (h2 : x ≤ 7) (h3 : -1 ≤ y) (h4 : y ≤ 7) : -1 ≤ awayP x y ∧ awayP x y ≤ 7 := by unfold awayP; split <;> omega
theorem only_ok (x y : Int) (h1 : -1 ≤ x) (h2 : x ≤ 7) (h3 : -1 ≤ y) (h4 : y ≤ 7) : -1 ≤ onlyP x y ∧ onlyP x y ≤ 7 := by unfold onlyP; split <;> omega
theorem swap_ok (f t : Int) (ht : 0 ≤ t ∧ t ≤ 7) (x y : Int) (h1 : -1 ≤ x) (h2 : x ≤ 7) (h3 : -1 ≤ y) (h4 : y ≤ 7) : -1 ≤ swapP f t x y ∧ swapP f t x y ≤ 7 := by unfold swapP; split <;> omega
theorem hR_ok (way f t : Int) (ht : -1 ≤ t ∧ t ≤ 7) (x y : Int) (h1 : -1 ≤ x) (h2 : x ≤ 7) (h3 : -1 ≤ y) (h4 : y ≤ 7) : -1 ≤ hR way f t x y ∧ hR way f t x y ≤ 7 := by
  have e1 : -1 ≤ ref1 way x y ∧ ref1 way x y ≤ 7 := by unfold ref1; split <;> omega
  have e2 : -1 ≤ ref2 way x y ∧ ref2 way x y ≤ 7 := by unfold ref2; split <;> omega
  have e3 : -1 ≤ ref3 way f t x y ∧ ref3 way f t x y ≤ 7 := by unfold ref3; split <;> omega
  unfold hR; split <;> omega
theorem hR_over (x y : Int) (h1 : -1 ≤ x) (h3 : -1 ≤ y) : hR 0 (-1) (-1) x y = overP x y := by
  have e1 : ref1 0 x y = if 0 ≤ y then y else x := by unfold ref1; split <;> split <;> omega
  have e2 : ref2 0 x y = ref1 0 x y := by unfold ref2; rw [if_neg (by omega)]
  have e3 : ref3 0 (-1) (-1) x y = ref2 0 x y := by unfold ref3; rw [if_neg (by omega)]
  unfold hR overP; rw [e3, e2, e1]; (repeat' split) <;> omega
theorem hR_away (x y : Int) (h1 : -1 ≤ x) (h3 : -1 ≤ y) : hR 1 (-1) (-1) x y = awayP x y := by
  have e1 : ref1 1 x y = if 0 ≤ y then y else x := by unfold ref1; split <;> split <;> omega
  have e2 : ref2 1 x y = if 0 ≤ y then -1 else x := by unfold ref2; rw [e1]; split <;> split <;> omega
  have e3 : ref3 1 (-1) (-1) x y = ref2 1 x y := by unfold ref3; rw [if_neg (by omega)]
  unfold hR awayP; rw [e3, e2]; (repeat' split) <;> omega
theorem hR_only (x y : Int) (h1 : -1 ≤ x) (h3 : -1 ≤ y) : hR 2 (-1) (-1) x y = onlyP x y := by
  have e1 : ref1 2 x y = if y < 0 then y else x := by unfold ref1; split <;> split <;> omega
  have e2 : ref2 2 x y = ref1 2 x y := by unfold ref2; rw [if_neg (by omega)]
  have e3 : ref3 2 (-1) (-1) x y = ref2 2 x y := by unfold ref3; rw [if_neg (by omega)]
  unfold hR onlyP; rw [e3, e2, e1]; (repeat' split) <;> omega
theorem hR_swap (f t x : Int) (h1 : -1 ≤ x) (hf : 0 ≤ f) (ht : 0 ≤ t) : hR 0 f t x (-1) = swapP f t x (-1) := by
  have e1 : ref1 0 x (-1) = x := by unfold ref1; rw [if_neg (by omega)]
  have e2 : ref2 0 x (-1) = x := by unfold ref2; rw [if_neg (by omega), e1]
  have e3 : ref3 0 f t x (-1) = if x = f then t else x := by unfold ref3; rw [e2]; split <;> split <;> omega
  unfold hR swapP; rw [e3]; split <;> split <;> omega
theorem one_valid {f t c : Int} (hr : rangeB f t = true) (hc : carrB c = true) : validFrom b00 [⟨⟨f, t⟩, c⟩] = true := by
  simp only [rangeB, carrB, Bool.and_eq_true, decide_eq_true_eq] at hr hc
  have : badB b00 ⟨⟨f, t⟩, c⟩ = false := badB_of ⟨by show 0 ≤ f; omega, by show f < t; omega, by show t ≤ 100000000; omega, by show 0 ≤ c; omega, by show c ≤ 7; omega, by show 0 ≤ f; omega, by show ¬ (f = 0 ∧ c = -1); omega⟩
  simp [validFrom, this]
theorem give_eq (l : List S53) (f t c : Int) : giveR l f t c = giveP l f t c := by
  unfold giveR giveP
  by_cases h : (validP l && rangeB f t && carrB c) = true
  · rw [if_pos h, if_pos h]
    simp only [Bool.and_eq_true] at h
    have hl := validP_from h.1.1
    have ho := one_valid h.1.2 h.2
    exact fin_ref overP (hR 0 (-1) (-1)) over_ok l _ hl ho (fun n => hR_over _ _ (hold_range l _ hl n).1 (hold_range _ _ ho n).1) (hR_ok 0 (-1) (-1) (by omega))
  · rw [if_neg h, if_neg h]
theorem take_eq (l : List S53) (f t : Int) : takeR l f t = takeP l f t := by
  unfold takeR takeP
  by_cases h : (validP l && rangeB f t) = true
  · rw [if_pos h, if_pos h]
    simp only [Bool.and_eq_true] at h
    have hl := validP_from h.1
    have ho := one_valid (c := 0) h.2 (by decide)
    exact fin_ref awayP (hR 1 (-1) (-1)) away_ok l _ hl ho (fun n => hR_away _ _ (hold_range l _ hl n).1 (hold_range _ _ ho n).1) (hR_ok 1 (-1) (-1) (by omega))
  · rw [if_neg h, if_neg h]
theorem only_eq (l : List S53) (f t : Int) : onlyRR l f t = onlyR l f t := by
  unfold onlyRR onlyR
  by_cases h : (validP l && rangeB f t) = true
  · rw [if_pos h, if_pos h]
    simp only [Bool.and_eq_true] at h
    have hl := validP_from h.1
    have ho := one_valid (c := 0) h.2 (by decide)
    exact fin_ref onlyP (hR 2 (-1) (-1)) only_ok l _ hl ho (fun n => hR_only _ _ (hold_range l _ hl n).1 (hold_range _ _ ho n).1) (hR_ok 2 (-1) (-1) (by omega))
  · rw [if_neg h, if_neg h]
theorem overlay_eq (a b : List S53) : overlayR a b = overlayP a b := by
  unfold overlayR overlayP
  by_cases h : (validP a && validP b) = true
  · rw [if_pos h, if_pos h]
    simp only [Bool.and_eq_true] at h
    have hl := validP_from h.1
    have ho := validP_from h.2
    exact fin_ref overP (hR 0 (-1) (-1)) over_ok a b hl ho (fun n => hR_over _ _ (hold_range a _ hl n).1 (hold_range b _ ho n).1) (hR_ok 0 (-1) (-1) (by omega))
  · rw [if_neg h, if_neg h]
theorem swap_eq (l : List S53) (f t : Int) : swapRR l f t = swapR l f t := by
  unfold swapRR swapR
  by_cases h : (validP l && carrB f && carrB t) = true
  · rw [if_pos h, if_pos h]
    simp only [Bool.and_eq_true, carrB, decide_eq_true_eq] at h
    have hl := validP_from h.1.1
    exact fin_ref (swapP f t) (hR 0 f t) (swap_ok f t (by omega)) l [] hl rfl (fun n => by rw [hold_n]; exact hR_swap f t _ (hold_range l _ hl n).1 (by omega) (by omega)) (hR_ok 0 f t (by omega))
  · rw [if_neg h, if_neg h]

/-! ### 3. How many blocks a map has -/
/-- All numbers at which another one holds than before. -/
def Cut (l : List S53) (E : List Int) : Prop := ∀ n, hold l n ≠ hold l (n - 1) → n ∈ E
theorem cut_nil : Cut [] [] := fun n h => absurd rfl h
theorem change_at (l : List S53) : ∀ p, validFrom p l = true → ∀ b ∈ l, hold l (bF b) = bC b ∧ hold l (bF b - 1) ≠ bC b ∧ bT p ≤ bF b := by
  induction l with
  | nil => intro p _ b hb; simp at hb
  | cons c l ih =>
    intro p h b hb
    have hc := validFrom_cons h
    rcases List.mem_cons.1 hb with rfl | hb
    · refine ⟨by rw [hold_c, if_pos (by omega)], ?_, by omega⟩
      rw [hold_first h _ (by omega)]; omega
    · obtain ⟨i1, i2, i3⟩ := ih c hc.2 b hb
      refine ⟨by rw [hold_c, if_neg (by omega)]; exact i1, ?_, by omega⟩
      rw [hold_c]
      by_cases hlt : bF c ≤ bF b - 1 ∧ bF b - 1 < bT c
      · rw [if_pos hlt]
        have e : bF b = bT c := by omega
        have := hold_second h
        rw [← e, i1] at this
        exact fun he => this he.symm
      · rw [if_neg hlt]; exact i2
theorem asc_len (l : List Int) : ∀ E : List Int, Asc l → (∀ x ∈ l, x ∈ E) → l.length ≤ E.length := by
  induction l with
  | nil => intro E _ _; simp
  | cons x l ih =>
    intro E h hm
    have hx := hm x (by simp)
    have := ih (E.erase x) (asc_tail h) (fun y hy => by
      have hlt := asc_lt l x h y hy
      exact (List.mem_erase_of_ne (by omega)).2 (hm y (by simp [hy])))
    rw [List.length_erase_of_mem hx] at this
    have hp : 0 < E.length := List.length_pos_of_mem hx
    simp only [List.length_cons]
    omega
theorem map_asc (l : List S53) : ∀ p, validFrom p l = true → Asc (l.map bF) ∧ ∀ b ∈ l, bT p ≤ bF b := by
  induction l with
  | nil => intro p _; exact ⟨trivial, fun b hb => by simp at hb⟩
  | cons c l ih =>
    intro p h
    have hc := validFrom_cons h
    obtain ⟨i1, i2⟩ := ih c hc.2
    refine ⟨asc_of i1 (fun y hy => ?_), fun b hb => ?_⟩
    · obtain ⟨b, hb, rfl⟩ := List.mem_map.1 hy
      have := i2 b hb; omega
    · rcases List.mem_cons.1 hb with rfl | hb
      · omega
      · have := i2 b hb; omega
theorem cut_len {l : List S53} {E : List Int} (h : validFrom b00 l = true) (hE : Cut l E) : l.length ≤ E.length := by
  have := asc_len (l.map bF) E (map_asc l b00 h).1 (fun x hx => by
    obtain ⟨b, hb, rfl⟩ := List.mem_map.1 hx
    obtain ⟨h1, h2, _⟩ := change_at l b00 h b hb
    exact hE _ (fun e => h2 (by rw [← e]; exact h1)))
  simpa using this

/-! ### 4. What the operations do -/
theorem op_spec (h : Int → Int → Int) (hh : ∀ x y, -1 ≤ x → x ≤ 7 → -1 ≤ y → y ≤ 7 → -1 ≤ h x y ∧ h x y ≤ 7) (h0 : h (-1) (-1) = -1) (a b : List S53) (ha : validFrom b00 a = true) (hb : validFrom b00 b = true) (E F : List Int) (hE : Cut a E) (hF : Cut b F) (hlen : E.length + F.length ≤ 40) :
    ∃ out, fin (combP h (pieces a b)) = (out, 0) ∧ validP out = true ∧ (∀ n, hold out n = h (hold a n) (hold b n)) ∧ Cut out (E ++ F) := by
  obtain ⟨p1, p2⟩ := pieces_law a b ha hb
  obtain ⟨y1, y2⟩ := comb_says h hh a b ha hb _ p1 p2
  have hn : ∀ n, hold (combP h (pieces a b)) n = h (hold a n) (hold b n) := by
    intro n
    rw [y2 n]
    by_cases hn : 0 ≤ n ∧ n < 100000000
    · rw [if_pos hn]
    · rw [if_neg hn, hold_out a ha n (by omega), hold_out b hb n (by omega), h0]
  have hcut : Cut (combP h (pieces a b)) (E ++ F) := by
    intro n hne
    rw [hn, hn] at hne
    by_cases h1 : hold a n = hold a (n - 1)
    · by_cases h2 : hold b n = hold b (n - 1)
      · exact absurd (by rw [h1, h2]) hne
      · exact List.mem_append.2 (.inr (hF n h2))
    · exact List.mem_append.2 (.inl (hE n h1))
  have hl := cut_len y1 hcut
  rw [List.length_append] at hl
  refine ⟨_, by unfold fin; rw [if_pos (by omega)], ?_, hn, hcut⟩
  rw [validP, y1, Bool.and_true]
  exact decide_eq_true (by omega)
theorem hold_one (f t c n : Int) : hold [⟨⟨f, t⟩, c⟩] n = if f ≤ n ∧ n < t then c else -1 := hold_c _ _ _
theorem cut_one (f t c : Int) : Cut [⟨⟨f, t⟩, c⟩] [f, t] := by
  intro n hne
  rw [hold_one, hold_one] at hne
  simp only [List.mem_cons, List.not_mem_nil, or_false]
  by_cases h1 : f ≤ n ∧ n < t
  · rw [if_pos h1] at hne
    by_cases h2 : f ≤ n - 1 ∧ n - 1 < t
    · rw [if_pos h2] at hne; exact absurd rfl hne
    · omega
  · rw [if_neg h1] at hne
    by_cases h2 : f ≤ n - 1 ∧ n - 1 < t
    · omega
    · rw [if_neg h2] at hne; exact absurd rfl hne
section
variable {l : List S53} (hv : validP l = true) {E : List Int} (hE : Cut l E)
include hv hE
theorem give_spec {f t c : Int} (hr : rangeB f t = true) (hc : carrB c = true) (hlen : E.length ≤ 38) :
    ∃ out, giveP l f t c = (out, 0) ∧ validP out = true ∧ (∀ n, hold out n = if f ≤ n ∧ n < t then c else hold l n) ∧ Cut out (E ++ [f, t]) := by
  obtain ⟨out, h1, h2, h3, h4⟩ := op_spec overP over_ok rfl l [⟨⟨f, t⟩, c⟩] (validP_from hv) (one_valid hr hc) E [f, t] hE (cut_one f t c) (by simp; omega)
  refine ⟨out, by rw [giveP, hv, hr, hc]; exact h1, h2, fun n => ?_, h4⟩
  simp only [carrB, Bool.and_eq_true, decide_eq_true_eq] at hc
  rw [h3 n, hold_one, overP]
  split <;> split <;> first | rfl | omega
theorem take_spec {f t : Int} (hr : rangeB f t = true) (hlen : E.length ≤ 38) :
    ∃ out, takeP l f t = (out, 0) ∧ validP out = true ∧ (∀ n, hold out n = if f ≤ n ∧ n < t then -1 else hold l n) ∧ Cut out (E ++ [f, t]) := by
  obtain ⟨out, h1, h2, h3, h4⟩ := op_spec awayP away_ok rfl l [⟨⟨f, t⟩, 0⟩] (validP_from hv) (one_valid hr (by decide)) E [f, t] hE (cut_one f t 0) (by simp; omega)
  refine ⟨out, by rw [takeP, hv, hr]; exact h1, h2, fun n => ?_, h4⟩
  rw [h3 n, hold_one, awayP]
  split <;> split <;> first | rfl | omega
theorem only_spec {f t : Int} (hr : rangeB f t = true) (hlen : E.length ≤ 38) :
    ∃ out, onlyR l f t = (out, 0) ∧ validP out = true ∧ (∀ n, hold out n = if f ≤ n ∧ n < t then hold l n else -1) ∧ Cut out (E ++ [f, t]) := by
  obtain ⟨out, h1, h2, h3, h4⟩ := op_spec onlyP only_ok rfl l [⟨⟨f, t⟩, 0⟩] (validP_from hv) (one_valid hr (by decide)) E [f, t] hE (cut_one f t 0) (by simp; omega)
  refine ⟨out, by rw [onlyR, hv, hr]; exact h1, h2, fun n => ?_, h4⟩
  rw [h3 n, hold_one, onlyP]
  split <;> split <;> first | rfl | omega
theorem swap_spec {f t : Int} (hf : carrB f = true) (ht : carrB t = true) (hlen : E.length ≤ 40) :
    ∃ out, swapR l f t = (out, 0) ∧ validP out = true ∧ (∀ n, hold out n = if hold l n = f then t else hold l n) ∧ Cut out E := by
  have hf' := hf
  have ht' := ht
  simp only [carrB, Bool.and_eq_true, decide_eq_true_eq] at hf' ht'
  obtain ⟨out, h1, h2, h3, h4⟩ := op_spec (swapP f t) (swap_ok f t ht') (by unfold swapP; rw [if_neg (by omega)]) l [] (validP_from hv) rfl E [] hE cut_nil (by simp; omega)
  rw [List.append_nil] at h4
  exact ⟨out, by rw [swapR, hv, hf, ht]; exact h1, h2, fun n => by rw [h3 n]; rfl, h4⟩
theorem overlay_spec {m : List S53} (hw : validP m = true) {F : List Int} (hF : Cut m F) (hlen : E.length + F.length ≤ 40) :
    ∃ out, overlayP l m = (out, 0) ∧ validP out = true ∧ (∀ n, hold out n = if hold m n = -1 then hold l n else hold m n) ∧ Cut out (E ++ F) := by
  obtain ⟨out, h1, h2, h3, h4⟩ := op_spec overP over_ok rfl l m (validP_from hv) (validP_from hw) E F hE hF hlen
  exact ⟨out, by rw [overlayP, hv, hw]; exact h1, h2, fun n => by rw [h3 n]; rfl, h4⟩
end
end Go.Proofs.Ytdflgjgoikofaaa.Pl
