/- Plain: the pieces of two maps and the functions of package block as functions on lists; no condition. -/
import Derived.Test.YtdflgjgoikofaaaR0
set_option linter.unusedVariables false
set_option linter.unusedSimpArgs false
namespace Go.Proofs.Ytdflgjgoikofaaa.Pl
open Go.Proofs.Ytdflgjgoikofaaa.Ref

abbrev bF (b : S53) : Int := b.f0.f0
abbrev bT (b : S53) : Int := b.f0.f1
abbrev bC (b : S53) : Int := b.f1

/-- Who holds the number f, and up to where, in what is left of a map. -/
def atP : List S53 → Int → List S53 × Int × Int
  | [], _ => ([], -1, 100000000)
  | b :: l, f => if bT b ≤ f then atP l f else if f < bF b then (b :: l, -1, bF b) else (b :: l, bC b, bT b)

/-- A piece: from, to, and who holds its numbers in both maps. -/
structure Pc where
  f : Int
  t : Int
  x : Int
  y : Int

def pcs : Nat → List S53 → List S53 → Int → Option (List Pc)
  | 0, _, _, _ => none
  | k + 1, a, b, f => if f ≤ 99999999 then
      (pcs k (atP a f).1 (atP b f).1 (min (atP a f).2.2 (atP b f).2.2)).map (⟨f, min (atP a f).2.2 (atP b f).2.2, (atP a f).2.1, (atP b f).2.1⟩ :: ·)
    else some []

/-- The last block of a list. -/
def lastB (out : List S53) : S53 := rd_T53 out ((out.length : Int) - 1)
/-- May a piece held by k be joined to the last block? -/
def joins (out : List S53) (f k : Int) : Bool := decide (0 < out.length) && (bT (lastB out) == f) && (bC (lastB out) == k)
/-- One round of block.combine. -/
def stepC (h : Int → Int → Int) (out : List S53) (p : Pc) : List S53 :=
  if h p.x p.y = -1 then out
  else if joins out p.f (h p.x p.y) = true then out.set (out.length - 1) ⟨⟨bF (lastB out), p.t⟩, bC (lastB out)⟩
  else out ++ [⟨⟨p.f, p.t⟩, h p.x p.y⟩]
def combP (h : Int → Int → Int) (L : List Pc) : List S53 := L.foldl (stepC h) []
theorem stepC_len (h : Int → Int → Int) (out : List S53) (p : Pc) : (stepC h out p).length ≤ out.length + 1 := by
  unfold stepC
  split
  · omega
  · split <;> simp
theorem fold_len (h : Int → Int → Int) (L : List Pc) : ∀ out : List S53, (L.foldl (stepC h) out).length ≤ out.length + L.length := by
  induction L with
  | nil => intro out; simp
  | cons p L ih => intro out; have := ih (stepC h out p); have := stepC_len h out p; simp only [List.foldl_cons, List.length_cons]; omega
theorem combP_len (h : Int → Int → Int) (L : List Pc) : (combP h L).length ≤ L.length := by have := fold_len h L []; simpa [combP] using this
theorem combP_snoc (h : Int → Int → Int) (L : List Pc) (p : Pc) : combP h (L ++ [p]) = stepC h (combP h L) p := by simp [combP]
end Go.Proofs.Ytdflgjgoikofaaa.Pl

namespace Go.Proofs.Ytdflgjgoikofaaa.Pl
open Go.Proofs.Ytdflgjgoikofaaa.Ref

def rem1 (b : S53) (f : Int) : Nat := (if f < bF b then 1 else 0) + (if f < bT b then 1 else 0)
def rem : List S53 → Int → Nat
  | [], _ => 0
  | b :: l, f => rem1 b f + rem l f
theorem rem_mono (l : List S53) (f g : Int) (h : f ≤ g) : rem l g ≤ rem l f := by
  induction l with
  | nil => exact Nat.le_refl _
  | cons b l ih => simp only [rem, rem1]; split <;> split <;> split <;> split <;> omega
theorem rem_le (l : List S53) (f : Int) : rem l f ≤ 2 * l.length := by
  induction l with
  | nil => exact Nat.le_refl _
  | cons b l ih => simp only [rem, rem1, List.length_cons]; split <;> split <;> omega
theorem atP_step (l : List S53) (f : Int) (hf : f ≤ 99999999) : f < (atP l f).2.2 ∧ rem (atP l f).1 f ≤ rem l f ∧ (rem (atP l f).1 (atP l f).2.2 < rem l f ∨ (atP l f).2.2 = 100000000) := by
  induction l with
  | nil => exact ⟨by simp only [atP]; omega, Nat.le_refl _, .inr rfl⟩
  | cons b l ih =>
    simp only [atP]
    by_cases h1 : bT b ≤ f
    · rw [if_pos h1]
      refine ⟨ih.1, ?_, ?_⟩
      · simp only [rem]; omega
      · rcases ih.2.2 with h | h
        · exact .inl (by simp only [rem]; omega)
        · exact .inr h
    · rw [if_neg h1]
      by_cases h2 : f < bF b
      · rw [if_pos h2]
        refine ⟨h2, Nat.le_refl _, .inl ?_⟩
        have := rem_mono l f (bF b) (by omega)
        simp only [rem, rem1]
        rw [if_neg (by omega : ¬ bF b < bF b), if_pos h2, if_pos (by omega : f < bT b)]
        split <;> omega
      · rw [if_neg h2]
        refine ⟨by show f < bT b; omega, Nat.le_refl _, .inl ?_⟩
        have := rem_mono l f (bT b) (by omega)
        simp only [rem, rem1]
        rw [if_neg (by omega : ¬ bT b < bT b), if_neg h2, if_pos (by omega : f < bT b)]
        split <;> omega
theorem pcs_some (k : Nat) : ∀ (a b : List S53) (f : Int), rem a f + rem b f + (if f ≤ 99999999 then 1 else 0) < k → ∃ L, pcs k a b f = some L ∧ L.length ≤ rem a f + rem b f + (if f ≤ 99999999 then 1 else 0) := by
  induction k with
  | zero => intro a b f h; omega
  | succ k ih =>
    intro a b f h
    by_cases hf : f ≤ 99999999
    · rw [if_pos hf] at h ⊢
      obtain ⟨a1, a2, a3⟩ := atP_step a f hf
      obtain ⟨b1, b2, b3⟩ := atP_step b f hf
      have ma := rem_mono (atP a f).1 f (min (atP a f).2.2 (atP b f).2.2) (by omega)
      have mb := rem_mono (atP b f).1 f (min (atP a f).2.2 (atP b f).2.2) (by omega)
      have key : rem (atP a f).1 (min (atP a f).2.2 (atP b f).2.2) + rem (atP b f).1 (min (atP a f).2.2 (atP b f).2.2) + (if min (atP a f).2.2 (atP b f).2.2 ≤ 99999999 then 1 else 0) < rem a f + rem b f + 1 := by
        rcases Int.le_total (atP a f).2.2 (atP b f).2.2 with hle | hle
        · rw [Int.min_eq_left hle] at ma mb ⊢
          rcases a3 with h3 | h3
          · split <;> omega
          · rw [h3] at ma mb ⊢
            rw [if_neg (by omega)]
            omega
        · rw [Int.min_eq_right hle] at ma mb ⊢
          rcases b3 with h3 | h3
          · split <;> omega
          · rw [h3] at ma mb ⊢
            rw [if_neg (by omega)]
            omega
      obtain ⟨L, hL, hlen⟩ := ih (atP a f).1 (atP b f).1 (min (atP a f).2.2 (atP b f).2.2) (by omega)
      refine ⟨_, by simp only [pcs, if_pos hf]; rw [hL]; rfl, ?_⟩
      simp only [List.length_cons]
      omega
    · exact ⟨[], by simp only [pcs, if_neg hf], by simp⟩

/-- All pieces of two maps. -/
def pieces (a b : List S53) : List Pc := (pcs (2 * (a.length + b.length) + 2) a b 0).getD []
theorem pieces_some (a b : List S53) : pcs (2 * (a.length + b.length) + 2) a b 0 = some (pieces a b) ∧ (pieces a b).length ≤ 2 * (a.length + b.length) + 1 := by
  have h1 := rem_le a 0
  have h2 := rem_le b 0
  obtain ⟨L, hL, hlen⟩ := pcs_some (2 * (a.length + b.length) + 2) a b 0 (by rw [if_pos (by omega)]; omega)
  rw [if_pos (by omega)] at hlen
  have e : pieces a b = L := by rw [pieces, hL]; rfl
  rw [e]
  exact ⟨hL, by omega⟩

def rangeB (f t : Int) : Bool := decide (0 ≤ f) && decide (f < t) && decide (t ≤ 100000000)
def carrB (c : Int) : Bool := decide (0 ≤ c) && decide (c ≤ 7)
def badB (prev b : S53) : Bool := !rangeB (bF b) (bT b) || !carrB (bC b) || decide (bF b < bT prev) || (bF b == bT prev && bC b == bC prev)
def b00 : S53 := ⟨⟨0, 0⟩, -1⟩
def validFrom : S53 → List S53 → Bool
  | _, [] => true
  | prev, b :: l => !badB prev b && validFrom b l
def validP (l : List S53) : Bool := decide (l.length ≤ 40) && validFrom b00 l
theorem validFrom_iff (l : List S53) : ∀ prev, validFrom prev l = true ↔ ∀ j, j < l.length → badB ((prev :: l).getD j z53) (l.getD j z53) = false := by
  induction l with
  | nil => intro prev; simp [validFrom]
  | cons b l ih =>
    intro prev
    simp only [validFrom, Bool.and_eq_true, Bool.not_eq_true', ih b]
    constructor
    · rintro ⟨h1, h2⟩ j hj
      cases j with
      | zero => exact h1
      | succ j => exact h2 j (by simpa using hj)
    · intro h
      exact ⟨h 0 (by simp), fun j hj => h (j + 1) (by simpa using hj)⟩
theorem validP_len {l : List S53} (h : validP l = true) : l.length ≤ 40 := by
  rw [validP, Bool.and_eq_true] at h
  exact of_decide_eq_true h.1

/-- What block.combine makes of a list. -/
def fin (out : List S53) : List S53 × Int := if out.length ≤ 40 then (out, 0) else ([], 130)
def errR : List S53 × Int := ([], 130)
def overP (x y : Int) : Int := if y = -1 then x else y
def awayP (x y : Int) : Int := if y = -1 then x else -1
def onlyP (x y : Int) : Int := if y = -1 then -1 else x
def swapP (f t : Int) (x _y : Int) : Int := if x = f then t else x
def giveP (l : List S53) (f t c : Int) : List S53 × Int := if validP l && rangeB f t && carrB c then fin (combP overP (pieces l [⟨⟨f, t⟩, c⟩])) else errR
def takeP (l : List S53) (f t : Int) : List S53 × Int := if validP l && rangeB f t then fin (combP awayP (pieces l [⟨⟨f, t⟩, 0⟩])) else errR
def onlyR (l : List S53) (f t : Int) : List S53 × Int := if validP l && rangeB f t then fin (combP onlyP (pieces l [⟨⟨f, t⟩, 0⟩])) else errR
def overlayP (a b : List S53) : List S53 × Int := if validP a && validP b then fin (combP overP (pieces a b)) else errR
def swapR (l : List S53) (f t : Int) : List S53 × Int := if validP l && carrB f && carrB t then fin (combP (swapP f t) (pieces l [])) else errR
end Go.Proofs.Ytdflgjgoikofaaa.Pl

namespace Go.Proofs.Ytdflgjgoikofaaa.Pl
open Go.Proofs.Ytdflgjgoikofaaa.Ref

def holds (n : Int) (b : S53) : Bool := decide (bF b ≤ n) && decide (n < bT b)
def findP (l : List S53) (n : Int) : Int × Bool := if validP l then (match l.find? (holds n) with | some b => (bC b, true) | none => (0, false)) else (0, false)
theorem find_at (p : S53 → Bool) (l : List S53) : ∀ i, i < l.length → p (l.getD i z53) = true → (∀ j, j < i → p (l.getD j z53) = false) → l.find? p = some (l.getD i z53) := by
  induction l with
  | nil => intro i h; simp at h
  | cons b l ih =>
    intro i hi hp hn
    cases i with
    | zero => simp only [List.getD_cons_zero] at hp ⊢; rw [List.find?_cons_of_pos hp]
    | succ i =>
      have h0 := hn 0 (by omega)
      simp only [List.getD_cons_zero] at h0
      rw [List.find?_cons_of_neg (by rw [h0]; simp)]
      exact ih i (by simpa using hi) hp (fun j hj => hn (j + 1) (by omega))
theorem find_none (p : S53 → Bool) (l : List S53) (h : ∀ j, j < l.length → p (l.getD j z53) = false) : l.find? p = none := by
  rw [List.find?_eq_none]
  intro b hb
  obtain ⟨i, hi, rfl⟩ := List.getElem_of_mem hb
  have := h i hi
  rw [List.getD_eq_getElem?_getD, List.getElem?_eq_getElem hi] at this
  simpa using this

theorem badB_false {prev b : S53} (h : badB prev b = false) : 0 ≤ bF b ∧ bF b < bT b ∧ bT b ≤ 100000000 ∧ 0 ≤ bC b ∧ bC b ≤ 7 ∧ bT prev ≤ bF b ∧ ¬ (bF b = bT prev ∧ bC b = bC prev) := by
  simp only [badB, rangeB, carrB, Bool.or_eq_false_iff, Bool.not_eq_false', Bool.and_eq_true, decide_eq_true_eq, decide_eq_false_iff_not, Bool.and_eq_false_iff, beq_eq_false_iff_ne] at h
  omega
theorem badB_of {prev b : S53} (h : 0 ≤ bF b ∧ bF b < bT b ∧ bT b ≤ 100000000 ∧ 0 ≤ bC b ∧ bC b ≤ 7 ∧ bT prev ≤ bF b ∧ ¬ (bF b = bT prev ∧ bC b = bC prev)) : badB prev b = false := by
  simp only [badB, rangeB, carrB, Bool.or_eq_false_iff, Bool.not_eq_false', Bool.and_eq_true, decide_eq_true_eq, decide_eq_false_iff_not, Bool.and_eq_false_iff, beq_eq_false_iff_ne]
  omega
theorem valid_at {l : List S53} (h : validP l = true) (i : Nat) (hi : i < l.length) : 0 ≤ bF (l.getD i z53) ∧ bF (l.getD i z53) < bT (l.getD i z53) ∧ bT (l.getD i z53) ≤ 100000000 ∧ 0 ≤ bC (l.getD i z53) ∧ bC (l.getD i z53) ≤ 7 := by
  rw [validP, Bool.and_eq_true] at h
  have := badB_false ((validFrom_iff l b00).1 h.2 i hi)
  omega

def cnt (c : Int) : List S53 → Int
  | [] => 0
  | b :: l => (if bC b = c then bT b - bF b else 0) + cnt c l
def cntP (l : List S53) (c : Int) : Int := if validP l then cnt c l else 0
theorem cnt_append (c : Int) (l m : List S53) : cnt c (l ++ m) = cnt c l + cnt c m := by
  induction l with
  | nil => simp [cnt]
  | cons b l ih => simp only [List.cons_append, cnt, ih]; omega
theorem take_snoc53 (l : List S53) (i : Nat) (hi : i < l.length) : l.take (i + 1) = l.take i ++ [l.getD i z53] := by
  rw [List.take_succ_eq_append_getElem hi, List.getD_eq_getElem?_getD, List.getElem?_eq_getElem hi]
  rfl
theorem cnt_take (c : Int) (l : List S53) (i : Nat) (hi : i < l.length) : cnt c (l.take (i + 1)) = cnt c (l.take i) + (if bC (l.getD i z53) = c then bT (l.getD i z53) - bF (l.getD i z53) else 0) := by
  rw [take_snoc53 l i hi, cnt_append]; simp [cnt]
theorem cnt_bound (c : Int) (l : List S53) (h : validP l = true) : ∀ i, i ≤ l.length → 0 ≤ cnt c (l.take i) ∧ cnt c (l.take i) ≤ 100000000 * i := by
  intro i
  induction i with
  | zero => intro _; simp [cnt]
  | succ i ih =>
    intro hi
    have h1 := ih (by omega)
    have h2 := valid_at h i (by omega)
    rw [cnt_take c l i (by omega)]
    split <;> omega

/-- Free: the first piece without a holder that ends behind n. -/
def freeL (n : Int) : List Pc → Int × Bool
  | [] => (0, false)
  | p :: L => if p.x = -1 ∧ n < p.t then (max n p.f, true) else freeL n L
def freeP (l : List S53) (n : Int) : Int × Bool := if validP l = true ∧ 0 ≤ n ∧ n ≤ 99999999 then freeL n (pieces l []) else (0, false)

/-- Differ: the pieces that two maps hold differently, joined. -/
def stepD (out : List S26) (p : Pc) : List S26 :=
  if p.x = p.y then out
  else if decide (0 < out.length) && ((rd_T26 out ((out.length : Int) - 1)).f1 == p.f) then out.set (out.length - 1) ⟨(rd_T26 out ((out.length : Int) - 1)).f0, p.t⟩
  else out ++ [⟨p.f, p.t⟩]
def diffL (L : List Pc) : List S26 := L.foldl stepD []
theorem stepD_len (out : List S26) (p : Pc) : (stepD out p).length ≤ out.length + 1 := by
  unfold stepD
  split
  · omega
  · split <;> simp
theorem foldD_len (L : List Pc) : ∀ out : List S26, (L.foldl stepD out).length ≤ out.length + L.length := by
  induction L with
  | nil => intro out; simp
  | cons p L ih => intro out; have := ih (stepD out p); have := stepD_len out p; simp only [List.foldl_cons, List.length_cons]; omega
theorem diffL_len (L : List Pc) : (diffL L).length ≤ L.length := by have := foldD_len L []; simpa [diffL] using this
theorem diffL_snoc (L : List Pc) (p : Pc) : diffL (L ++ [p]) = stepD (diffL L) p := by simp [diffL]
def differP (a b : List S53) : List S26 × Int := if validP a && validP b then (diffL (pieces a b), 0) else ([], 130)
end Go.Proofs.Ytdflgjgoikofaaa.Pl

namespace Go.Proofs.Ytdflgjgoikofaaa.Pl
open Go.Proofs.Ytdflgjgoikofaaa.Ref

/-- Ascending numbers with a further one, each once. -/
def putP : List Int → Int → List Int
  | [], n => [n]
  | x :: l, n => if x < n then x :: putP l n else if x = n then x :: l else n :: x :: l
theorem putP_pre (pre suf : List Int) (n : Int) (h : ∀ x ∈ pre, x < n) : putP (pre ++ suf) n = pre ++ putP suf n := by
  induction pre with
  | nil => rfl
  | cons x pre ih =>
    simp only [List.cons_append, putP]
    rw [if_pos (h x (by simp)), ih (fun y hy => h y (by simp [hy]))]
theorem putP_len (l : List Int) (n : Int) : (putP l n).length ≤ l.length + 1 := by
  induction l with
  | nil => simp [putP]
  | cons x l ih => simp only [putP]; split; · simp; omega
                   · split <;> simp

def edgesF (o : List Int) (l : List S53) : List Int := l.foldl (fun o x => putP (putP o (bF x)) (bT x)) o
def edgesP (a b : List S53) : List Int := edgesF (edgesF [0, 100000000] a) b
theorem putP_pos (l : List Int) (n : Int) : 0 < (putP l n).length := by
  cases l with
  | nil => simp [putP]
  | cons x l =>
    simp only [putP]
    split
    · simp
    · split <;> simp
theorem edgesF_snoc (o : List Int) (l : List S53) (x : S53) : edgesF o (l ++ [x]) = putP (putP (edgesF o l) (bF x)) (bT x) := by simp [edgesF]
theorem edgesF_len (l : List S53) : ∀ o, (edgesF o l).length ≤ o.length + 2 * l.length := by
  induction l with
  | nil => intro o; simp [edgesF]
  | cons x l ih =>
    intro o
    have h1 := ih (putP (putP o (bF x)) (bT x))
    have h2 := putP_len (putP o (bF x)) (bT x)
    have h3 := putP_len o (bF x)
    simp only [edgesF, List.foldl_cons, List.length_cons] at h1 ⊢
    omega
theorem edgesF_pos (l : List S53) (o : List Int) (h : 0 < o.length) : 0 < (edgesF o l).length := by
  induction l generalizing o with
  | nil => exact h
  | cons x l ih => exact ih _ (putP_pos _ _)
theorem edgesF_take (o : List Int) (l : List S53) (i : Nat) (hi : i < l.length) : edgesF o (l.take (i + 1)) = putP (putP (edgesF o (l.take i)) (bF (l.getD i z53))) (bT (l.getD i z53)) := by
  rw [take_snoc53 l i hi, edgesF_snoc]

/-- Who holds a number in a list of blocks; -1 for nobody. -/
def hold (l : List S53) (n : Int) : Int := match l.find? (holds n) with | some b => bC b | none => -1
def ref1 (way x y : Int) : Int := if (way = 0 ∧ 0 ≤ y) ∨ (way = 1 ∧ 0 ≤ y) ∨ (way = 2 ∧ y < 0) then y else x
def ref2 (way x y : Int) : Int := if way = 1 ∧ 0 ≤ y then -1 else ref1 way x y
def ref3 (way from_ to_ x y : Int) : Int := if 0 ≤ ref2 way x y ∧ ref2 way x y = from_ then to_ else ref2 way x y
/-- The reference's combination of two holders. -/
def hR (way from_ to_ x y : Int) : Int := if ref3 way from_ to_ x y < 0 then -1 else ref3 way from_ to_ x y
/-- The cells between consecutive edges. -/
def cellsE (a b : List S53) : List Int → List Pc
  | [] => []
  | [_] => []
  | e :: e' :: E => ⟨e, e', hold a e, hold b e⟩ :: cellsE a b (e' :: E)
def cellAt (a b : List S53) (E : List Int) (i : Nat) : Pc := ⟨E.getD i 0, E.getD (i + 1) 0, hold a (E.getD i 0), hold b (E.getD i 0)⟩
theorem cellsE_take (a b : List S53) (E : List Int) : ∀ i, i + 1 < E.length → (cellsE a b E).take (i + 1) = (cellsE a b E).take i ++ [cellAt a b E i] := by
  induction E with
  | nil => intro i h; simp at h
  | cons e E ih =>
    intro i h
    cases E with
    | nil => simp at h
    | cons e' E =>
      cases i with
      | zero => rfl
      | succ i =>
        have := ih i (by simpa using h)
        simp only [cellsE, List.take_succ_cons, List.cons_append]
        rw [this]
        rfl
theorem cellsE_len (a b : List S53) (E : List Int) : (cellsE a b E).length = E.length - 1 := by
  induction E with
  | nil => rfl
  | cons e E ih =>
    cases E with
    | nil => rfl
    | cons e' E => simp only [cellsE, List.length_cons, ih]; simp
def finR (out : List S53) : List S53 × Int := if validP out then (out, 0) else ([], 130)
def refComb (a b : List S53) (way from_ to_ : Int) : List S53 × Int := finR (combP (hR way from_ to_) (cellsE a b (edgesP a b)))
end Go.Proofs.Ytdflgjgoikofaaa.Pl
